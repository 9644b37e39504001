/- The program's operations on plain typed data, that the machine does the same, what the functions come to, and what they give (part 5). No condition. -/
import Derived.Test.YtmdpmnjnpnjppaaEA4204
set_option linter.unusedVariables false
set_option linter.unusedSimpArgs false
namespace Go.Proofs
open Go.Shelf
def Try.l139_ren : Go.Shelf.Ren := ⟨fun | 6 => 139 | 15 => 133 | 14 => 155 | 28 => 151 | 29 => 152 | 20 => 172 | 21 => 173 | 22 => 174 | 23 => 175 | 24 => 176 | 25 => 177 | 26 => 178 | 27 => 179 | 46 => 184 | 47 => 167 | 48 => 168 | 49 => 185 | 50 => 186 | 57 => 188 | n => n, fun | 22 => 136 | 24 => 26 | 25 => 155 | 3 => 3 | 39 => 149 | 0 => 0 | 53 => 166 | 55 => 168 | 4 => 4 | 46 => 159 | 45 => 158 | 50 => 163 | 5 => 5 | 9 => 9 | 66 => 176 | 70 => 180 | 76 => 189 | 77 => 190 | n => n, fun | n => n⟩
theorem Try.l139 : Go.Proofs.SlLaysF.n6 Try.prog Try.l139_ren := {
  mixed := by kernel_rfl
  f6 := ⟨Try.f139.name, by decide, Try.func139.trans (congrArg some (by kernel_rfl))⟩
  f14 := ⟨Try.f155.name, by decide, Try.func155.trans (congrArg some (by kernel_rfl))⟩
  f15 := Try.func133.trans (congrArg some (by kernel_rfl))
  f20 := ⟨Try.f172.name, by decide, Try.func172.trans (congrArg some (by kernel_rfl))⟩
  f21 := ⟨Try.f173.name, by decide, Try.func173.trans (congrArg some (by kernel_rfl))⟩
  f22 := ⟨Try.f174.name, by decide, Try.func174.trans (congrArg some (by kernel_rfl))⟩
  f23 := ⟨Try.f175.name, by decide, Try.func175.trans (congrArg some (by kernel_rfl))⟩
  f24 := ⟨Try.f176.name, by decide, Try.func176.trans (congrArg some (by kernel_rfl))⟩
  f25 := ⟨Try.f177.name, by decide, Try.func177.trans (congrArg some (by kernel_rfl))⟩
  f26 := ⟨Try.f178.name, by decide, Try.func178.trans (congrArg some (by kernel_rfl))⟩
  f27 := ⟨Try.f179.name, by decide, Try.func179.trans (congrArg some (by kernel_rfl))⟩
  f28 := Try.func151.trans (congrArg some (by kernel_rfl))
  f29 := Try.func152.trans (congrArg some (by kernel_rfl))
  f46 := ⟨Try.f184.name, by decide, Try.func184.trans (congrArg some (by kernel_rfl))⟩
  f47 := Try.func167.trans (congrArg some (by kernel_rfl))
  f48 := Try.func168.trans (congrArg some (by kernel_rfl))
  f49 := ⟨Try.f185.name, by decide, Try.func185.trans (congrArg some (by kernel_rfl))⟩
  f50 := ⟨Try.f186.name, by decide, Try.func186.trans (congrArg some (by kernel_rfl))⟩
  f57 := ⟨Try.f188.name, by decide, Try.func188.trans (congrArg some (by kernel_rfl))⟩
  t0 := Try.underlying0
  a0 := Try.isAgg0
  z0 := Try.sizeOf0
  v0 := Try.zeroValue0
  t3 := Try.underlying3
  a3 := Try.isAgg3
  z3 := Try.sizeOf3
  v3 := Try.zeroValue3
  t4 := Try.underlying4
  a4 := Try.isAgg4
  z4 := Try.sizeOf4
  v4 := Try.zeroValue4
  t5 := Try.underlying5
  a5 := Try.isAgg5
  z5 := Try.sizeOf5
  v5 := Try.zeroValue5
  t9 := Try.underlying9
  a9 := Try.isAgg9
  z9 := Try.sizeOf9
  v9 := Try.zeroValue9
  t22 := Try.underlying136
  a22 := Try.isAgg136
  z22 := Try.sizeOf136
  v22 := Try.zeroValue136
  a24 := Try.isAgg26
  z24 := Try.sizeOf26
  t25 := Try.underlying155
  a25 := Try.isAgg155
  z25 := Try.sizeOf155
  v25 := Try.zeroValue155
  t39 := Try.underlying149
  a39 := Try.isAgg149
  z39 := Try.sizeOf149
  v39 := Try.zeroValue149
  t45 := Try.underlying158
  a45 := Try.isAgg158
  z45 := Try.sizeOf158
  v45 := Try.zeroValue158
  t46 := Try.underlying159
  a46 := Try.isAgg159
  z46 := Try.sizeOf159
  v46 := Try.zeroValue159
  t50 := Try.underlying163
  a50 := Try.isAgg163
  z50 := Try.sizeOf163
  v50 := Try.zeroValue163
  t53 := Try.underlying166
  a53 := Try.isAgg166
  z53 := Try.sizeOf166
  v53 := Try.zeroValue166
  t55 := Try.underlying168
  a55 := Try.isAgg168
  z55 := Try.sizeOf168
  v55 := Try.zeroValue168
  t66 := Try.underlying176
  a66 := Try.isAgg176
  z66 := Try.sizeOf176
  v66 := Try.zeroValue176
  t70 := Try.underlying180
  a70 := Try.isAgg180
  z70 := Try.sizeOf180
  v70 := Try.zeroValue180
  t76 := Try.underlying189
  a76 := Try.isAgg189
  z76 := Try.sizeOf189
  v76 := Try.zeroValue189
  t77 := Try.underlying190
  a77 := Try.isAgg190
  z77 := Try.sizeOf190
  v77 := Try.zeroValue190 }
def Try.l129_ren : Go.Shelf.Ren := ⟨fun | 6 => 129 | 15 => 133 | 14 => 142 | 28 => 151 | 29 => 152 | 20 => 158 | 21 => 159 | 22 => 160 | 23 => 161 | 24 => 162 | 25 => 163 | 26 => 164 | 27 => 165 | 46 => 180 | 47 => 167 | 48 => 168 | 49 => 181 | 50 => 182 | 57 => 187 | n => n, fun | 22 => 29 | 24 => 67 | 25 => 119 | 3 => 3 | 39 => 149 | 0 => 0 | 53 => 166 | 55 => 168 | 4 => 4 | 46 => 159 | 45 => 158 | 50 => 163 | 5 => 5 | 9 => 9 | 66 => 176 | 70 => 180 | 76 => 189 | 77 => 190 | n => n, fun | n => n⟩
theorem Try.l129 : Go.Proofs.SlLaysF0.n6 Try.prog Try.l129_ren := {
  mixed := by kernel_rfl
  f6 := ⟨Try.f129.name, by decide, Try.func129.trans (congrArg some (by kernel_rfl))⟩
  f14 := ⟨Try.f142.name, by decide, Try.func142.trans (congrArg some (by kernel_rfl))⟩
  f15 := Try.func133.trans (congrArg some (by kernel_rfl))
  f20 := ⟨Try.f158.name, by decide, Try.func158.trans (congrArg some (by kernel_rfl))⟩
  f21 := ⟨Try.f159.name, by decide, Try.func159.trans (congrArg some (by kernel_rfl))⟩
  f22 := ⟨Try.f160.name, by decide, Try.func160.trans (congrArg some (by kernel_rfl))⟩
  f23 := ⟨Try.f161.name, by decide, Try.func161.trans (congrArg some (by kernel_rfl))⟩
  f24 := ⟨Try.f162.name, by decide, Try.func162.trans (congrArg some (by kernel_rfl))⟩
  f25 := ⟨Try.f163.name, by decide, Try.func163.trans (congrArg some (by kernel_rfl))⟩
  f26 := ⟨Try.f164.name, by decide, Try.func164.trans (congrArg some (by kernel_rfl))⟩
  f27 := ⟨Try.f165.name, by decide, Try.func165.trans (congrArg some (by kernel_rfl))⟩
  f28 := Try.func151.trans (congrArg some (by kernel_rfl))
  f29 := Try.func152.trans (congrArg some (by kernel_rfl))
  f46 := ⟨Try.f180.name, by decide, Try.func180.trans (congrArg some (by kernel_rfl))⟩
  f47 := Try.func167.trans (congrArg some (by kernel_rfl))
  f48 := Try.func168.trans (congrArg some (by kernel_rfl))
  f49 := ⟨Try.f181.name, by decide, Try.func181.trans (congrArg some (by kernel_rfl))⟩
  f50 := ⟨Try.f182.name, by decide, Try.func182.trans (congrArg some (by kernel_rfl))⟩
  f57 := ⟨Try.f187.name, by decide, Try.func187.trans (congrArg some (by kernel_rfl))⟩
  t0 := Try.underlying0
  a0 := Try.isAgg0
  z0 := Try.sizeOf0
  v0 := Try.zeroValue0
  t3 := Try.underlying3
  a3 := Try.isAgg3
  z3 := Try.sizeOf3
  v3 := Try.zeroValue3
  t4 := Try.underlying4
  a4 := Try.isAgg4
  z4 := Try.sizeOf4
  v4 := Try.zeroValue4
  t5 := Try.underlying5
  a5 := Try.isAgg5
  z5 := Try.sizeOf5
  v5 := Try.zeroValue5
  t9 := Try.underlying9
  a9 := Try.isAgg9
  z9 := Try.sizeOf9
  v9 := Try.zeroValue9
  t22 := Try.underlying29
  a22 := Try.isAgg29
  z22 := Try.sizeOf29
  v22 := Try.zeroValue29
  t25 := Try.underlying119
  a25 := Try.isAgg119
  z25 := Try.sizeOf119
  v25 := Try.zeroValue119
  t39 := Try.underlying149
  a39 := Try.isAgg149
  z39 := Try.sizeOf149
  v39 := Try.zeroValue149
  t45 := Try.underlying158
  a45 := Try.isAgg158
  z45 := Try.sizeOf158
  v45 := Try.zeroValue158
  t46 := Try.underlying159
  a46 := Try.isAgg159
  z46 := Try.sizeOf159
  v46 := Try.zeroValue159
  t50 := Try.underlying163
  a50 := Try.isAgg163
  z50 := Try.sizeOf163
  v50 := Try.zeroValue163
  t53 := Try.underlying166
  a53 := Try.isAgg166
  z53 := Try.sizeOf166
  v53 := Try.zeroValue166
  t55 := Try.underlying168
  a55 := Try.isAgg168
  z55 := Try.sizeOf168
  v55 := Try.zeroValue168
  t66 := Try.underlying176
  a66 := Try.isAgg176
  z66 := Try.sizeOf176
  v66 := Try.zeroValue176
  t70 := Try.underlying180
  a70 := Try.isAgg180
  z70 := Try.sizeOf180
  v70 := Try.zeroValue180
  t76 := Try.underlying189
  a76 := Try.isAgg189
  z76 := Try.sizeOf189
  v76 := Try.zeroValue189
  t77 := Try.underlying190
  a77 := Try.isAgg190
  z77 := Try.sizeOf190
  v77 := Try.zeroValue190 }
end Go.Proofs
namespace Go.Proofs.YtmdpmnjnpnjppaaEv
open Go Go.RowKit Go.Proofs Go.Shelf Go.Sort
def sortK {α : Type} (key : α → Int) (l : List α) : List α := l.mergeSort fun a b => decide (key a ≤ key b)
theorem sortK_unique {α : Type} {key : α → Int} {l l' : List α} (hp : l'.Perm l) (hs : l'.Pairwise fun a b => key a ≤ key b) (hn : (l.map key).Nodup) : l' = sortK key l := by
  have inj : ∀ a b, a ∈ l → b ∈ l → key a = key b → a = b := by
    clear hp hs
    intro a b ha hb he
    induction l with
    | nil => cases ha
    | cons x r ih =>
      simp only [List.map_cons, List.nodup_cons, List.mem_map, not_exists, not_and] at hn
      rcases List.mem_cons.1 ha with rfl | ha' <;> rcases List.mem_cons.1 hb with rfl | hb'
      · rfl
      · exact absurd he.symm (hn.1 b hb')
      · exact absurd he (hn.1 a ha')
      · exact ih hn.2 ha' hb'
  have hp2 := List.mergeSort_perm l fun a b => decide (key a ≤ key b)
  refine List.Perm.eq_of_pairwise (le := fun a b => key a ≤ key b) (fun a b ha hb h1 h2 => inj a b (hp.mem_iff.1 ha) (hp2.mem_iff.1 hb) (by omega)) hs ?_ (hp.trans hp2.symm)
  have := List.pairwise_mergeSort (le := fun a b : α => decide (key a ≤ key b)) (fun a b c h1 h2 => by simp at *; omega) (fun a b => by simp; omega) l
  exact this.imp fun h => by simpa using h
theorem perm_sorted {α β : Type} [Inhabited α] {key : β → Int} {val : α → β} {cf : α → α → Int} {d d' : Array α} (hk : ∀ x y, cf x y < 0 ↔ key (val x) < key (val y)) (hp : PermIn 0 d.size d d') (hs : SortedIn (ltOf cf) 0 d.size d') (hn : (d.toList.map fun x => key (val x)).Nodup) :
    d'.toList.Perm d.toList ∧ d'.toList.map val = sortK key (d.toList.map val) := by
  obtain ⟨h1, _, h3⟩ := hp
  have e1 : d'.extract 0 d.size = d' := by rw [← h1]; exact Array.extract_size
  have e2 : d.extract 0 d.size = d := Array.extract_size
  rw [e1, e2] at h3
  refine ⟨h3, sortK_unique (h3.map val) ?_ (by rw [List.map_map]; exact hn)⟩
  rw [List.pairwise_map]
  refine List.pairwise_iff_getElem.2 fun i j hi hj hij => ?_
  simp only [Array.length_toList] at hi hj
  have := hs i j (Nat.zero_le _) hij (by omega)
  rw [getElem!_pos d' i (by omega), getElem!_pos d' j (by omega)] at this
  simp only [ltOf, decide_eq_false_iff_not, hk] at this
  simp only [Array.getElem_toList]
  omega
theorem swo_key {α : Type} {cf : α → α → Int} {key : α → Int} (hk : ∀ x y, cf x y < 0 ↔ key x < key y) : SWO (ltOf cf) where
  irrefl x := by simp [ltOf, hk]
  trans x y z h1 h2 := by simp only [ltOf, decide_eq_true_eq, hk] at *; omega
  ntrans x y z h1 h2 := by simp only [ltOf, decide_eq_false_iff_not, hk] at *; omega
theorem grown_of {P : Program} {W w' : World} (h : Below W.heap.size W w') (hd : W.drawn ≤ w'.drawn) : ∃ q os', w' = grow (W.drewN q) os' := by
  refine ⟨w'.drawn - W.drawn, w'.heap.extract W.heap.size w'.heap.size, ?_⟩
  have e : w'.heap = W.heap ++ w'.heap.extract W.heap.size w'.heap.size := by
    apply Array.ext_getElem?
    intro i
    rw [Array.getElem?_append]
    split
    · exact h.block i ‹_›
    · rename_i q
      rw [Array.getElem?_extract]
      split
      · congr 1; omega
      · rw [Array.getElem?_eq_none (by have := h.size; omega)]
  obtain ⟨hp, tp, dr, os, op⟩ := w'
  have h1 := h.os; have h2 := h.tape; have h3 := h.output
  simp only at h1 h2 h3 e hd
  subst h1; subst h2; subst h3
  simp only [grow, World.drewN]
  congr 1
  omega
structure El (h : Mem) (b : Nat) (u : Ty) (good : u.den → Prop) where
  cs : List Value
  x : u.den
  bs : List Nat
  rd : Rd h u x cs bs
  ok : good x
  out : ∀ z ∈ bs, z ≠ b ∧ z < h.size
theorem els_of {h : Mem} {b : Nat} {u : Ty} {good : u.den → Prop} : ∀ {l : List u.den} {cs : List Value} {bs : List Nat}, RdL (Rd h u) u.size l cs bs → (∀ x ∈ l, good x) → (∀ z ∈ bs, z ≠ b ∧ z < h.size) →
    ∃ L : List (El h b u good), L.map El.x = l ∧ (L.map El.bs).flatten = bs ∧ ∀ j (hj : j < L.length), (cs.drop (j * u.size)).take u.size = L[j].cs
  | [], cs, bs, hr, _, _ => ⟨[], rfl, by rw [show bs = [] from hr]; rfl, fun j hj => by cases hj⟩
  | x :: l, cs, bs, ⟨b1, b2, h1, h2, h3⟩, hg, ho => by
    subst h3
    obtain ⟨L, q1, q2, q3⟩ := els_of h2 (fun x hx => hg x (.tail _ hx)) (fun z hz => ho z (List.mem_append_right _ hz))
    refine ⟨⟨cs.take u.size, x, b1, h1, hg x (.head _), fun z hz => ho z (List.mem_append_left _ hz)⟩ :: L, by simp [q1], by simp [q2], fun j hj => ?_⟩
    cases j with
    | zero => simp
    | succ j =>
      have := q3 j (by simpa using hj)
      simp only [List.getElem_cons_succ]
      rw [← this, List.drop_drop, Nat.succ_mul, Nat.add_comm]
theorem els_rd {h h' : Mem} {b : Nat} {u : Ty} {good : u.den → Prop} (hh : ∀ z, z ≠ b → z < h.size → h'[z]? = h[z]?) : ∀ {L : List (El h b u good)} {cs : List Value}, (∀ j (hj : j < L.length), (cs.drop (j * u.size)).take u.size = L[j].cs) → RdL (Rd h' u) u.size (L.map El.x) cs (L.map El.bs).flatten
  | [], cs, _ => rfl
  | e :: L, cs, hc => by
    refine ⟨e.bs, (L.map El.bs).flatten, ?_, els_rd hh fun j hj => ?_, rfl⟩
    · have := hc 0 (by simp)
      simp only [Nat.zero_mul, List.drop_zero, List.getElem_cons_zero] at this
      rw [this]
      exact e.rd.frame fun z hz => hh z (e.out z hz).1 (e.out z hz).2
    · have := hc (j + 1) (by simpa using hj)
      simp only [List.getElem_cons_succ] at this
      rw [← this, List.drop_drop, Nat.succ_mul, Nat.add_comm]
section
variable {P : Program} {α : Type} [Inhabited α] {w : World} {b o : Nat} {c : Array Value} {e : TypeId} {fr : Nat × Nat}
theorem sw_other (enc : α → Value) {m : Nat} {dk : Array α} {os : Array Obj} {z : Nat} (hz : z ≠ b) (hl : z < w.heap.size) : (sortWorld enc w b o m dk os).heap[z]? = w.heap[z]? := by
  unfold sortWorld
  rw [heap_grow_old _ _ (by simpa [putRow, mapBlock, Sort.ahead] using hl)]
  simp only [putRow, mapBlock, Sort.ahead, Array.getElem?_modify]
  rw [if_neg (fun q => hz q.symm)]
theorem sw_self (enc : α → Value) {m : Nat} {dk : Array α} {os : Array Obj} (h : w.heap[b]? = some (.cells c e fr)) : (sortWorld enc w b o m dk os).heap[b]? = some (.cells (putCells enc o dk c) e fr) := by
  have hl : b < w.heap.size := by
    rcases Nat.lt_or_ge b w.heap.size with q | q
    · exact q
    · rw [Array.getElem?_eq_none q] at h; cases h
  unfold sortWorld
  rw [heap_grow_old _ _ (by simpa [putRow, mapBlock, Sort.ahead] using hl)]
  simp only [putRow, mapBlock, Sort.ahead, Array.getElem?_modify, if_true, h, Option.map_some, onCells]
theorem sw_size (enc : α → Value) {m : Nat} {dk : Array α} {os : Array Obj} : w.heap.size ≤ (sortWorld enc w b o m dk os).heap.size := by
  unfold sortWorld; simp [grow, putRow, mapBlock, Sort.ahead]
theorem put_get (enc : α → Value) {d : Array α} {j : Nat} (hj : j < d.size) (hc : o + d.size ≤ c.size) : (putCells enc o d c)[o + j]? = some (enc d[j]!) := by
  simp only [putCells, Array.getElem?_mapIdx]
  rw [Array.getElem?_eq_getElem (by omega)]
  simp only [Option.map_some]
  rw [if_pos (by omega)]
  congr 2; congr 1; omega
end
section
variable {P : Program} {e : TypeId} {u : Ty} {g : Nat} {cf : u.den → u.den → Int} {key : u.den → Int} {good : u.den → Prop} {fr st f1 f2 : Bool} {F : Args [.v u, .v u] → Option (Ress [.int .i64])} {f : Args [.v (.slice e u), .fn g] → Option (Ress [.slice e u])}
theorem take1 {α : Type} {l : List α} {i : Nat} (h : i < l.length) : (l.drop i).take 1 = [l[i]] := by rw [List.drop_eq_getElem_cons h]; rfl
theorem sort_nil {w w' : World} {v : Value} {ba : List Nat} (ho : OneV w.heap (.slice e u) [] v ba) (hnd : ba.Nodup) (hw : ∀ b ∈ ba, ∃ c e, w.heap[b]? = some (.cells c e (0, 0))) :
    AfterIn ⟨[.v (.slice e u), .fn g], [.slice e u], f1, f2, 1, f⟩ (sortK key [], ()) w (v :: [.func (.func g) #[] #[]]) ba (.returned (.tuple #[])) w := by
  have : sortK key ([] : List u.den) = [] := by simp [sortK]
  rw [this]
  exact ⟨v, [], ba, rfl, rfl, ⟨v, [], ba, [], rfl, ho, fun q => (by cases q), ⟨rfl, rfl⟩, by simp⟩, ⟨hnd, fun _ h => h⟩, rfl, Tp.refl, rfl, Nat.le_refl _, fun _ _ _ => rfl, hw⟩
theorem cmp_call (hg : FnOK P g ⟨[.v u, .v u], [.int .i64], fr, st, 0, F⟩) (hF : ∀ a b, good a → good b → F (a, b, ()) = some (cf a b, ())) {h : Mem} {b : Nat} {W : World} (hh : ∀ z, z ≠ b → z < h.size → W.heap[z]? = h[z]?) (x y : El h b u good) {vx vy : Value}
    (hx : vx.cells.toList = x.cs ∧ (u.agg = true → vx = .agg vx.cells) ∧ (u.agg = false → vx.cells = #[vx])) (hy : vy.cells.toList = y.cs ∧ (u.agg = true → vy = .agg vy.cells) ∧ (u.agg = false → vy.cells = #[vy])) :
    Calls P g #[vx, vy] W fun e w' => e = .returned (.int .i64 (cf x.x y.x)) ∧ ∃ q os', w' = grow (W.drewN q) os' := by
  have fx : OneV W.heap u x.x vx x.bs := ⟨by rw [hx.1]; exact x.rd.frame fun z hz => hh z (x.out z hz).1 (x.out z hz).2, hx.2.1, hx.2.2⟩
  have fy : OneV W.heap u y.x vy y.bs := ⟨by rw [hy.1]; exact y.rd.frame fun z hz => hh z (y.out z hz).1 (y.out z hz).2, hy.2.1, hy.2.2⟩
  refine (hg (x.x, y.x, ()) (cf x.x y.x, ()) (hF _ _ x.ok y.ok) W [vx, vy] (x.bs ++ (y.bs ++ [])) ⟨vx, [vy], _, _, rfl, rfl, fx, vy, [], _, _, rfl, rfl, fy, rfl, rfl⟩).mono ?_
  rintro e w' ⟨rv, bs, rfl, hres, hbel, hdr, _, _⟩
  obtain ⟨v, r, b1, b2, rfl, ho, _, ⟨rfl, _⟩, _⟩ := hres
  refine ⟨?_, grown_of (P := P) hbel hdr⟩
  have c1 := ho.2.2 rfl
  have c2 := ho.1.1
  rw [c1] at c2
  simp only [List.cons.injEq, and_true] at c2
  rw [c2]; rfl
theorem after_sort {w w' : World} {b o cap : Nat} {c : Array Value} {bs' : List Nat} {l : List u.den} {L : List (El w.heap b u good)} {d' : Array (El w.heap b u good)} {e2 : TypeId} (h4 : w.heap[b]? = some (.cells c e2 (0, 0))) (h5 : o + cap * u.size ≤ c.size) (h3 : l.length ≤ cap ∧ 0 < cap) (hnd : (b :: bs').Nodup)
    (hw : ∀ z ∈ b :: bs', ∃ c e, w.heap[z]? = some (.cells c e (0, 0))) (q1 : L.map El.x = l) (q2 : (L.map El.bs).flatten = bs') (hp : d'.toList.Perm L) (hs : d'.toList.map El.x = sortK key l)
    (os : w'.os = w.os) (tp : Tp w' w) (out : w'.output = w.output) (size : w.heap.size ≤ w'.heap.size) (oth : ∀ z, z ≠ b → z < w.heap.size → w'.heap[z]? = w.heap[z]?) {c' : Array Value} (hb : w'.heap[b]? = some (.cells c' e2 (0, 0))) (hcs : c'.size = c.size)
    (hc : ∀ j (hj : j < d'.toList.length), ((c'.toList.drop o).drop (j * u.size)).take u.size = d'.toList[j].cs) :
    AfterIn ⟨[.v (.slice e u), .fn g], [.slice e u], f1, f2, 1, f⟩ (sortK key l, ()) w (.slice (some ⟨b, o, none⟩) l.length cap :: [.func (.func g) #[] #[]]) (b :: bs') (.returned (.tuple #[])) w' := by
  have hlen : (sortK key l).length = l.length := by rw [← hs, List.length_map, hp.length_eq, ← q1, List.length_map]
  have hrd : RdL (Rd w'.heap u) u.size (sortK key l) (c'.toList.drop o) (d'.toList.map El.bs).flatten := by rw [← hs]; exact els_rd oth hc
  have hpb : ((d'.toList.map El.bs).flatten).Perm bs' := by rw [← q2]; exact (hp.map El.bs).flatten
  refine ⟨_, [], b :: (d'.toList.map El.bs).flatten, rfl, rfl, ⟨_, [], _, [], rfl, ⟨⟨.slice (some ⟨b, o, none⟩) l.length cap, some b, _, rfl, .inr ⟨b, o, cap, c', (0, 0), by rw [hlen], rfl, by rw [hlen]; exact h3, ⟨_, hb⟩, by rw [hcs]; exact h5, hrd⟩, rfl⟩, fun q => (by cases q), fun _ => rfl⟩, fun q => (by cases q), ⟨rfl, rfl⟩, by simp⟩,
    ⟨(hpb.cons b).nodup_iff.2 hnd, fun z hz => (hpb.cons b).mem_iff.1 hz⟩, os, tp, out, size, fun z hz hn => oth z (fun q => hn (by rw [q]; exact .head _)) hz, fun z hz => ?_⟩
  by_cases q : z = b
  · subst q; exact ⟨c', e2, hb⟩
  · obtain ⟨c1, e1, k⟩ := hw z hz
    have : z < w.heap.size := by
      rcases Nat.lt_or_ge z w.heap.size with q | q
      · exact q
      · rw [Array.getElem?_eq_none q] at k; cases k
    exact ⟨c1, e1, by rw [oth z q this]; exact k⟩
theorem sortRows_ok {ρ : Ren} (lay : SlLaysF.n6 P ρ) (hu : u.size = 1) (ha : u.agg = false) (hg : FnOK P g ⟨[.v u, .v u], [.int .i64], fr, st, 0, F⟩) (hF : ∀ a b, good a → good b → F (a, b, ()) = some (cf a b, ())) (hk : ∀ a b, good a → good b → (cf a b < 0 ↔ key a < key b))
    (eg : ∀ args w, (callFunc g args).run P w = .ok (.enter g args) w) (hf : ∀ x y, f x = some y → x.1.length ≤ 1000000 ∧ (∀ r ∈ x.1, good r) ∧ (x.1.map key).Nodup ∧ y = (sortK key x.1, ())) : InOK P (ρ.f 6) ⟨[.v (.slice e u), .fn g], [.slice e u], f1, f2, 1, f⟩ := by
  intro x y hxy w vs ba hv hnd hw
  obtain ⟨l, _, _⟩ := x
  obtain ⟨h1, h2, h3, rfl⟩ := hf _ _ hxy
  replace h1 : l.length ≤ 1000000 := h1
  replace h2 : ∀ r ∈ l, good r := h2
  replace h3 : (l.map key).Nodup := h3
  obtain ⟨v, r, b1, b2, rfl, rfl, ho, r', rfl, rfl, rfl⟩ := hv
  replace ho : OneV w.heap (.slice e u) l v b1 := ho
  rw [List.append_nil] at hnd hw ⊢
  have ho' := ho
  obtain ⟨⟨hd, blk, bs', z1, z2, z3⟩, _, z4⟩ := ho
  have hc := z4 rfl
  have eh : hd = v := by rw [hc] at z1; injection z1 with z1 _; exact z1.symm
  subst eh
  rcases z2 with ⟨pz, rfl, rfl, rfl, rfl⟩ | ⟨b, o, cap, c, fz, rfl, rfl, e3, ⟨e', e4⟩, e5, e6⟩
  · refine (AnyF.slices_SortFunc_none { lay with } pz 0 _ w).mono ?_
    rintro e w' ⟨rfl, hq⟩
    rw [hq]
    exact sort_nil (w' := w) ho' hnd hw
  · by_cases hl : l = []
    · subst hl
      refine (AnyF.slices_SortFunc_none { lay with } (some ⟨b, o, none⟩) cap _ w).mono ?_
      rintro e w' ⟨rfl, hq⟩
      rw [hq]
      exact sort_nil (w' := w) ho' hnd hw
    · simp only [Option.toList_some, List.singleton_append] at z3
      subst z3
      have hfz : fz = (0, 0) := by
        obtain ⟨c1, e1, k⟩ := hw b (.head _)
        rw [e4] at k; injection k with k; injection k with _ _ k
      subst hfz
      have hlt : b < w.heap.size := by
        rcases Nat.lt_or_ge b w.heap.size with q | q
        · exact q
        · rw [Array.getElem?_eq_none q] at e4; cases e4
      obtain ⟨L, q1, q2, q3⟩ := els_of (b := b) (good := good) e6 h2 (fun z hz => ⟨fun q => (List.nodup_cons.1 hnd).1 (by rw [← q]; exact hz), by
        obtain ⟨c1, e1, k⟩ := hw z (.tail _ hz)
        rcases Nat.lt_or_ge z w.heap.size with q | q
        · exact q
        · rw [Array.getElem?_eq_none q] at k; cases k⟩)
      have hLl : L.length = l.length := by rw [← q1, List.length_map]
      have hne : L ≠ [] := fun q => hl (by rw [← q1, q]; rfl)
      haveI : Inhabited (El w.heap b u good) := ⟨L.head hne⟩
      let enc : El w.heap b u good → Value := fun x => x.cs.headD undef
      have one : ∀ x : El w.heap b u good, x.cs = [enc x] ∧ (enc x).cells = #[enc x] := fun x => by
        obtain ⟨c0, k1, k2⟩ := x.rd.one ha
        have : enc x = c0 := by show x.cs.headD undef = c0; rw [k1]; rfl
        rw [this]; exact ⟨k1, k2⟩
      have hlen : L.toArray.size = l.length := by simp [hLl]
      have h1c : OneCell enc := fun x => by
        have k := x.rd.cells1 (enc x) (by rw [(one x).1]; exact .head _)
        exact k
      have main := Any.slices_SortFunc lay enc h1c (fun x y => cf x.x y.x) (swo_key (key := fun x => key x.x) fun x y => hk _ _ x.ok y.ok) g #[] b o cap L.toArray w eg (fun m os dk hs x y => ?_) (fun j hj => ?_) hlt (by omega)
      · rw [hlen] at main
        refine main.mono ?_
        rintro ee w' ⟨rfl, d', n, os, p1, p2, rfl⟩
        obtain ⟨r1, r2⟩ := perm_sorted (key := key) (val := El.x) (cf := fun x y => cf x.x y.x) (d := L.toArray) (d' := d') (fun x y => hk _ _ x.ok y.ok) (by rw [hlen]; exact p1) (by rw [hlen]; exact p2) (by
          show (L.map fun x => key x.x).Nodup
          have : (L.map fun x => key x.x) = l.map key := by rw [← q1, List.map_map]; rfl
          rw [this]; exact h3)
        simp only at r1 r2
        rw [q1] at r2
        have dl : d'.size = l.length := by have := r1.length_eq; simp only [Array.length_toList] at this; rw [this, hLl]
        have hcap : o + d'.size ≤ c.size := by rw [dl]; rw [hu] at e5; omega
        refine after_sort e4 e5 e3 hnd hw q1 q2 r1 r2 rfl ⟨rfl, ?_⟩ rfl (sw_size enc) (fun z hz hl => sw_other enc hz hl) (sw_self enc e4) (by simp [putCells]) (fun j hj => ?_)
        · show w.drawn ≤ w.drawn + n; omega
        · simp only [Array.length_toList] at hj
          rw [hu, Nat.mul_one, List.drop_drop, (one _).1]
          have := put_get (o := o) (c := c) enc (d := d') hj hcap
          rw [getElem!_pos d' j hj] at this
          rw [take1 (by simp [putCells]; omega)]
          congr 1
          rw [Array.getElem?_eq_getElem (by simp [putCells]; omega)] at this
          injection this with this
      · refine cmp_call hg hF (fun z hz hl => sw_other enc hz hl) x y ⟨?_, fun q => (by rw [ha] at q; cases q), fun _ => (one x).2⟩ ⟨?_, fun q => (by rw [ha] at q; cases q), fun _ => (one y).2⟩
        · rw [(one x).2, (one x).1]
        · rw [(one y).2, (one y).1]
      · have hj' : j < L.length := by simpa using hj
        have k := q3 j hj'
        rw [hu, Nat.mul_one, List.drop_drop, (one _).1] at k
        have hcs : o + j < c.size := by rw [hu] at e5; omega
        rw [take1 (by simpa using hcs)] at k
        have eg2 : L.toArray[j]! = L[j] := by rw [getElem!_pos _ _ (by simpa using hj')]; simp
        rw [eg2]
        simp only [World.cell?, World.frozen?, e4]
        refine ⟨?_, by simp⟩
        simp only [Option.isSome_none, Bool.false_eq_true, if_false]
        rw [Array.getElem?_eq_getElem hcs]
        injection k with k _
        congr 1
theorem flat_take {k : Nat} {cs : List Value} {j : Nat} {l : List Value} (hl : l.length = k) (h : ∀ t, t < k → cs[j + t]? = l[t]?) : (cs.drop j).take k = l := by
  apply List.ext_getElem?
  intro t
  by_cases ht : t < k
  · rw [List.getElem?_take_of_lt ht, List.getElem?_drop, h t ht]
  · rw [List.getElem?_eq_none (by simp; omega), List.getElem?_eq_none (by omega)]
theorem flat_at {α : Type} [Inhabited α] {enc : α → List Value} {k : Nat} (hk : ∀ x, (enc x).length = k) {d : Array α} {j t : Nat} (hj : j < d.size) (ht : t < k) : (flatK enc k d)[j * k + t]! = (enc d[j])[t]'(by rw [hk]; exact ht) := by
  have h1 : j * k + t < d.size * k := by
    have : (j + 1) * k ≤ d.size * k := Nat.mul_le_mul_right k hj
    rw [Nat.succ_mul] at this; omega
  rw [get_flatK _ _ _ _ h1]
  have e1 : (j * k + t) / k = j := by rw [Nat.mul_comm, Nat.mul_add_div (by omega), Nat.div_eq_of_lt ht]; rfl
  have e2 : (j * k + t) % k = t := by rw [Nat.mul_comm, Nat.mul_add_mod, Nat.mod_eq_of_lt ht]
  rw [e1, e2, getElem!_pos d j hj, getElem!_pos _ t (by rw [hk]; exact ht)]
theorem sortStr_ok {ρ : Ren} (lay : SlLaysF0.n6 P ρ) (ha : u.agg = true) (aE : ∀ w, (isAgg (ρ.t 24)).run P w = .ok true w) (zE : ∀ w, (Go.sizeOf (ρ.t 24)).run P w = .ok u.size w) (hg : FnOK P g ⟨[.v u, .v u], [.int .i64], fr, st, 0, F⟩) (hF : ∀ a b, good a → good b → F (a, b, ()) = some (cf a b, ())) (hk : ∀ a b, good a → good b → (cf a b < 0 ↔ key a < key b))
    (eg : ∀ args w, (callFunc g args).run P w = .ok (.enter g args) w) (hf : ∀ x y, f x = some y → x.1.length ≤ 1000000 ∧ (∀ r ∈ x.1, good r) ∧ (x.1.map key).Nodup ∧ y = (sortK key x.1, ())) : InOK P (ρ.f 6) ⟨[.v (.slice e u), .fn g], [.slice e u], f1, f2, 1, f⟩ := by
  intro x y hxy w vs ba hv hnd hw
  obtain ⟨l, _, _⟩ := x
  obtain ⟨h1, h2, h3, rfl⟩ := hf _ _ hxy
  replace h1 : l.length ≤ 1000000 := h1
  replace h2 : ∀ r ∈ l, good r := h2
  replace h3 : (l.map key).Nodup := h3
  obtain ⟨v, r, b1, b2, rfl, rfl, ho, r', rfl, rfl, rfl⟩ := hv
  replace ho : OneV w.heap (.slice e u) l v b1 := ho
  rw [List.append_nil] at hnd hw ⊢
  have ho' := ho
  obtain ⟨⟨hd, blk, bs', z1, z2, z3⟩, _, z4⟩ := ho
  have hc := z4 rfl
  have eh : hd = v := by rw [hc] at z1; injection z1 with z1 _; exact z1.symm
  subst eh
  rcases z2 with ⟨pz, rfl, rfl, rfl, rfl⟩ | ⟨b, o, cap, c, fz, rfl, rfl, e3, ⟨e', e4⟩, e5, e6⟩
  · refine (AnyF.slices_SortFunc_none lay pz 0 _ w).mono ?_
    rintro e w' ⟨rfl, hq⟩
    rw [hq]
    exact sort_nil (w' := w) ho' hnd hw
  · by_cases hl : l = []
    · subst hl
      refine (AnyF.slices_SortFunc_none lay (some ⟨b, o, none⟩) cap _ w).mono ?_
      rintro e w' ⟨rfl, hq⟩
      rw [hq]
      exact sort_nil (w' := w) ho' hnd hw
    · simp only [Option.toList_some, List.singleton_append] at z3
      subst z3
      have hfz : fz = (0, 0) := by
        obtain ⟨c1, e1, k⟩ := hw b (.head _)
        rw [e4] at k; injection k with k; injection k with _ _ k
      subst hfz
      have hlt : b < w.heap.size := by
        rcases Nat.lt_or_ge b w.heap.size with q | q
        · exact q
        · rw [Array.getElem?_eq_none q] at e4; cases e4
      obtain ⟨L, q1, q2, q3⟩ := els_of (b := b) (good := good) e6 h2 (fun z hz => ⟨fun q => (List.nodup_cons.1 hnd).1 (by rw [← q]; exact hz), by
        obtain ⟨c1, e1, k⟩ := hw z (.tail _ hz)
        rcases Nat.lt_or_ge z w.heap.size with q | q
        · exact q
        · rw [Array.getElem?_eq_none q] at k; cases k⟩)
      have hLl : L.length = l.length := by rw [← q1, List.length_map]
      have hne : L ≠ [] := fun q => hl (by rw [← q1, q]; rfl)
      haveI : Inhabited (El w.heap b u good) := ⟨L.head hne⟩
      have hlen : L.toArray.size = l.length := by simp [hLl]
      have hcl : ∀ x : El w.heap b u good, x.cs.length = u.size := fun x => x.rd.length
      have main := AnyQ.slices_SortFunc lay u.size aE zE (fun x : El w.heap b u good => x.cs) hcl (fun x v hv => x.rd.cells1 v hv) (fun x y => cf x.x y.x) (swo_key (key := fun x => key x.x) fun x y => hk _ _ x.ok y.ok) g #[] b o cap L.toArray w eg (fun m os dk hs x y => ?_) (fun j hj => ?_) hlt (by omega)
      · rw [hlen] at main
        refine main.mono ?_
        rintro ee w' ⟨rfl, d', n, os, p1, p2, rfl⟩
        obtain ⟨r1, r2⟩ := perm_sorted (key := key) (val := El.x) (cf := fun x y => cf x.x y.x) (d := L.toArray) (d' := d') (fun x y => hk _ _ x.ok y.ok) (by rw [hlen]; exact p1) (by rw [hlen]; exact p2) (by
          show (L.map fun x => key x.x).Nodup
          have : (L.map fun x => key x.x) = l.map key := by rw [← q1, List.map_map]; rfl
          rw [this]; exact h3)
        simp only at r1 r2
        rw [q1] at r2
        have dl : d'.size = l.length := by have := r1.length_eq; simp only [Array.length_toList] at this; rw [this, hLl]
        have hsz : d'.size * u.size ≤ cap * u.size := Nat.mul_le_mul_right _ (by omega)
        have hcap : o + (flatK (fun x : El w.heap b u good => x.cs) u.size d').size ≤ c.size := by rw [size_flatK]; omega
        refine after_sort e4 e5 e3 hnd hw q1 q2 r1 r2 rfl ⟨rfl, ?_⟩ rfl (sw_size id) (fun z hz hl => sw_other id hz hl) (sw_self id e4) (by simp [putCells]) (fun j hj => ?_)
        · show w.drawn ≤ w.drawn + n; omega
        · simp only [Array.length_toList] at hj
          rw [List.drop_drop]
          refine flat_take (hcl _) fun t ht => ?_
          have hin : j * u.size + t < (flatK (fun x : El w.heap b u good => x.cs) u.size d').size := by
            rw [size_flatK]
            have : (j + 1) * u.size ≤ d'.size * u.size := Nat.mul_le_mul_right _ hj
            rw [Nat.succ_mul] at this; omega
          have := put_get (o := o) (c := c) id hin hcap
          rw [flat_at hcl hj ht] at this
          rw [Nat.add_assoc, Array.getElem?_toList, this, List.getElem?_eq_getElem (by rw [hcl]; exact ht)]
          simp
      · exact cmp_call hg hF (fun z hz hl => sw_other id hz hl) x y ⟨by simp [Value.cells], fun _ => rfl, fun q => (by rw [ha] at q; cases q)⟩ ⟨by simp [Value.cells], fun _ => rfl, fun q => (by rw [ha] at q; cases q)⟩
      · rw [size_flatK] at hj
        have hk0 : 0 < u.size := by
          rcases Nat.eq_zero_or_pos u.size with q | q
          · rw [q] at hj; omega
          · exact q
        have hj1 : j / u.size < L.length := by
          have : j < L.length * u.size := by simpa using hj
          exact (Nat.div_lt_iff_lt_mul hk0).2 this
        have hjm : j % u.size < u.size := Nat.mod_lt _ hk0
        have ej : j = j / u.size * u.size + j % u.size := by rw [Nat.mul_comm]; exact (Nat.div_add_mod j u.size).symm
        have k := q3 _ hj1
        have fa := flat_at (d := L.toArray) hcl (j := j / u.size) (t := j % u.size) (by simpa using hj1) hjm
        rw [← ej] at fa
        have hcs : o + j < c.size := by
          have : L.length * u.size ≤ cap * u.size := Nat.mul_le_mul_right _ (by omega)
          have : j < L.length * u.size := by simpa using hj
          omega
        have kk : (List.take u.size (List.drop (j / u.size * u.size) (List.drop o c.toList)))[j % u.size]? = (L[j / u.size].cs)[j % u.size]? := by rw [k]
        rw [List.getElem?_take_of_lt hjm, List.getElem?_drop, List.getElem?_drop, ← ej, List.getElem?_eq_getElem (l := L[j / u.size].cs) (by rw [hcl]; exact hjm), Array.getElem?_toList] at kk
        simp only [World.cell?, World.frozen?, e4, Option.isSome_none, Bool.false_eq_true, if_false]
        refine ⟨?_, by simp⟩
        rw [kk]
        congr 1
        exact fa.symm
end
open Go Go.RowKit Go.Proofs
theorem w6_i {x : Int} (h0 : -9223372036854775808 ≤ x) (h1 : x ≤ 9223372036854775807) : w6 x = x := by
  simp [w6, IntKind.wrap, IntKind.bits, IntKind.signed]; split <;> omega
def okN (a b c : Int) : Prop := (0 ≤ a ∧ a ≤ 255) ∧ (0 ≤ b ∧ b ≤ 255) ∧ (0 ≤ c ∧ c ≤ 255)
instance (a b c : Int) : Decidable (okN a b c) := by unfold okN; exact inferInstance
def key3 (a b c : Int) : Int := (a + b + c) * 65536 + (255 - a) * 256 + (255 - b)
def okX (e : ex.den) : Prop := okN e.1 e.2.1 e.2.2.1
instance (e : ex.den) : Decidable (okX e) := by unfold okX; exact inferInstance
def degX (e : ex.den) : Int := @HAdd.hAdd Int Int Int _ (@HAdd.hAdd Int Int Int _ e.1 e.2.1) e.2.2.1
def keyX (e : ex.den) : Int := key3 e.1 e.2.1 e.2.2.1
def keyT3 (t : term.den) : Int := keyX t.1
theorem keyT_ex : keyT ex = true := rfl
section
variable {w0 : World} {ba : List Nat} {v0 : Value} {bm r clock : Nat} {es : Array MapEntry} {p v : Int} {m : List (ex.den × i64.den)}
end
instance decX : DecidableEq ex.den := inferInstanceAs (DecidableEq (Int × Int × Int × Unit))
structure CanT (p : Int) (ts : List term.den) : Prop where
  srt : ts.Pairwise fun a b => keyT3 a < keyT3 b
  ok : ∀ t ∈ ts, okX t.1 ∧ (0 : Int) < t.2.1 ∧ t.2.1 < p
theorem CanT.tail {p : Int} {t : term.den} {ts : List term.den} (h : CanT p (t :: ts)) : CanT p ts := ⟨(List.pairwise_cons.1 h.srt).2, fun s hs => h.ok s (.tail _ hs)⟩
theorem CanT.filter {p : Int} {ts : List term.den} (h : CanT p ts) (f : term.den → Bool) : CanT p (ts.filter f) := ⟨h.srt.sublist List.filter_sublist, fun t ht => h.ok t (List.mem_filter.1 ht).1⟩
theorem getD_pre {α : Type} {pre r : List α} {t d : α} : (pre ++ t :: r).getD pre.length d = t := by
  rw [List.getD_eq_getElem?_getD, List.getElem?_append_right (Nat.le_refl _)]; simp
open Go Go.RowKit
def lsum {α : Type} (f : α → Int) : List α → Int
  | [] => 0
  | x :: r => f x + lsum f r
theorem lsum_perm {α : Type} {f : α → Int} {a b : List α} (h : a.Perm b) : lsum f a = lsum f b := by
  induction h with
  | nil => rfl
  | cons x _ ih => simp only [lsum, ih]
  | swap x y l => simp only [lsum]; omega
  | trans _ _ ih1 ih2 => exact ih1.trans ih2
theorem lsum_congr {α : Type} {f g : α → Int} : ∀ {l : List α}, (∀ x ∈ l, f x = g x) → lsum f l = lsum g l
  | [], _ => rfl
  | x :: r, h => by simp only [lsum]; rw [h x (.head _), lsum_congr fun y hy => h y (.tail _ hy)]
section
variable {p : Int} {m : Nat}
theorem rest_el (hp : 0 < p) : ∀ {out : List (List Int)} {r : List Int}, (∀ o ∈ out, Can p m o) → (out.Pairwise fun a b => el a (ld b) = 0 ∧ el b (ld a) = 0) → Can p m r → ∀ i, el (rest p out r) i = (el r i - lsum (fun o => el r (ld o) * el o i) out) % p
  | [], r, _, _, hr, i => by simp only [rest, lsum, Int.sub_zero]; exact (hr.mod i).symm
  | o :: os, r, hc, hz, hr, i => by
    have ho := hc o (.head _)
    have hz' := List.pairwise_cons.1 hz
    simp only [rest, lsum]
    rw [rest_el hp (fun x hx => hc x (.tail _ hx)) hz'.2 (Can.subm hp hr.len ho.len) i]
    have e : lsum (fun x => el (subm p (el r (ld o)) r o) (ld x) * el x i) os = lsum (fun x => el r (ld x) * el x i) os := by
      refine lsum_congr fun x hx => ?_
      rw [el_subm (by rw [hr.len, ho.len]), (hz'.1 x hx).1, Int.mul_zero, Int.sub_zero, hr.mod]
    rw [e, el_subm (by rw [hr.len, ho.len]), Int.emod_sub_emod]
    congr 1; omega
theorem RR.apart {out : List (List Int)} (rr : RR p m out) : out.Pairwise fun a b => el a (ld b) = 0 ∧ el b (ld a) = 0 :=
  rr.ord.imp fun h => ⟨h.2, ld_zero _ _ h.1⟩
theorem apart_perm {a b : List (List Int)} (h : a.Perm b) (rr : RR p m b) : a.Pairwise fun a b => el a (ld b) = 0 ∧ el b (ld a) = 0 :=
  (h.pairwise_iff (R := fun a b : List Int => el a (ld b) = 0 ∧ el b (ld a) = 0) (fun h => ⟨h.2, h.1⟩)).2 rr.apart
theorem rest_perm (hp : 0 < p) {a b : List (List Int)} {r : List Int} (h : a.Perm b) (rr : RR p m b) (hr : Can p m r) : rest p a r = rest p b r := by
  have ca : ∀ o ∈ a, Can p m o := fun o ho => rr.can o (h.mem_iff.1 ho)
  refine row_ext (by rw [(rest_can hp ca hr).len, (rest_can hp rr.can hr).len]) fun i => ?_
  rw [rest_el hp ca (apart_perm h rr) hr, rest_el hp rr.can rr.apart hr, lsum_perm h]
theorem ins_perm {own : List Int} {at_ : Nat} : ∀ {b : List (List Int)}, (ins p own at_ b).Perm (b.map (red p own at_) ++ [own])
  | [] => .refl _
  | o :: os => by
    simp only [ins]
    split
    · exact (List.perm_append_comm (l₁ := [own]) (l₂ := (o :: os).map (red p own at_)))
    · simp only [List.map_cons, List.cons_append]
      exact (ins_perm (b := os)).cons _
def takeL (p : Int) (out : List (List Int)) (r : List Int) : List (List Int) :=
  if ld (rest p out r) = (rest p out r).length then out else out.map (red p (scl p (inv p (el (rest p out r) (ld (rest p out r)))) (rest p out r)) (ld (rest p out r))) ++ [scl p (inv p (el (rest p out r) (ld (rest p out r)))) (rest p out r)]
theorem take_perm (hp : 0 < p) {a b : List (List Int)} {r : List Int} (h : a.Perm b) (rr : RR p m b) (hr : Can p m r) : (takeL p a r).Perm (stepR p b r) := by
  unfold takeL stepR
  rw [rest_perm hp h rr hr]
  split
  · exact h
  · exact ((h.map _).append_right _).trans ins_perm.symm
theorem takeL_len {out : List (List Int)} {r : List Int} : (takeL p out r).length ≤ out.length + 1 := by
  unfold takeL; split
  · omega
  · simp
end
section
variable {p : Int} {m : Nat}
theorem RR.inj {out : List (List Int)} (rr : RR p m out) : out.Pairwise fun a b => ld a < ld b := rr.ord.imp fun h => h.1
theorem RR.off {out : List (List Int)} (rr : RR p m out) {a b : List Int} (ha : a ∈ out) (hb : b ∈ out) (h : a ≠ b) : ld a ≠ ld b ∧ el a (ld b) = 0 := by
  have hh : ∀ {l : List (List Int)}, (l.Pairwise fun a b => ld a < ld b ∧ el a (ld b) = 0) → a ∈ l → b ∈ l → ld a ≠ ld b ∧ el a (ld b) = 0 := by
    intro l
    induction l with
    | nil => intro _ h; cases h
    | cons x l ih =>
      intro hp ha hb
      have hp' := List.pairwise_cons.1 hp
      rcases List.mem_cons.1 ha with e | ha' <;> rcases List.mem_cons.1 hb with e' | hb'
      · exact absurd (e.trans e'.symm) h
      · subst e; exact ⟨Nat.ne_of_lt (hp'.1 b hb').1, (hp'.1 b hb').2⟩
      · subst e'; exact ⟨Nat.ne_of_gt (hp'.1 a ha').1, ld_zero a _ (hp'.1 a ha').1⟩
      · exact ih hp'.2 ha' hb'
  exact hh rr.ord ha hb
end
abbrev x0 (e : ex.den) : Int := e.1
abbrev x1 (e : ex.den) : Int := e.2.1
abbrev x2 (e : ex.den) : Int := e.2.2.1
def DegLe (d : Int) (ts : List term.den) : Prop := ∀ t ∈ ts, degX t.1 ≤ d
theorem DegLe.mono {d e : Int} {ts : List term.den} (h : DegLe d ts) (hd : d ≤ e) : DegLe e ts := fun t ht => Int.le_trans (h t ht) hd
def degI (ts : List term.den) : Int := match ts.getLast? with | none => -1 | some t => degX t.1
def fits (a b : List term.den) : Bool := decide (a = []) || decide (b = []) || decide (degI a + degI b ≤ 12)
def e0 : ex.den := ((0 : Int), (0 : Int), (0 : Int), ())
abbrev R62 : Type := Ress [(.slice 101 term), i64]
abbrev G62 : Type := Args [.v (.slice 101 term), .v i64] → Option R62
abbrev kp62 : List (Nat × List Nat) := [(0, [0, 1]), (1, [0, 5, 1]), (2, [10, 1, 5, 0]), (4, [6, 1, 5, 0]), (5, [14, 1, 6, 5, 0]), (7, [1, 6, 5, 0]), (8, [6, 1, 5, 0]), (6, [6, 1, 5, 0]), (9, [1, 5, 0]), (10, [5, 0, 1]), (3, [0, 5, 1]), (11, [4, 0])]
abbrev ct62 : CTab := []
abbrev kr62 : Env → Option R62 := endM 101 term [.tmp 4]
abbrev sh62_5 : Shape := [(0, vr 101 term 1 false), (1, vv i64), (5, vv i64), (6, vv i64)]
def st62_5 (F : Nat) (s : ShVal sh62_5) (k kx : ShVal sh62_5 → Option R62) : Option R62 :=
  match s with
  | ((t0, _), (t1, _), (t5, _), (t6, _), _) => (bif decide (t6 < (3 : Int)) then (bif ib t5 (Int.ofNat (List.length t0)) then (bif ib t6 (Int.ofNat 3) then k (((List.set t0 (tn t5) ((tset (w8 t1) 3 (List.getD t0 (tn t5) (Ty.dflt (.pair (.arr 3 (.int .u8)) (.pair (.int .i64) .unit)))).1 (tn t6)), (List.getD t0 (tn t5) (Ty.dflt (.pair (.arr 3 (.int .u8)) (.pair (.int .i64) .unit)))).2)), ()), (((w6 (t1 + (1 : Int))), ()), ((t5, ()), (((w6 (t6 + (1 : Int))), ()), ())))) else none) else none) else kx ((t0, ()), ((t1, ()), ((t5, ()), ((t6, ()), ())))))
def ru62_5 (F : Nat) (s : ShVal sh62_5) (kx : ShVal sh62_5 → Option R62) : Option R62 := iter (fun s k => st62_5 F s k kx) F s
abbrev ls62_5 (F : Nat) : LS R62 := ⟨sh62_5, 2, ru62_5 F⟩
abbrev sh62_2 : Shape := [(0, vr 101 term 1 false), (1, vv i64), (5, vv i64)]
def st62_2 (F : Nat) (s : ShVal sh62_2) (k kx : ShVal sh62_2 → Option R62) : Option R62 :=
  match s with
  | ((t0, _), (t1, _), (t5, _), _) => (bif decide ((List.length t0) ≤ 9223372036854775807) then (bif decide (t5 < (Int.ofNat (List.length t0))) then (ru62_5 F ((t0, ()), ((t1, ()), ((t5, ()), (((0 : Int), ()), ())))) (fun s' => match s' with | ((t0, _), (t1, _), (t5, _), (t6, _), _) => (bif ib t5 (Int.ofNat (List.length t0)) then k (((List.set t0 (tn t5) ((List.getD t0 (tn t5) (Ty.dflt (.pair (.arr 3 (.int .u8)) (.pair (.int .i64) .unit)))).1, (t1, (List.getD t0 (tn t5) (Ty.dflt (.pair (.arr 3 (.int .u8)) (.pair (.int .i64) .unit)))).2.2))), ()), (((w6 (t1 + (1 : Int))), ()), (((w6 (t5 + (1 : Int))), ()), ()))) else none))) else kx ((t0, ()), ((t1, ()), ((t5, ()), ())))) else none)
def ru62_2 (F : Nat) (s : ShVal sh62_2) (kx : ShVal sh62_2 → Option R62) : Option R62 := iter (fun s k => st62_2 F s k kx) F s
abbrev ls62_2 (F : Nat) : LS R62 := ⟨sh62_2, 0, ru62_2 F⟩
def fn62 (F : Nat) (x : Args [.v (.slice 101 term), .v i64]) : Option R62 :=
  match x with
  | (x0, x1, _) => (ru62_2 F ((x0, ()), ((x1, ()), (((0 : Int), ()), ()))) (fun s' => match s' with | ((t0, _), (t1, _), (t5, _), _) => (some (t0, (t1, ())))))
theorem ev62_5 (F : Nat) (s : ShVal sh62_5) (k kx : ShVal sh62_5 → Option R62) : evL TT (ct62 ) kp62 [] (loopOf Try.f62 5) (envOf sh62_5 s) (fitK sh62_5 k) (fun j e => bif Nat.beq j 2 then fitK sh62_5 kx e else none) kr62 = st62_5 F s k kx := by
  obtain ⟨⟨t0, _⟩, ⟨t1, _⟩, ⟨t5, _⟩, ⟨t6, _⟩, _⟩ := s
  kernel_rfl
theorem ok62_5 (F : Nat) (hK : KOK Try.prog (ct62 )) (v0 : Value) : LSOK Try.prog ⟨35, true, v0⟩ (ls62_5 F) (loopOf Try.f62 5) kr62 :=
  loop_ok (st62_5 F) mixed tt_ok hK (by kernel_rfl) (LTOK_by (l := []) (by kernel_rfl) trivial) (ev62_5 F)
theorem ev62_2 (F : Nat) (s : ShVal sh62_2) (k kx : ShVal sh62_2 → Option R62) : evL TT (ct62 ) kp62 [(5, ls62_5 F)] (loopOf Try.f62 2) (envOf sh62_2 s) (fitK sh62_2 k) (fun j e => bif Nat.beq j 0 then fitK sh62_2 kx e else none) kr62 = st62_2 F s k kx := by
  obtain ⟨⟨t0, _⟩, ⟨t1, _⟩, ⟨t5, _⟩, _⟩ := s
  kernel_rfl
theorem ok62_2 (F : Nat) (hK : KOK Try.prog (ct62 )) (v0 : Value) : LSOK Try.prog ⟨35, true, v0⟩ (ls62_2 F) (loopOf Try.f62 2) kr62 :=
  loop_ok (st62_2 F) mixed tt_ok hK (by kernel_rfl) (LTOK_by (l := [loopOf Try.f62 5]) (by kernel_rfl) ⟨ls_at (by kernel_rfl) (ok62_5 F hK v0), trivial⟩) (ev62_2 F)
theorem ev62 (F : Nat) (x : Args [.v (.slice 101 term), .v i64]) : fnM TT (ct62 ) kp62 101 term [(2, ls62_2 F)] (bodyOf Try.f62) [.tmp 4] x = fn62 F x := by
  obtain ⟨x0, x1, _⟩ := x
  kernel_rfl
theorem ok62 (hK : KOK Try.prog (ct62 )) (cf : G62) (h : ∀ x y, cf x = some y → ∃ F, fn62 F x = some y) : KOne Try.prog 62 ⟨[.v (.slice 101 term), .v i64], [(.slice 101 term), i64], false, false, 1, cf⟩ :=
  fnM_one rfl (c := bodyOf Try.f62) mixed tt_ok hK Try.func62 (by kernel_rfl) (by kernel_rfl) (Nat.le_of_ble_eq_true (by kernel_rfl)) (by decide) fun x y hxy => by
    obtain ⟨F, hF⟩ := h x y hxy
    exact ⟨[(2, ls62_2 F)], fun v0 => LTOK_by (l := [loopOf Try.f62 2]) (by kernel_rfl) ⟨ls_at (by kernel_rfl) (ok62_2 F hK v0), trivial⟩, (ev62 F x).trans hF⟩
theorem iter_s {S α : Type} {step : S → (S → Option α) → Option α} {f : Nat} {s : S} : iter step (f + 1) s = step s (iter step f) := rfl
theorem e40 (k : Int) : k + 4 * ((0 : Nat) : Int) = k := by omega
def mkOne (k : Int) : term.den := ((w8 k, w8 (k + 1), w8 (k + 2), ()), k + 3, ())
def mkT (k : Int) : Nat → List term.den
  | 0 => []
  | n + 1 => mkOne k :: mkT (k + 4) n
theorem mkT_len : ∀ (n : Nat) (k : Int), (mkT k n).length = n
  | 0, _ => rfl
  | n + 1, k => by simp [mkT, mkT_len n]
theorem mkT_snoc : ∀ (n : Nat) (k : Int), mkT k (n + 1) = mkT k n ++ [mkOne (k + 4 * (n : Int))]
  | 0, k => by simp [mkT]
  | n + 1, k => by
    show mkOne k :: mkT (k + 4) (n + 1) = _
    rw [mkT_snoc n (k + 4)]
    simp only [mkT, List.cons_append]
    rw [show k + 4 + 4 * (n : Int) = k + 4 * ((n + 1 : Nat) : Int) by omega]
theorem set_at {α : Type} {pre r : List α} {t x : α} : (pre ++ t :: r).set pre.length x = pre ++ x :: r := by
  induction pre with
  | nil => rfl
  | cons a p ih => simp [ih]
theorem in70 {k : Int} (hk : 0 ≤ k ∧ k ≤ 100000000000) {pre r : List term.den} {t : term.den} (hl : (pre ++ t :: r).length ≤ 2000000) {F0 F : Nat} (hF : 4 ≤ F) {kx : ShVal sh62_5 → Option R62} :
    iter (fun s k => st62_5 F0 s k kx) F ((pre ++ t :: r, ()), ((k, ()), (((pre.length : Int), ()), (((0 : Int), ()), ())))) = kx ((pre ++ (((w8 k, w8 (k + 1), w8 (k + 2), ()) : ex.den), t.2) :: r, ()), ((k + 3, ()), (((pre.length : Int), ()), (((3 : Int), ()), ())))) := by
  obtain ⟨F, rfl⟩ : ∃ f, F = f + 4 := ⟨F - 4, by omega⟩
  have hpl : pre.length < (pre ++ t :: r).length := by simp
  have hlen : ∀ z : term.den, (pre ++ z :: r).length = (pre ++ t :: r).length := fun z => by simp
  have a1 : w6 (k + 1) = k + 1 := w6_i (by omega) (by omega)
  have a2 : w6 (k + 1 + 1) = k + 2 := by rw [w6_i (by omega) (by omega)]; omega
  have a3 : w6 (k + 2 + 1) = k + 3 := by rw [w6_i (by omega) (by omega)]; omega
  have b1 : w6 ((0 : Int) + 1) = 1 := rfl
  have b2 : w6 ((1 : Int) + 1) = 2 := rfl
  have b3 : w6 ((2 : Int) + 1) = 3 := rfl
  have c0 : decide ((0 : Int) < 3) = true := rfl
  have c1 : decide ((1 : Int) < 3) = true := rfl
  have c2 : decide ((2 : Int) < 3) = true := rfl
  have c3 : decide ((3 : Int) < 3) = false := rfl
  have d0 : ib (0 : Int) (Int.ofNat 3) = true := rfl
  have d1 : ib (1 : Int) (Int.ofNat 3) = true := rfl
  have d2 : ib (2 : Int) (Int.ofNat 3) = true := rfl
  obtain ⟨⟨u0, u1, u2, u3⟩, tv⟩ := t
  have step : ∀ (z : term.den) (kk j : Int) (K : ShVal sh62_5 → Option R62), decide (j < 3) = true → ib j (Int.ofNat 3) = true → st62_5 F0 ((pre ++ z :: r, ()), ((kk, ()), (((pre.length : Int), ()), ((j, ()), ())))) K kx =
      K ((pre ++ ((tset (w8 kk) 3 z.1 (tn j)), z.2) :: r, ()), ((w6 (kk + 1), ()), (((pre.length : Int), ()), ((w6 (j + 1), ()), ())))) := fun z kk j K h1 h2 => by
    have e0 : ib (pre.length : Int) ((pre ++ z :: r).length : Int) = true := ib_t (by omega) (by rw [hlen z]; omega)
    simp only [st62_5, h1, cond_true, ofn, e0, h2, tn_cast, getD_pre, set_at]
    rw [show ib j ((3 : Nat) : Int) = true from h2]; rfl
  rw [show F + 4 = (F + 3) + 1 by omega, iter_s, step _ _ _ _ c0 d0, a1, b1, show F + 3 = (F + 2) + 1 by omega, iter_s, step _ _ _ _ c1 d1, a2, b2, show F + 2 = (F + 1) + 1 by omega, iter_s, step _ _ _ _ c2 d2, a3, b3, iter_s]
  simp only [st62_5, c3, cond_false]
  rfl
theorem run70 {k0 : Int} (hk : 0 ≤ k0 ∧ k0 ≤ 10000000000) {F0 : Nat} (hF0 : 4 ≤ F0) : ∀ (r : List term.den) (n F : Nat), r.length < F → n + r.length ≤ 2000000 →
    iter (fun s k => st62_2 F0 s k (fun s' => match s' with | ((t0, _), (t1, _), (t5, _), _) => (some (t0, (t1, ()))))) F ((mkT k0 n ++ r, ()), ((k0 + 4 * (n : Int), ()), (((n : Int), ()), ()))) = some (mkT k0 (n + r.length), k0 + 4 * ((n + r.length : Nat) : Int), ())
  | [], n, F, hF, hl => by
    obtain ⟨F, rfl⟩ : ∃ f, F = f + 1 := ⟨F - 1, by simp at hF; omega⟩
    have hm := mkT_len n k0
    rw [List.append_nil]
    simp only [List.length_nil, Nat.add_zero]
    generalize mkT k0 n = M at hm ⊢
    simp only [iter, st62_2]
    simp (disch := omega) only [dln_t, cond_true, ofn, dlt_f, cond_false]
  | t :: r, n, F, hF, hl => by
    obtain ⟨F, rfl⟩ : ∃ f, F = f + 1 := ⟨F - 1, by simp at hF; omega⟩
    have hm := mkT_len n k0
    simp only [List.length_cons] at hl
    have hl2 : (mkT k0 n ++ t :: r).length ≤ 2000000 := by simp [hm]; omega
    have hpl : n < (mkT k0 n ++ t :: r).length := by simp [hm]
    have wi : w6 ((n : Int) + 1) = ((n + 1 : Nat) : Int) := by rw [w6_i (by omega) (by omega)]; omega
    have wk : w6 (k0 + 4 * (n : Int) + 3 + 1) = k0 + 4 * ((n + 1 : Nat) : Int) := by rw [w6_i (by omega) (by omega)]; omega
    have ih := run70 hk hF0 r (n + 1) F (by simp at hF; omega) (by omega)
    rw [mkT_snoc, List.append_assoc] at ih
    simp only [List.cons_append, List.nil_append] at ih
    rw [show n + (t :: r).length = n + 1 + r.length by simp; omega]
    simp only [iter]
    generalize iter (fun s k => st62_2 F0 s k (fun s' => match s' with | ((t0, _), (t1, _), (t5, _), _) => (some (t0, (t1, ()))))) F = K at ih ⊢
    have key := in70 (k := k0 + 4 * (n : Int)) (by omega) (pre := mkT k0 n) (r := r) (t := t) hl2 (F0 := F0) (F := F0) hF0 (kx := fun s' => match s' with | ((t0, _), (t1, _), (t5, _), (t6, _), _) => (bif ib t5 (Int.ofNat (List.length t0)) then K ((((List.set t0 (tn t5) ((List.getD t0 (tn t5) (Ty.dflt (.pair (.arr 3 (.int .u8)) (.pair (.int .i64) .unit)))).1, (t1, (List.getD t0 (tn t5) (Ty.dflt (.pair (.arr 3 (.int .u8)) (.pair (.int .i64) .unit)))).2.2))), ()), (((w6 (t1 + (1 : Int))), ()), (((w6 (t5 + (1 : Int))), ()), ())))) else none))
    rw [hm] at key
    simp only [st62_2]
    rw [dln_t (by omega), cond_true, ofn, dlt_t (by omega), cond_true]
    refine key.trans ?_
    have e0 : ∀ z : term.den, ib (n : Int) ((mkT k0 n ++ z :: r).length : Int) = true := fun z => ib_t (by omega) (by simp [hm]; omega)
    have e1 : ∀ z d : term.den, (mkT k0 n ++ z :: r).getD n d = z := fun z d => by
      have := getD_pre (pre := mkT k0 n) (r := r) (t := z) (d := d)
      rwa [hm] at this
    have e2 : ∀ z x : term.den, (mkT k0 n ++ z :: r).set n x = mkT k0 n ++ x :: r := fun z x => by
      have := set_at (pre := mkT k0 n) (r := r) (t := z) (x := x)
      rwa [hm] at this
    simp only [ofn, e0, cond_true, tn_cast, e1, e2, wi, wk]
    exact ih
def cf70 : G62 := fun x => if (show List term.den from x.1).length ≤ 2000000 ∧ 0 ≤ x.2.1 ∧ x.2.1 ≤ (10000000000 : Int) then some (mkT x.2.1 (show List term.den from x.1).length, x.2.1 + 4 * ((show List term.den from x.1).length : Int), ()) else none
theorem k70 : KOne Try.prog 62 ⟨[.v (.slice 101 term), .v i64], [.slice 101 term, i64], false, false, 1, cf70⟩ := ok62 .nil cf70 fun x y h => by
  obtain ⟨a, k, _⟩ := x
  simp only [cf70] at h
  split at h
  · rename_i hc
    injection h with h; subst h
    obtain ⟨h1, h2⟩ := hc
    replace h1 : List.length a ≤ 2000000 := h1
    refine ⟨List.length a + 4, ?_⟩
    have := run70 (k0 := k) h2 (F0 := List.length a + 4) (by omega) a 0 (List.length a + 4) (by omega) (by omega)
    simp only [Nat.zero_add] at this
    rw [e40 k] at this
    exact this
  · cases h
abbrev R24 : Type := Ress [.slice 42 poly, i64]
abbrev G24 : Type := Args [.v (.slice 42 poly), .v i64] → Option R24
theorem RdL.app {α : Type} {R : α → List Value → List Nat → Prop} {n : Nat} : ∀ {l1 l2 : List α} {cs : List Value} {bs : List Nat}, RdL R n (l1 ++ l2) cs bs → ∃ b1 b2, RdL R n l1 cs b1 ∧ RdL R n l2 (cs.drop (l1.length * n)) b2 ∧ bs = b1 ++ b2
  | [], l2, cs, bs, h => ⟨[], bs, rfl, by simpa using h, rfl⟩
  | x :: l1, l2, cs, bs, ⟨b1, b2, h1, h2, h3⟩ => by
    obtain ⟨c1, c2, q1, q2, q3⟩ := RdL.app h2
    refine ⟨b1 ++ c1, c2, ⟨b1, c1, h1, q1, rfl⟩, ?_, by rw [h3, q3, List.append_assoc]⟩
    rw [List.drop_drop] at q2
    rw [List.length_cons, Nat.succ_mul, Nat.add_comm]; exact q2
theorem RdL.join {α : Type} {R : α → List Value → List Nat → Prop} {n : Nat} : ∀ {l1 l2 : List α} {cs : List Value} {b1 b2 : List Nat}, RdL R n l1 cs b1 → RdL R n l2 (cs.drop (l1.length * n)) b2 → RdL R n (l1 ++ l2) cs (b1 ++ b2)
  | [], l2, cs, b1, b2, h1, h2 => by have h1 : b1 = [] := h1; subst h1; simpa using h2
  | x :: l1, l2, cs, b1, b2, ⟨c1, c2, q1, q2, q3⟩, h2 => by
    rw [q3, List.append_assoc]
    refine ⟨c1, c2 ++ b2, q1, RdL.join q2 ?_, rfl⟩
    rw [List.drop_drop]
    rw [List.length_cons, Nat.succ_mul, Nat.add_comm] at h2; exact h2
section
variable {P : Program} {T : TTab} {K : CTab}
structure Nst (w0 : World) (ba : List Nat) (e : TypeId) (u : Ty) (hd : Value) (L : List u.den) (w : World) : Prop where
  rd : ∃ blk bs, SlR w.heap e u.size (Rd w.heap u) L hd blk bs ∧ (blk.toList ++ bs).Nodup ∧ ∀ z ∈ blk.toList ++ bs, z ∈ ba
  os : w.os = w0.os
  tp : Tp w w0
  out : w.output = w0.output
  size : w0.heap.size ≤ w.heap.size
  old : ∀ b, b < w0.heap.size → b ∉ ba → w.heap[b]? = w0.heap[b]?
  wr : ∀ b ∈ ba, ∃ c e, w.heap[b]? = some (.cells c e (0, 0))
  lt : ∀ b ∈ ba, b < w0.heap.size
theorem Nst.ext {w0 w w' : World} {ba : List Nat} {e : TypeId} {u : Ty} {hd : Value} {L : List u.den} (h : Nst w0 ba e u hd L w) (os : w'.os = w.os) (tp : Tp w' w) (out : w'.output = w.output) (size : w.heap.size ≤ w'.heap.size)
    (old : ∀ b, b < w.heap.size → w'.heap[b]? = w.heap[b]?) : Nst w0 ba e u hd L w' where
  rd := by
    obtain ⟨blk, bs, h1, h2, h3⟩ := h.rd
    have lt : ∀ z ∈ blk.toList ++ bs, z < w.heap.size := fun z hz => Nat.lt_of_lt_of_le (h.lt z (h3 z hz)) h.size
    exact ⟨blk, bs, h1.frame (fun b hb => old b (lt b (List.mem_append_right _ hb))) (fun b hb => old b (lt b (by simp [hb]))), h2, h3⟩
  os := os.trans h.os
  tp := tp.trans h.tp
  out := out.trans h.out
  size := Nat.le_trans h.size size
  old := fun b hb hn => (old b (Nat.lt_of_lt_of_le hb h.size)).trans (h.old b hb hn)
  wr := fun b hb => by rw [old b (Nat.lt_of_lt_of_le (h.lt b hb) h.size)]; exact h.wr b hb
  lt := h.lt
theorem Nst.elem {w0 w : World} {ba : List Nat} {e : TypeId} {u : Ty} {hd : Value} {pre suf : List u.den} {x : u.den} (h : Nst w0 ba e u hd (pre ++ x :: suf) w) (hu : u.size ≠ 0) :
    ∃ b o cap c e' be, hd = .slice (some ⟨b, o, none⟩) (pre ++ x :: suf).length cap ∧ w.heap[b]? = some (.cells c e' (0, 0)) ∧ o + pre.length * u.size + u.size ≤ c.size ∧
      Rd w.heap u x ((c.toList.drop (o + pre.length * u.size)).take u.size) be ∧ be.Nodup ∧ (∀ z ∈ be, z ∈ ba) ∧ b ∉ be ∧ b ∈ ba ∧
      ∀ (w' : World) (x' : u.den) (c' : Array Value) (bz : List Nat), w'.heap[b]? = some (.cells c' e' (0, 0)) → c'.size = c.size → (∀ j, j < o + pre.length * u.size ∨ o + pre.length * u.size + u.size ≤ j → c'[j]? = c[j]?) →
        Rd w'.heap u x' ((c'.toList.drop (o + pre.length * u.size)).take u.size) bz → bz.Nodup → (∀ z ∈ bz, z ∈ be) → w'.os = w.os → Tp w' w → w'.output = w.output → w.heap.size ≤ w'.heap.size →
        (∀ z, z < w.heap.size → z ∉ be → z ≠ b → w'.heap[z]? = w.heap[z]?) → (∀ z ∈ be, ∃ c e, w'.heap[z]? = some (.cells c e (0, 0))) → Nst w0 ba e u hd (pre ++ x' :: suf) w' := by
  obtain ⟨blk, bs, h1, h2, h3⟩ := h.rd
  rcases h1 with ⟨_, _, q, _⟩ | ⟨b, o, cap, c, fr, r1, r2, ⟨r3, r3'⟩, ⟨e', r4⟩, r5, r6⟩
  · cases pre <;> cases q
  · subst r2
    have hb : b ∈ ba := h3 b (by simp)
    have hfr : fr = (0, 0) := by
      obtain ⟨c1, e1, k⟩ := h.wr b hb
      rw [r4] at k; injection k with k; injection k with _ _ k
    subst hfr
    obtain ⟨b1, b2', s1, s2, s3⟩ := r6.app
    obtain ⟨be, b2, s4, s5, s6⟩ := s2
    rw [List.drop_drop] at s4
    rw [List.drop_drop, List.drop_drop] at s5
    subst s6; subst s3
    have nd := h2
    simp only [Option.toList_some, List.singleton_append, List.nodup_cons, List.mem_append, List.nodup_append, not_or] at nd
    obtain ⟨⟨n1, n2, n3⟩, n4, ⟨n5, n6, n7⟩, n8⟩ := nd
    have hlen : (pre ++ x :: suf).length = pre.length + 1 + suf.length := by simp; omega
    have hmul : (pre.length + 1) * u.size ≤ cap * u.size := Nat.mul_le_mul_right _ (by omega)
    have hsm : (pre.length + 1) * u.size = pre.length * u.size + u.size := Nat.succ_mul _ _
    refine ⟨b, o, cap, c, e', be, r1, r4, by omega, s4, n5, fun z hz => h3 z (by simp [hz]), n2, hb, ?_⟩
    intro w' x' c' bz t1 t2 t3 t4 t5 t6 t7 t8 t9 t10 t11 t12
    have ltA : ∀ z ∈ ba, z < w.heap.size := fun z hz => Nat.lt_of_lt_of_le (h.lt z hz) h.size
    have f1 : ∀ z ∈ b1, w'.heap[z]? = w.heap[z]? := fun z hz => t11 z (ltA z (h3 z (by simp [hz]))) (fun q => n8 z hz z (.inl q) rfl) (fun q => n1 (q ▸ hz))
    have f2 : ∀ z ∈ b2, w'.heap[z]? = w.heap[z]? := fun z hz => t11 z (ltA z (h3 z (by simp [hz]))) (fun q => n7 z q z hz rfl) (fun q => n3 (q ▸ hz))
    have g1 : RdL (Rd w'.heap u) u.size pre (c'.toList.drop o) b1 :=
      (s1.mono fun x cs b hm hr => hr.frame fun y hy => f1 y (hm y hy)).take fun j hj => by
        rw [List.getElem?_drop, List.getElem?_drop, Array.getElem?_toList, Array.getElem?_toList]; exact t3 _ (.inl (by omega))
    have g2 : RdL (Rd w'.heap u) u.size suf (c'.toList.drop (o + (pre.length * u.size + u.size))) b2 :=
      (s5.mono fun x cs b hm hr => hr.frame fun y hy => f2 y (hm y hy)).take fun j hj => by
        rw [List.getElem?_drop, List.getElem?_drop, Array.getElem?_toList, Array.getElem?_toList]; exact t3 _ (.inr (by omega))
    have g3 : RdL (Rd w'.heap u) u.size (pre ++ x' :: suf) (c'.toList.drop o) (b1 ++ (bz ++ b2)) := by
      refine RdL.join g1 ⟨bz, b2, ?_, ?_, rfl⟩
      · rw [List.drop_drop]; exact t4
      · rw [List.drop_drop, List.drop_drop]; exact g2
    refine ⟨⟨some b, b1 ++ (bz ++ b2), .inr ⟨b, o, cap, c', (0, 0), by rw [r1]; simp, rfl, ⟨by rw [hlen] at r3; simp; omega, r3'⟩, ⟨e', t1⟩, by omega, g3⟩, ?_, ?_⟩, t7.trans h.os, t8.trans h.tp, t9.trans h.out, Nat.le_trans h.size t10, ?_, ?_, h.lt⟩
    · simp only [Option.toList_some, List.singleton_append, List.nodup_cons, List.mem_append, List.nodup_append, not_or]
      refine ⟨⟨n1, fun q => n2 (t6 b q), n3⟩, n4, ⟨t5, n6, fun a ha b hb => n7 a (t6 a ha) b hb⟩, fun a ha b hb => ?_⟩
      rcases hb with q | q
      · exact n8 a ha b (.inl (t6 b q))
      · exact n8 a ha b (.inr q)
    · intro z hz
      simp only [Option.toList_some, List.singleton_append, List.mem_cons, List.mem_append] at hz
      rcases hz with rfl | q | q | q
      · exact hb
      · exact h3 z (by simp [q])
      · exact h3 z (by simp [t6 z q])
      · exact h3 z (by simp [q])
    · intro z hz hn
      rw [t11 z (Nat.lt_of_lt_of_le hz h.size) (fun q => hn (h3 z (by simp [q]))) (fun q => hn (q ▸ hb))]
      exact h.old z hz hn
    · intro z hz
      by_cases q1 : z ∈ be
      · exact t12 z q1
      · by_cases q2 : z = b
        · subst q2; exact ⟨_, _, t1⟩
        · rw [t11 z (ltA z hz) q1 q2]; exact h.wr z hz
structure AtV (n : Nat) (f : Nat → Value) (a : Act) : Prop where
  sz : a.tmps.size = n
  df : a.defers = []
  at_ : ∀ s, a.tmps.getD s undef = f s
def updV (f : Nat → Value) (d : Nat) (v : Value) : Nat → Value := fun s => if s = d then v else f s
theorem AtV.put {n d : Nat} {f : Nat → Value} {a : Act} (h : AtV n f a) (hd : d < n) (v : Value) : AtV n (updV f d v) (a.put (some d) v) where
  sz := by simp [Act.put, h.sz]
  df := h.df
  at_ := fun s => by rw [put_getD (by rw [h.sz]; exact hd), h.at_]; rfl
theorem AtV.ev {n s : Nat} {f : Nat → Value} {a : Act} (h : AtV n f a) : a.eval (.tmp s) = f s := h.at_ s
theorem run_indexS {t e : TypeId} {u : Ty} (hT : TOK P T) (k : TyOK P T t (.slice e u)) {w : World} {b o m cap : Nat} {kk : IntKind} {i : Nat} (hi : i < m) :
    (Instr.indexAt t (.slice (some ⟨b, o, none⟩) m cap) (.int kk i)).run P w = .ok (.pointer (some ⟨b, o + i * u.size, none⟩)) w := by
  obtain ⟨u1, u2, _⟩ := k.und
  have asInt : (asIntOf (.int kk (i : Int))).run P w = .ok (kk, (i : Int)) w := rfl
  have hi' : 0 ≤ (i : Int) ∧ (i : Int) < m := by omega
  simp only [Instr.indexAt, Sem.run_bind, asInt, Result.andThen_ok, run_underlying u1, Sem.run_pure, sizeOf_of (hT _ _ u2), if_pos hi']
  rw [addr_add]; simp
theorem run_loadS {t e : TypeId} {u : Ty} (k : TyOK P T t (.slice e u)) {w : World} {b o : Nat} {c : Array Value} {e' : TypeId} {fr : Nat × Nat} {v : Value} (hb : w.heap[b]? = some (.cells c e' fr)) (hv : c[o]? = some v) :
    (Instr.loadAt t (.pointer (some ⟨b, o, none⟩))).run P w = .ok v w := by
  have ho : o < c.size := by
    rcases Nat.lt_or_ge o c.size with q | q
    · exact q
    · rw [Array.getElem?_eq_none q] at hv; cases hv
  have := run_loadVar k hb (show o + (Ty.slice e u).size ≤ c.size from ho)
  simp only [Instr.loadAt, Sem.run_bind, run_sureAddr, Result.andThen_ok]
  rw [this]
  show Result.ok (((c.toList.drop o).take 1).headD undef) w = _
  congr 1
  have : c.toList.drop o = v :: c.toList.drop (o + 1) := by
    rw [List.drop_eq_getElem_cons (by simpa using ho)]
    congr 1
    rw [Array.getElem?_eq_getElem ho] at hv
    injection hv with hv
  rw [this]; rfl
theorem run_enter2 {a : Act} {w : World} {o : Oper} {c : Call} {kf : Nat} {x y z : Operand} {fn : Func} (hop : o.op = .call c) (hcal : c.callee = .value z) (hz : a.eval z = .func (.func kf) #[] #[]) (hargs : c.args.toList = [x, y])
    (f1 : P.funcs[kf]? = some fn) (f2 : fn.name ≠ "runtime.NumGoroutine") (f3 : fn.body.isNone = false) : (execOp a.eval o).run P w = .ok (.enter kf #[a.eval x, a.eval y]) w := by
  have hargs : c.args.map a.eval = #[a.eval x, a.eval y] := by apply Array.ext'; simp [hargs]
  simp only [execOp, hop, resolve, hcal, hz, Deferred.ofValue, invoke, callFunc, Sem.run_bind, Sem.run_pure, Result.andThen_ok, run_program, f1]
  rw [if_neg (by simpa using f2), if_neg (by simp [f3])]
  simp [hargs]
end
def callOf (o : Oper) : Option Call := match o.op with | .call c => some c | _ => none
def valOf (c : Callee) : Option Operand := match c with | .value z => some z | _ => none
def isF (f : Nat) : Operand → Bool
  | .func g => Nat.beq g f
  | _ => false
theorem isF_ev {f : Nat} {x : Operand} (h : isF f x = true) (a : Act) : a.eval x = .func (.func f) #[] #[] := by
  unfold isF at h
  split at h
  · rw [Nat.eq_of_beq_eq_true h]; rfl
  · cases h
def opsIn (id : Nat) : Code → Option (Array Oper)
  | .region j ops _ => bif Nat.beq j id then some ops else none
  | .seq a b => (match opsIn id a with | some x => some x | none => opsIn id b)
  | .cond _ a b => (match opsIn id a with | some x => some x | none => opsIn id b)
  | .block _ b => opsIn id b
  | .loop b => opsIn id b
  | _ => none
abbrev rows : Ty := .slice 26 (.slice 2 i64)
abbrev G19h : Type := Args [.v (.slice 2 i64), .v i64] → Option (Ress [.slice 2 i64, i64])
theorem wf_i {i : Int} (h0 : 0 ≤ i) (h1 : i ≤ 1000000000000) : (Lit.int .i64 i).wf = true := by
  simp [Lit.wf, IntKind.min, IntKind.max, IntKind.bits, IntKind.signed]; omega
section
variable {w0 : World} {ba : List Nat} {hd : Value} {g : G19h} {N : Nat} {y : List (List Int) × Int}
theorem rawSt {e : TypeId} {u : Ty} {L : List u.den} {a : Act} {w : World} {n : Nat} {f : Nat → Value} {k i : Int} (h : AtV n f a) (f0 : f 0 = hd) (f1 : f 1 = .int .i64 k) (f5 : f 5 = .int .i64 i) (wk : (Lit.int .i64 k).wf = true) (wi : (Lit.int .i64 i).wf = true)
    (nst : Nst w0 ba e u hd L w) : St ⟨n, true, hd⟩ w (fun _ => False) (gh0 w [] ba) (Env.get [(0, .val false [.fz (.slice e u) 0 true L]), (1, intE .i64 k), (5, intE .i64 i)]) a w where
  inv := by
    refine ⟨Nat.le_refl _, fun b _ _ => rfl, fun b => ?_, fun b hb => ?_, fun b hb => ?_, fun b hb => absurd rfl hb, fun b hb => absurd rfl hb⟩
    · simp only [gh0]
      split
      · exact .inl rfl
      · exact .inr (.inl rfl)
    · simp only [gh0] at hb
      split at hb
      · cases hb
      · rename_i h; exact Nat.lt_of_not_le fun q => h (.inl q)
    · simp only [gh0] at hb
      split at hb
      · rename_i h; exact h
      · cases hb
  ent := by
    intro s
    rw [h.at_]
    simp only [Env.get]
    cases q0 : Nat.beq 0 s with
    | true =>
      have := Nat.eq_of_beq_eq_true q0; subst this
      rw [cond_true, f0]
      obtain ⟨blk, bs, h1, h2, h3⟩ := nst.rd
      have hc : hd.cells = #[hd] := by
        rcases h1 with ⟨p, q, _⟩ | ⟨_, _, _, _, _, q, _⟩ <;> rw [q] <;> rfl
      refine LeafB.val1 (l := .fz (.slice e u) 0 true L) (bs := blk.toList ++ bs) ⟨⟨hd, blk, bs, rfl, h1, rfl⟩, fun b hb => ?_, fun q => absurd rfl q, fun _ => ⟨fun q => absurd rfl q, fun _ _ _ => rfl⟩⟩ hc 0
      simp only [gh0]; rw [if_pos (.inr (h3 b hb))]
    | false =>
      rw [cond_false]
      cases q1 : Nat.beq 1 s with
      | true =>
        have := Nat.eq_of_beq_eq_true q1; subst this
        rw [cond_true, f1]; exact intE_sound wk
      | false =>
        rw [cond_false]
        cases q5 : Nat.beq 5 s with
        | true =>
          have := Nat.eq_of_beq_eq_true q5; subst this
          rw [cond_true, f5]; exact intE_sound wi
        | false => trivial
  sz := ⟨h.sz, fun _ => by rw [h.at_]; exact f0⟩
  df := h.df
  os := rfl
  tape := Tp.refl
  output := rfl
theorem St.atV {W : Nat → Prop} {n : NS} {w w' : World} {gg : Gh} {env : Nat → Ent} {a : Act} (st : St n w W gg env a w') : AtV n.n (fun s => a.tmps.getD s Go.undef) a := ⟨st.sz.1, st.df, fun _ => rfl⟩
theorem Nst.of_St {e : TypeId} {u : Ty} {L : List u.den} {n : NS} {w w' : World} {gg : Gh} {env : Nat → Ent} {a : Act} (h : Nst w0 ba e u hd L w) (st : St n w (fun _ => False) gg env a w') : Nst w0 ba e u hd L w' :=
  h.ext st.os st.tape st.output st.inv.size fun b hb => st.inv.old b hb (fun q => q)
def mu28 (N : Nat) (a : Act) : Nat := match a.tmps.getD 5 undef with | .int _ i => (N - i).toNat | _ => 0
end
abbrev polys : Ty := .slice 42 poly
abbrev R27h : Type := Ress [polys, i64]
abbrev G27h : Type := Args [.v polys, .v i64] → Option R27h
abbrev G70h : Type := Args [.v (.slice 101 term), .v i64] → Option (Ress [.slice 101 term, i64])
noncomputable def o27 (i : Nat) : Array Oper := match opsIn i (bodyOf Try.f24) with | some x => x | none => #[]
noncomputable def in27 : Code := .seq (.region 4 (o27 4) false) (.seq (.region 5 (o27 5) false) (.seq (.region 6 (o27 6) false) (.seq (.region 7 (o27 7) false) (.region 8 (o27 8) false))))
noncomputable def loop27 : Code := .seq (.seq (.region 2 (o27 2) false) (.cond (.tmp 9) .skip (.exit 0))) (.seq (.block 1 in27) (.region 3 (o27 3) false))
theorem sk27 : Try.f24.body = some (.seq (.region 0 (o27 0) false) (.seq (.seq (.region 1 (o27 1) false) (.block 0 (.loop loop27))) (.seq (.region 9 (o27 9) false) .ret))) := by kernel_rfl
theorem nt27 : Try.f24.ntmps = 34 := by kernel_rfl
theorem rs27 : Try.f24.results.toList = [.tmp 4] := by kernel_rfl
def wr1 (k : Int) : Int := IntKind.i64.wrap (k + 1)
def E27 (L : polys.den) (k : Int) (i : Int) : Env := [(0, .val false [.fz polys 0 true L]), (1, intE .i64 k), (5, intE .i64 i)]
theorem e27a (L : polys.den) (k : Int) : evL TT [] [] [] (.region 0 (o27 0) false) (initEnv 0 [.v polys, .v i64] (L, k, ())) (fun e => some (keepK [0, 1] e)) (fun _ _ => none) (fun _ => none) =
    some [(0, .val false [.fz polys 0 true L]), (1, intE .i64 k)] := by kernel_rfl
theorem e27b (L : polys.den) (k : Int) : evL TT [] [] [] (.region 1 (o27 1) false) [(0, .val false [.fz polys 0 true L]), (1, intE .i64 k)] (fun e => some (keepK [0, 1, 5] e)) (fun _ _ => none) (fun _ => none) =
    some (E27 L k 0) := by kernel_rfl
theorem e27c (L : polys.den) (k i : Int) : evL TT [] [] [] (.region 2 (o27 2) false) (E27 L k i) (fun e => some (keepK [0, 1, 5, 9] e)) (fun _ _ => none) (fun _ => none) =
    bif decide (L.length ≤ 9223372036854775807) then some (E27 L k i ++ [(9, boolE (decide (i < Int.ofNat L.length)))]) else none := by kernel_rfl
theorem e27d (L : polys.den) (k i : Int) : evL TT [] [] [] (.region 3 (o27 3) false) (E27 L k i) (fun e => some (keepK [0, 1, 5] e)) (fun _ _ => none) (fun _ => none) =
    some (E27 L k (IntKind.i64.wrap (i + 1))) := by kernel_rfl
theorem e27f (L : polys.den) (k i : Int) : evL TT [] [] [] (.region 5 (o27 5) false) (E27 L k i) (fun e => some (keepK [0, 1, 5] e)) (fun _ _ => none) (fun _ => none) =
    some (E27 L (wr1 k) i) := by kernel_rfl
theorem e27g (L : polys.den) (k i : Int) : evL TT [] [] [] (.region 7 (o27 7) false) (E27 L k i) (fun e => some (keepK [0, 1, 5] e)) (fun _ _ => none) (fun _ => none) =
    some (E27 L (wr1 k) i) := by kernel_rfl
theorem e27e (L : polys.den) (k i : Int) : evL TT [] [] [] (.region 9 (o27 9) false) (E27 L k i) (fun e => some (keepK [0, 1, 4] e)) (fun _ _ => none) (fun _ => none) =
    some [(0, .val false [.fz polys 0 true L]), (1, intE .i64 k), (4, intE .i64 k)] := by kernel_rfl
theorem oc27 (i : Nat) (hi : i = 0 ∨ i = 1 ∨ i = 2 ∨ i = 3 ∨ i = 5 ∨ i = 7 ∨ i = 9) (v0 : Value) : okCode ⟨34, true, v0⟩ (.region i (o27 i) false) = true := by
  rcases hi with rfl | rfl | rfl | rfl | rfl | rfl | rfl <;> kernel_rfl
theorem rg27_4 : List.range (o27 4).size = [0, 1, 2, 3, 4, 5] := by kernel_rfl
theorem q27_4_0 : ∃ o, (o27 4)[0]? = some o ∧ o.op = .move (.tmp 0) ∧ o.dst = some 12 ∧ o.guard = none := ⟨((o27 4)[0]?).get (by kernel_rfl), (Option.some_get _).symm, by kernel_rfl, by kernel_rfl, by kernel_rfl⟩
theorem q27_4_1 : ∃ o, (o27 4)[1]? = some o ∧ o.op = .move (.tmp 5) ∧ o.dst = some 13 ∧ o.guard = none := ⟨((o27 4)[1]?).get (by kernel_rfl), (Option.some_get _).symm, by kernel_rfl, by kernel_rfl, by kernel_rfl⟩
theorem q27_4_2 : ∃ o, (o27 4)[2]? = some o ∧ o.op = .move (.tmp 1) ∧ o.dst = some 14 ∧ o.guard = none := ⟨((o27 4)[2]?).get (by kernel_rfl), (Option.some_get _).symm, by kernel_rfl, by kernel_rfl, by kernel_rfl⟩
theorem q27_4_3 : ∃ o, (o27 4)[3]? = some o ∧ o.op = .indexAddr 45 (.tmp 12) (.tmp 13) ∧ o.dst = some 15 ∧ o.guard = none := ⟨((o27 4)[3]?).get (by kernel_rfl), (Option.some_get _).symm, by kernel_rfl, by kernel_rfl, by kernel_rfl⟩
theorem q27_4_4 : ∃ o, (o27 4)[4]? = some o ∧ o.op = .fieldAddr 42 (.tmp 15) 0 ∧ o.dst = some 16 ∧ o.guard = none := ⟨((o27 4)[4]?).get (by kernel_rfl), (Option.some_get _).symm, by kernel_rfl, by kernel_rfl, by kernel_rfl⟩
theorem q27_4_5 : ∃ o, (o27 4)[5]? = some o ∧ o.op = .store 2 (.tmp 16) (.tmp 14) ∧ o.dst = none ∧ o.guard = none := ⟨((o27 4)[5]?).get (by kernel_rfl), (Option.some_get _).symm, by kernel_rfl, by kernel_rfl, by kernel_rfl⟩
theorem rg27_6 : List.range (o27 6).size = [0, 1, 2, 3, 4, 5] := by kernel_rfl
theorem q27_6_0 : ∃ o, (o27 6)[0]? = some o ∧ o.op = .move (.tmp 0) ∧ o.dst = some 19 ∧ o.guard = none := ⟨((o27 6)[0]?).get (by kernel_rfl), (Option.some_get _).symm, by kernel_rfl, by kernel_rfl, by kernel_rfl⟩
theorem q27_6_1 : ∃ o, (o27 6)[1]? = some o ∧ o.op = .move (.tmp 5) ∧ o.dst = some 20 ∧ o.guard = none := ⟨((o27 6)[1]?).get (by kernel_rfl), (Option.some_get _).symm, by kernel_rfl, by kernel_rfl, by kernel_rfl⟩
theorem q27_6_2 : ∃ o, (o27 6)[2]? = some o ∧ o.op = .move (.tmp 1) ∧ o.dst = some 21 ∧ o.guard = none := ⟨((o27 6)[2]?).get (by kernel_rfl), (Option.some_get _).symm, by kernel_rfl, by kernel_rfl, by kernel_rfl⟩
theorem q27_6_3 : ∃ o, (o27 6)[3]? = some o ∧ o.op = .indexAddr 45 (.tmp 19) (.tmp 20) ∧ o.dst = some 22 ∧ o.guard = none := ⟨((o27 6)[3]?).get (by kernel_rfl), (Option.some_get _).symm, by kernel_rfl, by kernel_rfl, by kernel_rfl⟩
theorem q27_6_4 : ∃ o, (o27 6)[4]? = some o ∧ o.op = .fieldAddr 42 (.tmp 22) 1 ∧ o.dst = some 23 ∧ o.guard = none := ⟨((o27 6)[4]?).get (by kernel_rfl), (Option.some_get _).symm, by kernel_rfl, by kernel_rfl, by kernel_rfl⟩
theorem q27_6_5 : ∃ o, (o27 6)[5]? = some o ∧ o.op = .store 2 (.tmp 23) (.tmp 21) ∧ o.dst = none ∧ o.guard = none := ⟨((o27 6)[5]?).get (by kernel_rfl), (Option.some_get _).symm, by kernel_rfl, by kernel_rfl, by kernel_rfl⟩
theorem rg27_8 : List.range (o27 8).size = [0, 1, 2, 3, 4, 5, 6, 7] := by kernel_rfl
theorem q27_8_0 : ∃ o, (o27 8)[0]? = some o ∧ o.op = .move (.tmp 0) ∧ o.dst = some 26 ∧ o.guard = none := ⟨((o27 8)[0]?).get (by kernel_rfl), (Option.some_get _).symm, by kernel_rfl, by kernel_rfl, by kernel_rfl⟩
theorem q27_8_1 : ∃ o, (o27 8)[1]? = some o ∧ o.op = .move (.tmp 5) ∧ o.dst = some 27 ∧ o.guard = none := ⟨((o27 8)[1]?).get (by kernel_rfl), (Option.some_get _).symm, by kernel_rfl, by kernel_rfl, by kernel_rfl⟩
theorem q27_8_2 : ∃ o, (o27 8)[2]? = some o ∧ o.op = .indexAddr 45 (.tmp 26) (.tmp 27) ∧ o.dst = some 28 ∧ o.guard = none := ⟨((o27 8)[2]?).get (by kernel_rfl), (Option.some_get _).symm, by kernel_rfl, by kernel_rfl, by kernel_rfl⟩
theorem q27_8_3 : ∃ o, (o27 8)[3]? = some o ∧ o.op = .fieldAddr 42 (.tmp 28) 2 ∧ o.dst = some 29 ∧ o.guard = none := ⟨((o27 8)[3]?).get (by kernel_rfl), (Option.some_get _).symm, by kernel_rfl, by kernel_rfl, by kernel_rfl⟩
theorem q27_8_4 : ∃ o, (o27 8)[4]? = some o ∧ o.op = .load 40 (.tmp 29) ∧ o.dst = some 30 ∧ o.guard = none := ⟨((o27 8)[4]?).get (by kernel_rfl), (Option.some_get _).symm, by kernel_rfl, by kernel_rfl, by kernel_rfl⟩
theorem q27_8_5 : ∃ o, (o27 8)[5]? = some o ∧ o.op = .move (.tmp 1) ∧ o.dst = some 31 ∧ o.guard = none := ⟨((o27 8)[5]?).get (by kernel_rfl), (Option.some_get _).symm, by kernel_rfl, by kernel_rfl, by kernel_rfl⟩
theorem q27_8_7 : ∃ o, (o27 8)[7]? = some o ∧ o.op = .assign (.tmp 32) ∧ o.dst = some 1 ∧ o.guard = none := ⟨((o27 8)[7]?).get (by kernel_rfl), (Option.some_get _).symm, by kernel_rfl, by kernel_rfl, by kernel_rfl⟩
noncomputable def o27_6 : Oper := ((o27 8)[6]?).get (by kernel_rfl)
noncomputable def c27_6 : Call := (callOf o27_6).get (by kernel_rfl)
noncomputable def z27_6 : Operand := (valOf c27_6.callee).get (by kernel_rfl)
theorem q27_8_6 : ∃ o c z, (o27 8)[6]? = some o ∧ o.op = .call c ∧ c.callee = .value z ∧ isF 62 z = true ∧ c.args.toList = [.tmp 30, .tmp 31] ∧ o.dst = some 32 ∧ o.guard = none :=
  ⟨o27_6, c27_6, z27_6, (Option.some_get _).symm, by kernel_rfl, by kernel_rfl, by kernel_rfl, by kernel_rfl, by kernel_rfl, by kernel_rfl⟩
theorem rdPoly {h : Mem} {x : poly.den} {cs : List Value} {be : List Nat} : Rd h poly x cs be ↔ ∃ hdT, cs = [.int .i64 x.1, .int .i64 x.2.1, hdT] ∧ (Lit.int .i64 x.1).wf = true ∧ (Lit.int .i64 x.2.1).wf = true ∧ Rd h (.slice 101 term) x.2.2.1 [hdT] be := by
  constructor
  · intro hr
    have hl : cs.length = 3 := hr.length
    match cs, hl, hr with
    | [a, b, c], _, hr =>
      obtain ⟨b1, b2, ⟨p1, p2, p3⟩, ⟨b3, b4, ⟨q1, q2, q3⟩, ⟨b5, b6, r1, ⟨r2, r3⟩, r4⟩, q4⟩, p4⟩ := hr
      subst p3; subst q3; subst r3; subst r4; subst q4; subst p4
      have p1 : [a] = [Value.int .i64 x.1] := p1
      have q1 : [b] = [Value.int .i64 x.2.1] := q1
      injection p1 with p1 _
      injection q1 with q1 _
      refine ⟨c, by rw [p1, q1], p2, q2, ?_⟩
      simp only [List.nil_append, List.append_nil]
      exact r1
  · rintro ⟨c, rfl, h1, h2, h3⟩
    exact ⟨[], be, ⟨rfl, h1, rfl⟩, ⟨[], be, ⟨rfl, h2, rfl⟩, ⟨be, [], h3, ⟨rfl, rfl⟩, by simp⟩, rfl⟩, rfl⟩
def setF (j : Nat) (x : poly.den) (k : Int) : poly.den := if j = 0 then (k, x.2) else (x.1, k, x.2.2)
section
variable {w0 : World} {ba : List Nat} {hd : Value} {g : G70h} {N : Nat} {y : List poly.den × Int}
theorem Nst.wrInt {w : World} {pre suf : List poly.den} {x : poly.den} {k : Int} {j : Nat} (hj : j = 0 ∨ j = 1) (h : Nst w0 ba 42 poly hd (pre ++ x :: suf) w) (wk : (Lit.int .i64 k).wf = true) :
    ∃ b o cap c e', hd = .slice (some ⟨b, o, none⟩) (pre ++ x :: suf).length cap ∧ w.heap[b]? = some (.cells c e' (0, 0)) ∧ o + pre.length * 3 + 3 ≤ c.size ∧
      Nst w0 ba 42 poly hd (pre ++ setF j x k :: suf) (w.setRow b (splice c.toList (o + pre.length * 3 + j) [.int .i64 k]).toArray) := by
  obtain ⟨b, o, cap, c, e', be, r1, r2, r3, r4, r5, r6, r7, r8, fin⟩ := h.elem (by decide)
  have three : (poly).size = 3 := rfl
  rw [three] at r3 r4
  refine ⟨b, o, cap, c, e', r1, r2, r3, ?_⟩
  have hin : o + pre.length * 3 + j + [Value.int .i64 k].length ≤ c.toList.length := by simp; omega
  have hsl := splice_length c.toList (o + pre.length * 3 + j) [.int .i64 k] hin
  have hsg := splice_get c.toList (o + pre.length * 3 + j) [.int .i64 k] hin
  have hb' := setRow_heap w b c (splice c.toList (o + pre.length * 3 + j) [.int .i64 k]).toArray e' (0, 0) r2
  have hoth : ∀ z, z ≠ b → (w.setRow b (splice c.toList (o + pre.length * 3 + j) [.int .i64 k]).toArray).heap[z]? = w.heap[z]? := fun z hz => setRow_other w b z _ hz
  have ltb : ∀ z ∈ be, z ≠ b := fun z hz q => r7 (q ▸ hz)
  refine fin _ (setF j x k) _ be hb' (by simpa using hsl) (fun i hi => ?_) ?_ r5 (fun z hz => hz) rfl ⟨rfl, Nat.le_refl _⟩ rfl (by simp [World.setRow]) (fun z _ _ hz => hoth z hz) (fun z hz => by rw [hoth z (ltb z hz)]; exact h.wr z (r6 z hz))
  · rw [three] at hi
    rw [List.getElem?_toArray, hsg, if_neg (by simp; omega), Array.getElem?_toList]
  · rw [three]
    obtain ⟨hdT, c1, c2, c3, c4⟩ := rdPoly.1 r4
    have at_ : ∀ i, i < 3 → c[o + pre.length * 3 + i]? = ([Value.int .i64 x.1, Value.int .i64 x.2.1, hdT] : List Value)[i]? := fun i hi => by
      rw [← c1, List.getElem?_take_of_lt hi, List.getElem?_drop, Array.getElem?_toList]
    have c4' : Rd (w.setRow b (splice c.toList (o + pre.length * 3 + j) [.int .i64 k]).toArray).heap (.slice 101 term) x.2.2.1 [hdT] be := c4.frame fun z hz => hoth z (ltb z hz)
    have cells : ((splice c.toList (o + pre.length * 3 + j) [.int .i64 k]).toArray.toList.drop (o + pre.length * 3)).take 3 = [.int .i64 (setF j x k).1, .int .i64 (setF j x k).2.1, hdT] := by
      apply List.ext_getElem?
      intro i
      by_cases hi : i < 3
      · rw [List.getElem?_take_of_lt hi, List.getElem?_drop, List.toList_toArray, hsg]
        have a0 := at_ i hi
        rw [← Array.getElem?_toList] at a0
        rcases hj with rfl | rfl
        · match i, hi with
          | 0, _ => rw [if_pos (by simp only [List.length_singleton]; omega)]; simp [setF]
          | 1, _ => rw [if_neg (by simp only [List.length_singleton]; omega), a0]; simp [setF]
          | 2, _ => rw [if_neg (by simp only [List.length_singleton]; omega), a0]; simp [setF]
        · match i, hi with
          | 0, _ => rw [if_neg (by simp only [List.length_singleton]; omega), a0]; simp [setF]
          | 1, _ => rw [if_pos (by simp only [List.length_singleton]; omega)]; simp [setF]
          | 2, _ => rw [if_neg (by simp only [List.length_singleton]; omega), a0]; simp [setF]
      · rw [List.getElem?_eq_none (by simp; omega), List.getElem?_eq_none (by simp; omega)]
    refine rdPoly.2 ⟨hdT, cells, ?_, ?_, ?_⟩
    · rcases hj with rfl | rfl
      · exact wk
      · exact c2
    · rcases hj with rfl | rfl
      · exact c3
      · exact wk
    · rcases hj with rfl | rfl <;> exact c4'
theorem run_storeI {w : World} {b o : Nat} {c : Array Value} {e : TypeId} {k : Int} (hb : w.heap[b]? = some (.cells c e (0, 0))) (ho : o < c.size) :
    (Instr.storeAt 2 (.pointer (some ⟨b, o, none⟩)) (.int .i64 k)).run Try.prog w = .ok () (w.setRow b (splice c.toList o [.int .i64 k]).toArray) :=
  run_storeVar (tt_ok 2 i64 (by kernel_rfl)) hb rfl (fun u hu => by simp [Value.cells] at hu; subst hu; rfl) ho
theorem reg27_4 {a : Act} {w : World} {pre suf : List poly.den} {x : poly.den} {k : Int} {f : Nat → Value} {Q : Exit → Act → World → Prop} (hA : AtV 34 f a) (f0 : f 0 = hd) (f1 : f 1 = .int .i64 k) (f5 : f 5 = .int .i64 pre.length) (wk : (Lit.int .i64 k).wf = true)
    (h : Nst w0 ba 42 poly hd (pre ++ x :: suf) w) (hQ : ∀ a' w' f', AtV 34 f' a' → f' 0 = hd → f' 1 = .int .i64 k → f' 5 = .int .i64 pre.length → Nst w0 ba 42 poly hd (pre ++ setF 0 x k :: suf) w' → Q .normal a' w') : (Code.region 4 (o27 4) false).wp Try.prog Q a w := by
  obtain ⟨b, o, cap, c, e', r1, r2, r3, n2⟩ := h.wrInt (j := 0) (by simp) wk
  refine wp_region ?_
  rw [rg27_4]
  obtain ⟨o0, o0a, o0b, o0c, o0d⟩ := q27_4_0
  obtain ⟨o1, o1a, o1b, o1c, o1d⟩ := q27_4_1
  obtain ⟨o2, o2a, o2b, o2c, o2d⟩ := q27_4_2
  obtain ⟨o3, o3a, o3b, o3c, o3d⟩ := q27_4_3
  obtain ⟨o4, o4a, o4b, o4c, o4d⟩ := q27_4_4
  obtain ⟨o5, o5a, o5b, o5c, o5d⟩ := q27_4_5
  refine wpOps_cons o0a o0d (upon_val (v := hd) (w' := w) (by simp only [execOp, o0b, show a.eval (.tmp 0) = hd from hA.ev.trans f0, Sem.run_pure]) ?_)
  rw [o0c]
  have p1 := hA.put (d := 12) (by omega) hd
  generalize a.put (some 12) hd = a2 at p1 ⊢
  refine wpOps_cons o1a o1d (upon_val (v := .int .i64 pre.length) (w' := w) (by simp only [execOp, o1b, show a2.eval (.tmp 5) = .int .i64 pre.length from p1.ev.trans f5, Sem.run_pure]) ?_)
  rw [o1c]
  have p2 := p1.put (d := 13) (by omega) (.int .i64 pre.length)
  generalize a2.put (some 13) (.int .i64 pre.length) = a3 at p2 ⊢
  refine wpOps_cons o2a o2d (upon_val (v := .int .i64 k) (w' := w) (by simp only [execOp, o2b, show a3.eval (.tmp 1) = .int .i64 k from p2.ev.trans f1, Sem.run_pure]) ?_)
  rw [o2c]
  have p3 := p2.put (d := 14) (by omega) (.int .i64 k)
  generalize a3.put (some 14) (.int .i64 k) = a4 at p3 ⊢
  have ri := run_indexS (P := Try.prog) tt_ok (tt_ok 45 polys (by kernel_rfl)) (w := w) (b := b) (o := o) (m := (pre ++ x :: suf).length) (cap := cap) (kk := .i64) (i := pre.length) (by simp)
  rw [show (poly).size = 3 from rfl, ← r1] at ri
  refine wpOps_cons o3a o3d (upon_val (v := .pointer (some ⟨b, o + pre.length * 3, none⟩)) (w' := w) (by
    simp only [execOp, o3b, show a4.eval (.tmp 12) = hd from p3.ev, show a4.eval (.tmp 13) = .int .i64 pre.length from p3.ev, Sem.run_bind, ri, Result.andThen_ok, Sem.run_pure]) ?_)
  rw [o3c]
  have p4 := p3.put (d := 15) (by omega) (.pointer (some ⟨b, o + pre.length * 3, none⟩))
  generalize a4.put (some 15) (.pointer (some ⟨b, o + pre.length * 3, none⟩)) = a5 at p4 ⊢
  have rf := run_fieldAt (P := Try.prog) (w := w) (b := b) (o := o + pre.length * 3) (j := 0) (u := i64) tt_ok (tt_ok 42 poly (by kernel_rfl)) rfl rfl
  rw [show poff poly [.fld 0] = 0 from rfl] at rf
  refine wpOps_cons o4a o4d (upon_val (v := .pointer (some ⟨b, o + pre.length * 3 + 0, none⟩)) (w' := w) (by
    simp only [execOp, o4b, show a5.eval (.tmp 15) = .pointer (some ⟨b, o + pre.length * 3, none⟩) from p4.ev, Sem.run_bind, rf, Result.andThen_ok, Sem.run_pure]) ?_)
  rw [o4c]
  have p5 := p4.put (d := 16) (by omega) (.pointer (some ⟨b, o + pre.length * 3 + 0, none⟩))
  generalize a5.put (some 16) (.pointer (some ⟨b, o + pre.length * 3 + 0, none⟩)) = a6 at p5 ⊢
  have rs := run_storeI (w := w) (b := b) (o := o + pre.length * 3 + 0) (k := k) r2 (by omega)
  refine wpOps_cons o5a o5d (upon_skip (w' := w.setRow b (splice c.toList (o + pre.length * 3 + 0) [.int .i64 k]).toArray) (by
    simp only [execOp, o5b, show a6.eval (.tmp 16) = .pointer (some ⟨b, o + pre.length * 3 + 0, none⟩) from p5.ev, show a6.eval (.tmp 14) = .int .i64 k from p5.ev, Sem.run_bind, rs, Result.andThen_ok, Sem.run_pure]) ?_)
  rw [o5c]
  exact hQ a6 _ _ p5 (show _ = hd from f0) (show _ = Value.int .i64 k from f1) (show _ = Value.int .i64 (pre.length : Int) from f5) n2
theorem reg27_6 {a : Act} {w : World} {pre suf : List poly.den} {x : poly.den} {k : Int} {f : Nat → Value} {Q : Exit → Act → World → Prop} (hA : AtV 34 f a) (f0 : f 0 = hd) (f1 : f 1 = .int .i64 k) (f5 : f 5 = .int .i64 pre.length) (wk : (Lit.int .i64 k).wf = true)
    (h : Nst w0 ba 42 poly hd (pre ++ x :: suf) w) (hQ : ∀ a' w' f', AtV 34 f' a' → f' 0 = hd → f' 1 = .int .i64 k → f' 5 = .int .i64 pre.length → Nst w0 ba 42 poly hd (pre ++ setF 1 x k :: suf) w' → Q .normal a' w') : (Code.region 6 (o27 6) false).wp Try.prog Q a w := by
  obtain ⟨b, o, cap, c, e', r1, r2, r3, n2⟩ := h.wrInt (j := 1) (by simp) wk
  refine wp_region ?_
  rw [rg27_6]
  obtain ⟨o0, o0a, o0b, o0c, o0d⟩ := q27_6_0
  obtain ⟨o1, o1a, o1b, o1c, o1d⟩ := q27_6_1
  obtain ⟨o2, o2a, o2b, o2c, o2d⟩ := q27_6_2
  obtain ⟨o3, o3a, o3b, o3c, o3d⟩ := q27_6_3
  obtain ⟨o4, o4a, o4b, o4c, o4d⟩ := q27_6_4
  obtain ⟨o5, o5a, o5b, o5c, o5d⟩ := q27_6_5
  refine wpOps_cons o0a o0d (upon_val (v := hd) (w' := w) (by simp only [execOp, o0b, show a.eval (.tmp 0) = hd from hA.ev.trans f0, Sem.run_pure]) ?_)
  rw [o0c]
  have p1 := hA.put (d := 19) (by omega) hd
  generalize a.put (some 19) hd = a2 at p1 ⊢
  refine wpOps_cons o1a o1d (upon_val (v := .int .i64 pre.length) (w' := w) (by simp only [execOp, o1b, show a2.eval (.tmp 5) = .int .i64 pre.length from p1.ev.trans f5, Sem.run_pure]) ?_)
  rw [o1c]
  have p2 := p1.put (d := 20) (by omega) (.int .i64 pre.length)
  generalize a2.put (some 20) (.int .i64 pre.length) = a3 at p2 ⊢
  refine wpOps_cons o2a o2d (upon_val (v := .int .i64 k) (w' := w) (by simp only [execOp, o2b, show a3.eval (.tmp 1) = .int .i64 k from p2.ev.trans f1, Sem.run_pure]) ?_)
  rw [o2c]
  have p3 := p2.put (d := 21) (by omega) (.int .i64 k)
  generalize a3.put (some 21) (.int .i64 k) = a4 at p3 ⊢
  have ri := run_indexS (P := Try.prog) tt_ok (tt_ok 45 polys (by kernel_rfl)) (w := w) (b := b) (o := o) (m := (pre ++ x :: suf).length) (cap := cap) (kk := .i64) (i := pre.length) (by simp)
  rw [show (poly).size = 3 from rfl, ← r1] at ri
  refine wpOps_cons o3a o3d (upon_val (v := .pointer (some ⟨b, o + pre.length * 3, none⟩)) (w' := w) (by
    simp only [execOp, o3b, show a4.eval (.tmp 19) = hd from p3.ev, show a4.eval (.tmp 20) = .int .i64 pre.length from p3.ev, Sem.run_bind, ri, Result.andThen_ok, Sem.run_pure]) ?_)
  rw [o3c]
  have p4 := p3.put (d := 22) (by omega) (.pointer (some ⟨b, o + pre.length * 3, none⟩))
  generalize a4.put (some 22) (.pointer (some ⟨b, o + pre.length * 3, none⟩)) = a5 at p4 ⊢
  have rf := run_fieldAt (P := Try.prog) (w := w) (b := b) (o := o + pre.length * 3) (j := 1) (u := i64) tt_ok (tt_ok 42 poly (by kernel_rfl)) rfl rfl
  rw [show poff poly [.fld 1] = 1 from rfl] at rf
  refine wpOps_cons o4a o4d (upon_val (v := .pointer (some ⟨b, o + pre.length * 3 + 1, none⟩)) (w' := w) (by
    simp only [execOp, o4b, show a5.eval (.tmp 22) = .pointer (some ⟨b, o + pre.length * 3, none⟩) from p4.ev, Sem.run_bind, rf, Result.andThen_ok, Sem.run_pure]) ?_)
  rw [o4c]
  have p5 := p4.put (d := 23) (by omega) (.pointer (some ⟨b, o + pre.length * 3 + 1, none⟩))
  generalize a5.put (some 23) (.pointer (some ⟨b, o + pre.length * 3 + 1, none⟩)) = a6 at p5 ⊢
  have rs := run_storeI (w := w) (b := b) (o := o + pre.length * 3 + 1) (k := k) r2 (by omega)
  refine wpOps_cons o5a o5d (upon_skip (w' := w.setRow b (splice c.toList (o + pre.length * 3 + 1) [.int .i64 k]).toArray) (by
    simp only [execOp, o5b, show a6.eval (.tmp 23) = .pointer (some ⟨b, o + pre.length * 3 + 1, none⟩) from p5.ev, show a6.eval (.tmp 21) = .int .i64 k from p5.ev, Sem.run_bind, rs, Result.andThen_ok, Sem.run_pure]) ?_)
  rw [o5c]
  exact hQ a6 _ _ p5 (show _ = hd from f0) (show _ = Value.int .i64 k from f1) (show _ = Value.int .i64 (pre.length : Int) from f5) n2
end
def foldM27 (g : G70h) : List poly.den → Int → Option (List poly.den × Int)
  | [], k => some ([], k)
  | x :: r, k => match g (x.2.2.1, wr1 (wr1 k), ()) with
    | some y => (match foldM27 g r y.2.1 with | some z => some ((k, wr1 k, y.1, ()) :: z.1, z.2) | none => none)
    | none => none
structure I27 (w0 : World) (ba : List Nat) (hd : Value) (g : G70h) (N : Nat) (y : List poly.den × Int) (a : Act) (w : World) (pre suf : List poly.den) (k : Int) (f : Nat → Value) : Prop where
  at_ : AtV 34 f a
  f0 : f 0 = hd
  f1 : f 1 = .int .i64 k
  f5 : f 5 = .int .i64 pre.length
  wk : (Lit.int .i64 k).wf = true
  nst : Nst w0 ba 42 poly hd (pre ++ suf) w
  len : (pre ++ suf).length = N
  run : ∃ z, foldM27 g suf k = some z ∧ (pre ++ z.1, z.2) = y
section
variable {w0 : World} {ba : List Nat} {hd : Value} {g : G70h} {N : Nat} {y : List poly.den × Int}
theorem reg27_8 {a : Act} {w : World} {pre suf : List poly.den} {x : poly.den} {k : Int} {f : Nat → Value} {yx : Ress [.slice 101 term, i64]} {Q : Exit → Act → World → Prop} (k70 : KOne Try.prog 62 ⟨[.v (.slice 101 term), .v i64], [.slice 101 term, i64], false, false, 1, g⟩)
    (hA : AtV 34 f a) (f0 : f 0 = hd) (f1 : f 1 = .int .i64 k) (f5 : f 5 = .int .i64 pre.length) (wk : (Lit.int .i64 k).wf = true)
    (n1 : Nst w0 ba 42 poly hd (pre ++ x :: suf) w) (hyx : g (x.2.2.1, k, ()) = some yx)
    (hQ : ∀ a' w' f', AtV 34 f' a' → f' 0 = hd → f' 1 = .int .i64 yx.2.1 → f' 5 = .int .i64 pre.length → (Lit.int .i64 yx.2.1).wf = true → Nst w0 ba 42 poly hd (pre ++ (x.1, x.2.1, yx.1, ()) :: suf) w' → Q .normal a' w') : (Code.region 8 (o27 8) false).wp Try.prog Q a w := by
  obtain ⟨b, o, cap, c, e', be, r1, r2, r3, r4, r5, r6, r7, r8, fin⟩ := n1.elem (by decide)
  have three : (poly).size = 3 := rfl
  rw [three] at r3 r4
  obtain ⟨v, c1, c2, c3, c4⟩ := rdPoly.1 r4
  have v4 := c4
  obtain ⟨v', blkv, bsv, v1, v2, v3⟩ := v4
  injection v1 with v1 _
  subst v1
  have hcv : c[o + pre.length * 3 + 2]? = some v := by
    have : ((c.toList.drop (o + pre.length * 3)).take 3)[2]? = some v := by rw [c1]; rfl
    rw [List.getElem?_take_of_lt (by omega), List.getElem?_drop, Array.getElem?_toList] at this
    exact this
  refine wp_region ?_
  rw [rg27_8]
  obtain ⟨o0, o0a, o0b, o0c, o0d⟩ := q27_8_0
  obtain ⟨o1, o1a, o1b, o1c, o1d⟩ := q27_8_1
  obtain ⟨o2, o2a, o2b, o2c, o2d⟩ := q27_8_2
  obtain ⟨o3, o3a, o3b, o3c, o3d⟩ := q27_8_3
  obtain ⟨o4, o4a, o4b, o4c, o4d⟩ := q27_8_4
  obtain ⟨o5, o5a, o5b, o5c, o5d⟩ := q27_8_5
  obtain ⟨of, cf, zf, f1a, f1b, f1e, f1f, f1g, f1c, f1d⟩ := q27_8_6
  obtain ⟨o7, o7a, o7b, o7c, o7d⟩ := q27_8_7
  refine wpOps_cons o0a o0d (upon_val (v := hd) (w' := w) (by simp only [execOp, o0b, show a.eval (.tmp 0) = hd from hA.ev.trans f0, Sem.run_pure]) ?_)
  rw [o0c]
  have p1 := hA.put (d := 26) (by omega) hd
  generalize a.put (some 26) hd = a2 at p1 ⊢
  refine wpOps_cons o1a o1d (upon_val (v := .int .i64 pre.length) (w' := w) (by simp only [execOp, o1b, show a2.eval (.tmp 5) = .int .i64 pre.length from p1.ev.trans f5, Sem.run_pure]) ?_)
  rw [o1c]
  have p2 := p1.put (d := 27) (by omega) (.int .i64 pre.length)
  generalize a2.put (some 27) (.int .i64 pre.length) = a3 at p2 ⊢
  have ri := run_indexS (P := Try.prog) tt_ok (tt_ok 45 polys (by kernel_rfl)) (w := w) (b := b) (o := o) (m := (pre ++ x :: suf).length) (cap := cap) (kk := .i64) (i := pre.length) (by simp)
  rw [three, ← r1] at ri
  refine wpOps_cons o2a o2d (upon_val (v := .pointer (some ⟨b, o + pre.length * 3, none⟩)) (w' := w) (by
    simp only [execOp, o2b, show a3.eval (.tmp 26) = hd from p2.ev, show a3.eval (.tmp 27) = .int .i64 pre.length from p2.ev, Sem.run_bind, ri, Result.andThen_ok, Sem.run_pure]) ?_)
  rw [o2c]
  have p3 := p2.put (d := 28) (by omega) (.pointer (some ⟨b, o + pre.length * 3, none⟩))
  generalize a3.put (some 28) (.pointer (some ⟨b, o + pre.length * 3, none⟩)) = a4 at p3 ⊢
  have rf := run_fieldAt (P := Try.prog) (w := w) (b := b) (o := o + pre.length * 3) (j := 2) (u := .slice 101 term) tt_ok (tt_ok 42 poly (by kernel_rfl)) rfl rfl
  rw [show poff poly [.fld 2] = 2 from rfl] at rf
  refine wpOps_cons o3a o3d (upon_val (v := .pointer (some ⟨b, o + pre.length * 3 + 2, none⟩)) (w' := w) (by
    simp only [execOp, o3b, show a4.eval (.tmp 28) = .pointer (some ⟨b, o + pre.length * 3, none⟩) from p3.ev, Sem.run_bind, rf, Result.andThen_ok, Sem.run_pure]) ?_)
  rw [o3c]
  have p4 := p3.put (d := 29) (by omega) (.pointer (some ⟨b, o + pre.length * 3 + 2, none⟩))
  generalize a4.put (some 29) (.pointer (some ⟨b, o + pre.length * 3 + 2, none⟩)) = a5 at p4 ⊢
  have rl := run_loadS (P := Try.prog) (tt_ok 40 (.slice 101 term) (by kernel_rfl)) (w := w) (b := b) (o := o + pre.length * 3 + 2) r2 hcv
  refine wpOps_cons o4a o4d (upon_val (v := v) (w' := w) (by
    simp only [execOp, o4b, show a5.eval (.tmp 29) = .pointer (some ⟨b, o + pre.length * 3 + 2, none⟩) from p4.ev, Sem.run_bind, rl, Result.andThen_ok, Sem.run_pure]) ?_)
  rw [o4c]
  have p5 := p4.put (d := 30) (by omega) v
  generalize a5.put (some 30) v = a6 at p5 ⊢
  refine wpOps_cons o5a o5d (upon_val (v := .int .i64 k) (w' := w) (by simp only [execOp, o5b, show a6.eval (.tmp 1) = .int .i64 k from p5.ev.trans f1, Sem.run_pure]) ?_)
  rw [o5c]
  have p6 := p5.put (d := 31) (by omega) (.int .i64 k)
  generalize a6.put (some 31) (.int .i64 k) = a7 at p6 ⊢
  obtain ⟨fn, h1, h2, h3⟩ := k70.fn
  refine wpOps_cons f1a f1d ?_
  unfold Oper.wp
  rw [run_enter2 f1b f1e (isF_ev f1f a7) f1g h1 h2 h3]
  simp only [Oper.upon]
  have e15 : a7.eval (.tmp 30) = v := p6.ev
  have e16 : a7.eval (.tmp 31) = .int .i64 k := p6.ev
  rw [e15, e16]
  have hcvv : v.cells = #[v] := by
    rcases v2 with ⟨p, q, _⟩ | ⟨_, _, _, _, _, q, _⟩ <;> rw [q] <;> rfl
  have hone : OneV w.heap (.slice 101 term) x.2.2.1 v be := ⟨⟨v, blkv, bsv, by rw [hcvv], v2, v3⟩, fun q => (by cases q), fun _ => hcvv⟩
  have hav : ArgsV w.heap [.v (.slice 101 term), .v i64] (x.2.2.1, k, ()) [v, .int .i64 k] be :=
    ⟨_, _, be, [], rfl, by simp, hone, _, _, [], [], rfl, rfl, one_int wk, rfl, rfl⟩
  have call := k70.inp rfl (x.2.2.1, k, ()) yx hyx w _ be hav r5 (fun b hb => n1.wr b (r6 b hb))
  refine call.mono ?_
  rintro ee w2 ⟨v0', rv, bf, z1, rfl, z2, ⟨zn, zs⟩, z3, z4, z5, z6, z7, z8⟩
  simp only [List.head?_cons, Option.some.injEq] at z1
  subst z1
  obtain ⟨u1, ur, ub1, ub2, y1, y2, _, y3, y4⟩ := z2
  simp only [List.cons.injEq] at y1
  obtain ⟨y1a, y1b⟩ := y1
  subst y1a; subst y1b
  obtain ⟨u2, ur2, ub3, ub4, y5, y6, _, y7, y8⟩ := y3
  obtain ⟨y7a, y7b⟩ := y7
  subst y7a; subst y5; subst y7b; subst y8; subst y4
  have hk2 : u2 = .int .i64 yx.2.1 ∧ (Lit.int .i64 yx.2.1).wf = true ∧ ub3 = [] := by
    obtain ⟨⟨c1, c2, c3⟩, _, c4⟩ := y6
    rw [c4 rfl] at c1
    exact ⟨by simpa using c1, c2, c3⟩
  obtain ⟨hk2, wk2, hb3⟩ := hk2
  subst hk2; subst hb3
  simp only [List.append_nil] at zn zs
  show wpOps _ _ _ _ _ _
  rw [f1c]
  show wpOps _ _ _ _ (a7.put (some 32) (.int .i64 yx.2.1)) _
  have p7 := p6.put (d := 32) (by omega) (.int .i64 yx.2.1)
  generalize a7.put (some 32) (.int .i64 yx.2.1) = a8 at p7 ⊢
  refine wpOps_cons o7a o7d (upon_val (v := .int .i64 yx.2.1) (w' := w2) (by simp only [execOp, o7b, show a8.eval (.tmp 32) = .int .i64 yx.2.1 from p7.ev, Sem.run_pure]) ?_)
  rw [o7c]
  have p8 := p7.put (d := 1) (by omega) (.int .i64 yx.2.1)
  generalize a8.put (some 1) (.int .i64 yx.2.1) = a9 at p8 ⊢
  have hb2 : w2.heap[b]? = some (.cells c e' (0, 0)) := by
    rw [z7 b (Nat.lt_of_lt_of_le (n1.lt b r8) n1.size) r7]; exact r2
  have n2 : Nst w0 ba 42 poly hd (pre ++ (x.1, x.2.1, yx.1, ()) :: suf) w2 := by
    refine fin w2 (x.1, x.2.1, yx.1, ()) c ub1 hb2 rfl (fun _ _ => rfl) ?_ zn zs z3 z4 z5 z6 (fun z hz hn _ => z7 z hz hn) z8
    rw [three, c1]
    obtain ⟨⟨hd3, blk3, bs3, w1', w2', w3'⟩, _, _⟩ := y2
    rw [hcvv] at w1'
    exact rdPoly.2 ⟨v, rfl, c2, c3, hd3, blk3, bs3, w1', w2', w3'⟩
  exact hQ a9 w2 _ p8 (show _ = hd from f0) (show _ = Value.int .i64 yx.2.1 from rfl) (show _ = Value.int .i64 (pre.length : Int) from f5) wk2 n2
theorem round27 {a : Act} {w : World} {pre suf : List poly.den} {k : Int} {f : Nat → Value} {Q : Exit → Act → World → Prop} (k70 : KOne Try.prog 62 ⟨[.v (.slice 101 term), .v i64], [.slice 101 term, i64], false, false, 1, g⟩) (hN : N ≤ 100000000)
    (I : I27 w0 ba hd g N y a w pre suf k f) (hQ : ∀ a' w' f', AtV 34 f' a' → f' 0 = hd → f' 1 = .int .i64 y.2 → (Lit.int .i64 y.2).wf = true → Nst w0 ba 42 poly hd y.1 w' → (∃ i, f' 5 = .int .i64 i ∧ (Lit.int .i64 i).wf = true) → Q (.exit 0) a' w') :
    loop27.wp Try.prog (Exit.then (fun a' w' => (∃ pre suf k f, I27 w0 ba hd g N y a' w' pre suf k f) ∧ mu28 N a' < mu28 N a) Q) a w := by
  have hl := I.len
  simp only [List.length_append] at hl
  have wi : (Lit.int .i64 (pre.length : Int)).wf = true := wf_i (by omega) (by omega)
  have st := rawSt I.at_ I.f0 I.f1 I.f5 I.wk wi I.nst
  have hlen : decide (List.length (pre ++ suf) ≤ 9223372036854775807) = true := decide_eq_true (by rw [List.length_append]; omega)
  refine wp_seq (wp_seq (ev_wp (A := fun b => b ∈ ba) (ks := [0, 1, 5, 9]) mixed tt_ok KOK.nil (fun b hb => (by cases hb)) (oc27 2 (by simp) hd) trivial ((e27c (pre ++ suf) k pre.length).trans (by rw [hlen]; rfl)) st rfl fun a1 w1 g1 st1 A1 => ?_))
  have t0 : a1.tmps.getD 0 undef = hd := st1.sz.2 rfl
  have t1 : a1.tmps.getD 1 undef = .int .i64 k := (asI_inv (st1.ent 1) rfl).1
  have t5 : a1.tmps.getD 5 undef = .int .i64 pre.length := (asI_inv (st1.ent 5) rfl).1
  have t9 : a1.eval (.tmp 9) = .bool (decide ((pre.length : Int) < Int.ofNat (pre ++ suf).length)) := by
    have : EntR g1 w1.heap 9 (boolE (decide ((pre.length : Int) < Int.ofNat (pre ++ suf).length))) (a1.tmps.getD 9 undef) := st1.ent 9
    obtain ⟨bs4, hl4, _⟩ := val1 this
    obtain ⟨⟨z, _⟩, _⟩ := hl4
    injection z
  have n1 := I.nst.of_St st1
  have at1 : AtV 34 _ a1 := st1.atV
  show Code.wp _ _ _ _ _
  cases suf with
  | nil =>
    have t9 : a1.eval (.tmp 9) = .bool false := by rw [t9]; congr 1; exact decide_eq_false (by simp)
    refine wp_cond (t := false) t9 (wp_exit ?_)
    obtain ⟨z, hz, hy⟩ := I.run
    simp only [foldM27, Option.some.injEq] at hz
    subst hz
    subst hy
    rw [List.append_nil] at n1
    exact hQ a1 w1 _ at1 t0 t1 I.wk (by show Nst w0 ba 42 poly hd (pre ++ []) w1; rw [List.append_nil]; exact n1) ⟨_, t5, wi⟩
  | cons x suf =>
    have t9 : a1.eval (.tmp 9) = .bool true := by rw [t9]; congr 1; exact decide_eq_true (by simp; omega)
    refine wp_cond (t := true) t9 (wp_skip ?_)
    show Code.wp _ _ _ _ _
    obtain ⟨z, hz, hy⟩ := I.run
    simp only [foldM27] at hz
    split at hz
    · rename_i yx hyx
      split at hz
      · rename_i zr hzr
        injection hz with hz; subst hz
        have w1k : (Lit.int .i64 (wr1 k)).wf = true := wrap_wf _ _
        have w2k : (Lit.int .i64 (wr1 (wr1 k))).wf = true := wrap_wf _ _
        refine wp_seq (wp_block (wp_seq (reg27_4 at1 t0 t1 t5 I.wk n1 fun b1 u1 h1 bt1 bf0 bf1 bf5 m1 => ?_)))
        show Code.wp _ _ _ _ _
        have sa := rawSt bt1 bf0 bf1 bf5 I.wk wi m1
        refine wp_seq (ev_wp (A := fun b => b ∈ ba) (ks := [0, 1, 5]) mixed tt_ok KOK.nil (fun b hb => (by cases hb)) (oc27 5 (by simp) hd) trivial (e27f _ k pre.length) sa rfl fun b2 u2 h2 sb B2 => ?_)
        show Code.wp _ _ _ _ _
        refine wp_seq (reg27_6 (sb.atV : AtV 34 _ b2) (sb.sz.2 rfl) (asI_inv (sb.ent 1) rfl).1 (asI_inv (sb.ent 5) rfl).1 w1k (m1.of_St sb) fun b3 u3 h3 bt3 cf0 cf1 cf5 m3 => ?_)
        show Code.wp _ _ _ _ _
        have sc := rawSt bt3 cf0 cf1 cf5 w1k wi m3
        refine wp_seq (ev_wp (A := fun b => b ∈ ba) (ks := [0, 1, 5]) mixed tt_ok KOK.nil (fun b hb => (by cases hb)) (oc27 7 (by simp) hd) trivial (e27g _ (wr1 k) pre.length) sc rfl fun b4 u4 h4 sd B4 => ?_)
        show Code.wp _ _ _ _ _
        refine reg27_8 (x := setF 1 (setF 0 x k) (wr1 k)) k70 (sd.atV : AtV 34 _ b4) (sd.sz.2 rfl) (asI_inv (sd.ent 1) rfl).1 (asI_inv (sd.ent 5) rfl).1 w2k (m3.of_St sd) hyx fun a8 w2 h5 p7 df0 df1 df5 wk2 n2 => ?_
        show Code.wp _ _ _ _ _
        have st2 := rawSt p7 df0 df1 df5 wk2 wi n2
        refine ev_wp (A := fun b => b ∈ ba) (ks := [0, 1, 5]) mixed tt_ok KOK.nil (fun b hb => (by cases hb)) (oc27 3 (by simp) hd) trivial (e27d _ yx.2.1 pre.length) st2 rfl fun a9 w9 g9 st9 A9 => ?_
        have s0 : a9.tmps.getD 0 undef = hd := st9.sz.2 rfl
        have s1 : a9.tmps.getD 1 undef = .int .i64 yx.2.1 := (asI_inv (st9.ent 1) rfl).1
        have s5 : a9.tmps.getD 5 undef = .int .i64 (IntKind.i64.wrap (pre.length + 1)) := (asI_inv (st9.ent 5) rfl).1
        have hwr : IntKind.i64.wrap ((pre.length : Int) + 1) = ((pre.length + 1 : Nat) : Int) := by
          simp only [List.length_cons] at hl
          simp [IntKind.wrap, IntKind.bits, IntKind.signed]; split <;> omega
        rw [hwr] at s5
        have n9 := n2.of_St st9
        simp only [List.length_cons] at hl
        refine ⟨⟨pre ++ [(k, wr1 k, yx.1, ())], suf, yx.2.1, _, st9.atV, s0, s1, ?_, wk2, ?_, ?_, zr, hzr, ?_⟩, ?_⟩
        · show a9.tmps.getD 5 undef = _
          rw [s5]; simp
        · rw [List.append_assoc]; exact n9
        · simp; omega
        · rw [← hy]; simp
        · have : mu28 N a = N - pre.length := by
            unfold mu28
            rw [I.at_.at_, I.f5]; simp only; omega
          have m9 : mu28 N a9 = N - (pre.length + 1) := by unfold mu28; rw [s5]; simp only; omega
          rw [this, m9]; omega
      · cases hz
    · cases hz
theorem one27 {cf : G27h} (k70 : KOne Try.prog 62 ⟨[.v (.slice 101 term), .v i64], [.slice 101 term, i64], false, false, 1, g⟩)
    (h : ∀ x y, cf x = some y → (show List poly.den from x.1).length ≤ 100000000 ∧ ∃ z, foldM27 g x.1 x.2.1 = some z ∧ y = (z.1, z.2, ())) : KOne Try.prog 24 ⟨[.v polys, .v i64], [polys, i64], false, false, 1, cf⟩ := by
  refine ⟨fun q => (by cases q), fun _ => ?_, fun q => (by cases q), Try.f24, Try.func24, by decide, rfl⟩
  intro x y hxy w vs ba hv hnd hw
  obtain ⟨L, k, _⟩ := x
  obtain ⟨hN, z, hz, rfl⟩ := h _ _ hxy
  replace hN : List.length (show List poly.den from L) ≤ 100000000 := hN
  have hv0 := hv
  obtain ⟨v0, r1, b1, b2, rfl, rfl, o1, v1, r2, b3, b4, rfl, rfl, o2, rfl, rfl⟩ := hv
  have hv1 : v1 = .int .i64 k ∧ (Lit.int .i64 k).wf = true ∧ b3 = [] := by
    obtain ⟨⟨c1, c2, c3⟩, _, c4⟩ := o2
    rw [c4 rfl] at c1
    exact ⟨by simpa using c1, c2, c3⟩
  obtain ⟨rfl, wk, rfl⟩ := hv1
  simp only [List.append_nil] at hnd hw hv0 ⊢
  obtain ⟨⟨hd, blk, bs, z1, z2, z3⟩, _, z4⟩ := o1
  have hc := z4 rfl
  have eh : hd = v0 := by rw [hc] at z1; injection z1 with z1 _; exact z1.symm
  subst eh
  have lt : ∀ b ∈ b1, b < w.heap.size := fun b hb => by
    obtain ⟨c, e, q⟩ := hw b hb
    rcases Nat.lt_or_ge b w.heap.size with q' | q'
    · exact q'
    · rw [Array.getElem?_eq_none q'] at q; cases q
  have n0 : Nst w b1 42 poly hd L w := ⟨⟨blk, bs, z2, by rw [← z3]; exact hnd, by rw [← z3]; exact fun z hz => hz⟩, rfl, Tp.refl, rfl, Nat.le_refl _, fun _ _ _ => rfl, hw, lt⟩
  have st0 := init_St (n := Try.f24.ntmps) hv0 (by rw [nt27]; decide)
  refine calls_of_wp Try.func24 sk27 ?_
  have stk : St ⟨34, true, hd⟩ w (fun _ => False) (gh0 w [hd, .int .i64 k] b1) (initEnv 0 [.v polys, .v i64] (L, k, ())).get { tmps := [hd, .int .i64 k].toArray ++ Array.replicate (Try.f24.ntmps - [hd, .int .i64 k].toArray.size) undef, defers := [] } w :=
    ⟨st0.inv, st0.ent, ⟨st0.sz.1.trans nt27, fun _ => by rw [Array.getD_eq_getD_getElem?, Array.getElem?_append_left (by simp)]; rfl⟩, st0.df, st0.os, st0.tape, st0.output⟩
  refine wp_seq (ev_wp (A := fun b => b ∈ b1) (ks := [0, 1]) mixed tt_ok KOK.nil (fun b hb => (by cases hb)) (oc27 0 (by simp) hd) trivial (e27a L k) stk rfl fun a1 w1 g1 st1 A1 => ?_)
  show Code.wp _ _ _ _ _
  refine wp_seq (wp_seq (ev_wp (A := fun b => b ∈ b1) (ks := [0, 1, 5]) mixed tt_ok KOK.nil (fun b hb => (by cases hb)) (oc27 1 (by simp) hd) trivial (e27b L k) st1 A1 fun a2 w2 g2 st2 A2 => ?_))
  show Code.wp _ _ _ _ _
  have n2 := n0.of_St st2
  have at2 : AtV 34 _ a2 := st2.atV
  have t0 : a2.tmps.getD 0 undef = hd := st2.sz.2 rfl
  have t1 : a2.tmps.getD 1 undef = .int .i64 k := (asI_inv (st2.ent 1) rfl).1
  have t5 : a2.tmps.getD 5 undef = .int .i64 0 := (asI_inv (st2.ent 5) rfl).1
  refine wp_block (wp_loop (fun a' w' => ∃ pre suf k f, I27 w b1 hd g (List.length (show List poly.den from L)) z a' w' pre suf k f) (fun a' _ => mu28 (List.length (show List poly.den from L)) a') ⟨[], L, k, _, at2, t0, t1, t5, wk, n2, rfl, z, hz, rfl⟩ fun a3 w3 hI => ?_)
  obtain ⟨pre, suf, k3, f3, I⟩ := hI
  refine round27 k70 hN I fun a4 w4 f4 at4 s0 s1 wk4 n4 s5 => ?_
  obtain ⟨i, s5, wi⟩ := s5
  show Code.wp _ _ _ _ _
  have st4 := rawSt at4 s0 s1 s5 wk4 wi n4
  refine wp_seq (ev_wp (A := fun b => b ∈ b1) (ks := [0, 1, 4]) mixed tt_ok KOK.nil (fun b hb => (by cases hb)) (oc27 9 (by simp) hd) trivial (e27e z.1 z.2 i) st4 rfl fun a5 w5 g5 st5 A5 => ?_)
  show Code.wp _ _ _ _ _
  have n5 := n4.of_St st5
  have u4 : a5.tmps.getD 4 undef = .int .i64 z.2 := (asI_inv (st5.ent 4) rfl).1
  refine wp_ret ?_
  have hres : (Try.f24.results.toList.mapM (resOne a5.tmps)).run Try.prog w5 = .ok [.int .i64 z.2] w5 := by rw [rs27, ← u4]; rfl
  refine ⟨st5.df, _, results_run hres, ?_⟩
  obtain ⟨blk5, bs5, y1, y2, y3⟩ := n5.rd
  exact ⟨hd, [.int .i64 z.2], blk5.toList ++ bs5, rfl, rfl, ⟨hd, _, _, [], rfl, ⟨⟨hd, blk5, bs5, by rw [hc], y1, rfl⟩, fun q => (by cases q), fun _ => hc⟩, fun q => (by cases q), ⟨_, [], [], [], rfl, one_int wk4, fun q => (by cases q), ⟨rfl, rfl⟩, rfl⟩, by simp⟩,
    ⟨y2, y3⟩, n5.os, n5.tp, n5.out, n5.size, n5.old, n5.wr⟩
end
abbrev Po : Type := poly.den
def tms (x : Po) : List term.den := x.2.2.1
theorem copy_setG {α : Type} {l : List α} {i : Nat} {d d' : α} (h : i < l.length) : (l.take i ++ List.replicate (l.length - i) d).set i (l.getD i d') = l.take (i + 1) ++ List.replicate (l.length - (i + 1)) d := by
  apply List.ext_getElem?
  intro j
  rw [List.getElem?_set]
  have hl : (l.take i).length = i := by simp; omega
  have hl2 : (l.take (i + 1)).length = i + 1 := by simp; omega
  by_cases q : i = j
  · subst q
    rw [if_pos rfl, if_pos (by simp; omega), List.getElem?_append_left (by omega), List.getElem?_take_of_lt (by omega), List.getD_eq_getElem?_getD, List.getElem?_eq_getElem h]; rfl
  · rw [if_neg q]
    rcases Nat.lt_or_ge j i with z | z
    · rw [List.getElem?_append_left (by omega), List.getElem?_append_left (by omega), List.getElem?_take_of_lt z, List.getElem?_take_of_lt (by omega)]
    · rw [List.getElem?_append_right (by omega), List.getElem?_append_right (by omega), hl, hl2, List.getElem?_replicate, List.getElem?_replicate]
      by_cases y : j < l.length
      · rw [if_pos (by omega), if_pos (by omega)]
      · rw [if_neg (by omega), if_neg (by omega)]
def smallP (L : List Po) : Prop := L.length ≤ 2000000 ∧ ∀ x ∈ L, (tms x).length ≤ 2000000
def totT : List Po → Nat
  | [] => 0
  | x :: r => (tms x).length + totT r
open Classical in
noncomputable def cf27 : G24 := fun x => if smallP x.1 ∧ x.2.1 = (1 : Int) ∧ totT x.1 ≤ 2000000 then (match foldM27 cf70 x.1 1 with | some z => some (z.1, z.2, ()) | none => none) else none
theorem k27 : KOne Try.prog 24 ⟨[.v (.slice 42 poly), .v i64], [.slice 42 poly, i64], false, false, 1, cf27⟩ := one27 (cf := cf27) k70 fun x y h => by
  obtain ⟨L, k, _⟩ := x
  change List Po at L
  change Int at k
  simp only [cf27] at h
  split at h
  · rename_i hc
    obtain ⟨hs, hk, _⟩ := hc
    have hk : k = 1 := hk
    subst hk
    split at h
    · rename_i z hz
      injection h with h; subst h
      have hs1 : L.length ≤ 2000000 := hs.1
      exact ⟨Nat.le_trans hs1 (by omega), z, hz, rfl⟩
    · cases h
  · cases h
abbrev R37 : Type := Ress [i64]
abbrev G37 : Type := Args [.v (.slice 66 mat), .v i64] → Option R37
abbrev kp37 : List (Nat × List Nat) := [(0, [1, 0]), (1, [1]), (2, [10, 1]), (3, [4]), (4, [4])]
abbrev ct37 : CTab := []
def fn37 (F : Nat) (x : Args [.v (.slice 66 mat), .v i64]) : Option R37 :=
  match x with
  | (x0, x1, _) => (bif decide ((List.length x0) ≤ 9223372036854775807) then (bif decide ((w6 (x1 - (Int.ofNat (List.length x0)))) < (0 : Int)) then (some ((-(1 : Int)), ())) else (some ((w6 (x1 - (Int.ofNat (List.length x0)))), ()))) else none)
theorem ev37 (F : Nat) (x : Args [.v (.slice 66 mat), .v i64]) : fnK TT (ct37 ) kp37 [i64] [] (bodyOf Try.f37) [.tmp 4] [.v (.slice 66 mat), .v i64] false false x = fn37 F x := by
  obtain ⟨x0, x1, _⟩ := x
  kernel_rfl
theorem ok37 (hK : KOK Try.prog (ct37 )) (cf : G37) (h : ∀ x y, cf x = some y → ∃ F, fn37 F x = some y) : KOne Try.prog 37 ⟨[.v (.slice 66 mat), .v i64], [i64], false, false, 0, cf⟩ :=
  fn_one rfl (c := bodyOf Try.f37) mixed tt_ok hK Try.func37 (by kernel_rfl) (by kernel_rfl) (Nat.le_of_ble_eq_true (by kernel_rfl)) (by decide) fun x y hxy => by
    obtain ⟨F, hF⟩ := h x y hxy
    exact ⟨[], LTOK_by (l := []) (by kernel_rfl) trivial, (ev37 F x).trans hF⟩
abbrev R9 : Type := Ress [i64]
abbrev G9 : Type := Args [.v (.pair i64 (.pair i64 (.pair (.slice 66 mat) .unit))), .v i64] → Option R9
abbrev kp9 : List (Nat × List Nat) := [(0, [2, 1]), (1, [1]), (2, [10, 1]), (3, [4]), (4, [4])]
abbrev ct9 (g37 : G37) : CTab := [(37, ⟨[.v (.slice 66 mat), .v i64], [i64], false, false, 0, g37⟩)]
def fn9 (g37 : G37) (F : Nat) (x : Args [.v (.pair i64 (.pair i64 (.pair (.slice 66 mat) .unit))), .v i64]) : Option R9 :=
  match x with
  | (x0, x1, _) => (match (g37 (x0.2.2.1, (x1, ()))) with | some r5 => (bif decide (r5.1 < (0 : Int)) then (some ((-(1 : Int)), ())) else (some (r5.1, ()))) | none => none)
theorem ev9 (g37 : G37) (F : Nat) (x : Args [.v (.pair i64 (.pair i64 (.pair (.slice 66 mat) .unit))), .v i64]) : fnK TT (ct9 g37 ) kp9 [i64] [] (bodyOf Try.f9) [.tmp 4] [.v (.pair i64 (.pair i64 (.pair (.slice 66 mat) .unit))), .v i64] false false x = fn9 g37 F x := by
  obtain ⟨x0, x1, _⟩ := x
  kernel_rfl
theorem ok9 (g37 : G37) (hK : KOK Try.prog (ct9 g37 )) (cf : G9) (h : ∀ x y, cf x = some y → ∃ F, fn9 g37 F x = some y) : KOne Try.prog 9 ⟨[.v (.pair i64 (.pair i64 (.pair (.slice 66 mat) .unit))), .v i64], [i64], false, false, 0, cf⟩ :=
  fn_one rfl (c := bodyOf Try.f9) mixed tt_ok hK Try.func9 (by kernel_rfl) (by kernel_rfl) (Nat.le_of_ble_eq_true (by kernel_rfl)) (by decide) fun x y hxy => by
    obtain ⟨F, hF⟩ := h x y hxy
    exact ⟨[], LTOK_by (l := []) (by kernel_rfl) trivial, (ev9 g37 F x).trans hF⟩
abbrev R43 : Type := Ress [(.slice 67 mat)]
abbrev G43 : Type := Args [.v (.slice 66 mat)] → Option R43
abbrev kp43 : List (Nat × List Nat) := [(0, [0]), (1, [0, 3]), (2, [4, 0, 3]), (3, [11, 4, 0, 3]), (5, [4, 0, 3]), (4, [4, 0, 3]), (6, [2])]
abbrev ct43 (g77 : G77) : CTab := [(77, ⟨[.v mat], [mat], false, false, 0, g77⟩)]
abbrev kr43 : Env → Option R43 := endK TT [.tmp 2] [(.slice 67 mat)] true false
abbrev sh43_3 : Shape := [(0, .val false [.fz (.slice 66 mat) 0 true]), (3, vr 67 mat 49 false), (4, vv i64)]
def st43_3 (g77 : G77) (F : Nat) (s : ShVal sh43_3) (k kx : ShVal sh43_3 → Option R43) : Option R43 :=
  match s with
  | ((t0, _), (t3, _), (t4, _), _) => (bif decide ((List.length t0) ≤ 9223372036854775807) then (bif decide (t4 < (Int.ofNat (List.length t0))) then (bif ib t4 (Int.ofNat (List.length t0)) then (match (g77 ((List.getD t0 (tn t4) (Ty.dflt (.arr 3 (.arr 3 (.int .u8))))), ())) with | some r10 => (bif ib t4 (Int.ofNat (List.length t3)) then k ((t0, ()), (((List.set t3 (tn t4) r10.1), ()), (((w6 (t4 + (1 : Int))), ()), ()))) else none) | none => none) else none) else kx ((t0, ()), ((t3, ()), ((t4, ()), ())))) else none)
def ru43_3 (g77 : G77) (F : Nat) (s : ShVal sh43_3) (kx : ShVal sh43_3 → Option R43) : Option R43 := iter (fun s k => st43_3 g77 F s k kx) F s
abbrev ls43_3 (g77 : G77) (F : Nat) : LS R43 := ⟨sh43_3, 0, ru43_3 g77 F⟩
def fn43 (g77 : G77) (F : Nat) (x : Args [.v (.slice 66 mat)]) : Option R43 :=
  match x with
  | (x0, _) => (bif decide ((List.length x0) ≤ 9223372036854775807) then (bif ((decide ((0 : Int) ≤ (Int.ofNat (List.length x0))) && decide ((Int.ofNat (List.length x0)) ≤ (1099511627776 : Int))) && decide ((Int.ofNat (List.length x0)) = (Int.ofNat (List.length x0)))) then (ru43_3 g77 F ((x0, ()), (((List.replicate (tn (Int.ofNat (List.length x0))) (Ty.dflt (.arr 3 (.arr 3 (.int .u8))))), ()), (((0 : Int), ()), ()))) (fun s' => match s' with | ((t0, _), (t3, _), (t4, _), _) => (some (t3, ())))) else none) else none)
theorem ev43_3 (g77 : G77) (F : Nat) (s : ShVal sh43_3) (k kx : ShVal sh43_3 → Option R43) : evL TT (ct43 g77 ) kp43 [] (loopOf Try.f43 3) (envOf sh43_3 s) (fitK sh43_3 k) (fun j e => bif Nat.beq j 0 then fitK sh43_3 kx e else none) kr43 = st43_3 g77 F s k kx := by
  obtain ⟨⟨t0, _⟩, ⟨t3, _⟩, ⟨t4, _⟩, _⟩ := s
  kernel_rfl
theorem ok43_3 (g77 : G77) (F : Nat) (hK : KOK Try.prog (ct43 g77 )) : LSOK Try.prog ⟨23, false, undef⟩ (ls43_3 g77 F) (loopOf Try.f43 3) kr43 :=
  loop_ok (st43_3 g77 F) mixed tt_ok hK (by kernel_rfl) (LTOK_by (l := []) (by kernel_rfl) trivial) (ev43_3 g77 F)
theorem ev43 (g77 : G77) (F : Nat) (x : Args [.v (.slice 66 mat)]) : fnK TT (ct43 g77 ) kp43 [(.slice 67 mat)] [(3, ls43_3 g77 F)] (bodyOf Try.f43) [.tmp 2] [.v (.slice 66 mat)] true false x = fn43 g77 F x := by
  obtain ⟨x0, _⟩ := x
  kernel_rfl
theorem ok43 (g77 : G77) (hK : KOK Try.prog (ct43 g77 )) (cf : G43) (h : ∀ x y, cf x = some y → ∃ F, fn43 g77 F x = some y) : KOne Try.prog 43 ⟨[.v (.slice 66 mat)], [(.slice 67 mat)], true, false, 0, cf⟩ :=
  fn_one rfl (c := bodyOf Try.f43) mixed tt_ok hK Try.func43 (by kernel_rfl) (by kernel_rfl) (Nat.le_of_ble_eq_true (by kernel_rfl)) (by decide) fun x y hxy => by
    obtain ⟨F, hF⟩ := h x y hxy
    exact ⟨[(3, ls43_3 g77 F)], LTOK_by (l := [loopOf Try.f43 3]) (by kernel_rfl) ⟨ls_at (by kernel_rfl) (ok43_3 g77 F hK), trivial⟩, (ev43 g77 F x).trans hF⟩
abbrev R11 : Type := Ress [(.pair i64 (.pair i64 (.pair (.slice 67 mat) .unit)))]
abbrev G11 : Type := Args [.v (.pair i64 (.pair i64 (.pair (.slice 66 mat) .unit)))] → Option R11
abbrev kp11 : List (Nat × List Nat) := [(0, [1, 2]), (1, [1, 3, 2]), (2, [1, 3, 2]), (3, [1, 3, 2]), (4, [3, 2]), (5, [2])]
abbrev ct11 (g43 : G43) : CTab := [(43, ⟨[.v (.slice 66 mat)], [(.slice 67 mat)], true, false, 0, g43⟩)]
def fn11 (g43 : G43) (F : Nat) (x : Args [.v (.pair i64 (.pair i64 (.pair (.slice 66 mat) .unit)))]) : Option R11 :=
  match x with
  | (x0, _) => (match (g43 (x0.2.2.1, ())) with | some r7 => (some ((x0.1, (x0.2.1, (r7.1, ()))), ())) | none => none)
theorem ev11 (g43 : G43) (F : Nat) (x : Args [.v (.pair i64 (.pair i64 (.pair (.slice 66 mat) .unit)))]) : fnK TT (ct11 g43 ) kp11 [(.pair i64 (.pair i64 (.pair (.slice 67 mat) .unit)))] [] (bodyOf Try.f11) [.cell 2 31] [.v (.pair i64 (.pair i64 (.pair (.slice 66 mat) .unit)))] true false x = fn11 g43 F x := by
  obtain ⟨x0, _⟩ := x
  kernel_rfl
theorem ok11 (g43 : G43) (hK : KOK Try.prog (ct11 g43 )) (cf : G11) (h : ∀ x y, cf x = some y → ∃ F, fn11 g43 F x = some y) : KOne Try.prog 11 ⟨[.v (.pair i64 (.pair i64 (.pair (.slice 66 mat) .unit)))], [(.pair i64 (.pair i64 (.pair (.slice 67 mat) .unit)))], true, false, 0, cf⟩ :=
  fn_one rfl (c := bodyOf Try.f11) mixed tt_ok hK Try.func11 (by kernel_rfl) (by kernel_rfl) (Nat.le_of_ble_eq_true (by kernel_rfl)) (by decide) fun x y hxy => by
    obtain ⟨F, hF⟩ := h x y hxy
    exact ⟨[], LTOK_by (l := []) (by kernel_rfl) trivial, (ev11 g43 F x).trans hF⟩
abbrev R111 : Type := Ress [.bool]
abbrev G111 : Type := Args [.v ex, .v ex] → Option R111
abbrev kp111 : List (Nat × List Nat) := [(0, [3, 2]), (1, [5, 3, 2]), (2, [7, 2, 3, 5]), (4, [16, 2, 3, 5]), (5, [4]), (3, [5, 3, 2]), (6, [4])]
abbrev ct111 : CTab := []
abbrev kr111 : Env → Option R111 := endK TT [.tmp 4] [.bool] false false
abbrev sh111_2 : Shape := [(2, bb ex), (3, bb ex), (5, vv i64)]
def st111_2 (F : Nat) (s : ShVal sh111_2) (k kx : ShVal sh111_2 → Option R111) : Option R111 :=
  match s with
  | ((t2, _), (t3, _), (t5, _), _) => (bif decide (t5 < (3 : Int)) then (bif ib t5 (Int.ofNat 3) then (bif ib t5 (Int.ofNat 3) then (bif (!decide ((tget (0 : Int) 3 t2 (tn t5)) = (tget (0 : Int) 3 t3 (tn t5)))) then (some (false, ())) else k ((t2, ()), ((t3, ()), (((w6 (t5 + (1 : Int))), ()), ())))) else none) else none) else kx ((t2, ()), ((t3, ()), ((t5, ()), ()))))
def ru111_2 (F : Nat) (s : ShVal sh111_2) (kx : ShVal sh111_2 → Option R111) : Option R111 := iter (fun s k => st111_2 F s k kx) F s
abbrev ls111_2 (F : Nat) : LS R111 := ⟨sh111_2, 0, ru111_2 F⟩
def fn111 (F : Nat) (x : Args [.v ex, .v ex]) : Option R111 :=
  match x with
  | (x0, x1, _) => (ru111_2 F ((x0, ()), ((x1, ()), (((0 : Int), ()), ()))) (fun s' => match s' with | ((t2, _), (t3, _), (t5, _), _) => (some (true, ()))))
theorem ev111_2 (F : Nat) (s : ShVal sh111_2) (k kx : ShVal sh111_2 → Option R111) : evL TT (ct111 ) kp111 [] (loopOf Try.f111 2) (envOf sh111_2 s) (fitK sh111_2 k) (fun j e => bif Nat.beq j 0 then fitK sh111_2 kx e else none) kr111 = st111_2 F s k kx := by
  obtain ⟨⟨t2, _⟩, ⟨t3, _⟩, ⟨t5, _⟩, _⟩ := s
  kernel_rfl
theorem ok111_2 (F : Nat) (hK : KOK Try.prog (ct111 )) : LSOK Try.prog ⟨17, false, undef⟩ (ls111_2 F) (loopOf Try.f111 2) kr111 :=
  loop_ok (st111_2 F) mixed tt_ok hK (by kernel_rfl) (LTOK_by (l := []) (by kernel_rfl) trivial) (ev111_2 F)
theorem ev111 (F : Nat) (x : Args [.v ex, .v ex]) : fnK TT (ct111 ) kp111 [.bool] [(2, ls111_2 F)] (bodyOf Try.f111) [.tmp 4] [.v ex, .v ex] false false x = fn111 F x := by
  obtain ⟨x0, x1, _⟩ := x
  kernel_rfl
theorem ok111 (hK : KOK Try.prog (ct111 )) (cf : G111) (h : ∀ x y, cf x = some y → ∃ F, fn111 F x = some y) : KOne Try.prog 111 ⟨[.v ex, .v ex], [.bool], false, false, 0, cf⟩ :=
  fn_one rfl (c := bodyOf Try.f111) mixed tt_ok hK Try.func111 (by kernel_rfl) (by kernel_rfl) (Nat.le_of_ble_eq_true (by kernel_rfl)) (by decide) fun x y hxy => by
    obtain ⟨F, hF⟩ := h x y hxy
    exact ⟨[(2, ls111_2 F)], LTOK_by (l := [loopOf Try.f111 2]) (by kernel_rfl) ⟨ls_at (by kernel_rfl) (ok111_2 F hK), trivial⟩, (ev111 F x).trans hF⟩
abbrev R80 : Type := Ress [.bool]
abbrev G80 : Type := Args [.v mat, .v mat] → Option R80
abbrev kp80 : List (Nat × List Nat) := [(0, [3, 2]), (1, [5, 3, 2]), (2, [7, 2, 3, 5]), (4, [17, 2, 3, 5]), (5, [4]), (3, [5, 3, 2]), (6, [4])]
abbrev ct80 (g111 : G111) : CTab := [(111, ⟨[.v ex, .v ex], [.bool], false, false, 0, g111⟩)]
abbrev kr80 : Env → Option R80 := endK TT [.tmp 4] [.bool] false false
abbrev sh80_2 : Shape := [(2, bb mat), (3, bb mat), (5, vv i64)]
def st80_2 (g111 : G111) (F : Nat) (s : ShVal sh80_2) (k kx : ShVal sh80_2 → Option R80) : Option R80 :=
  match s with
  | ((t2, _), (t3, _), (t5, _), _) => (bif decide (t5 < (3 : Int)) then (bif ib t5 (Int.ofNat 3) then (bif ib t5 (Int.ofNat 3) then (match (g111 ((tget (Ty.dflt (.arr 3 (.int .u8))) 3 t2 (tn t5)), ((tget (Ty.dflt (.arr 3 (.int .u8))) 3 t3 (tn t5)), ()))) with | some r10 => (bif (!r10.1) then (some (false, ())) else k ((t2, ()), ((t3, ()), (((w6 (t5 + (1 : Int))), ()), ())))) | none => none) else none) else none) else kx ((t2, ()), ((t3, ()), ((t5, ()), ()))))
def ru80_2 (g111 : G111) (F : Nat) (s : ShVal sh80_2) (kx : ShVal sh80_2 → Option R80) : Option R80 := iter (fun s k => st80_2 g111 F s k kx) F s
abbrev ls80_2 (g111 : G111) (F : Nat) : LS R80 := ⟨sh80_2, 0, ru80_2 g111 F⟩
def fn80 (g111 : G111) (F : Nat) (x : Args [.v mat, .v mat]) : Option R80 :=
  match x with
  | (x0, x1, _) => (ru80_2 g111 F ((x0, ()), ((x1, ()), (((0 : Int), ()), ()))) (fun s' => match s' with | ((t2, _), (t3, _), (t5, _), _) => (some (true, ()))))
theorem ev80_2 (g111 : G111) (F : Nat) (s : ShVal sh80_2) (k kx : ShVal sh80_2 → Option R80) : evL TT (ct80 g111 ) kp80 [] (loopOf Try.f80 2) (envOf sh80_2 s) (fitK sh80_2 k) (fun j e => bif Nat.beq j 0 then fitK sh80_2 kx e else none) kr80 = st80_2 g111 F s k kx := by
  obtain ⟨⟨t2, _⟩, ⟨t3, _⟩, ⟨t5, _⟩, _⟩ := s
  kernel_rfl
theorem ok80_2 (g111 : G111) (F : Nat) (hK : KOK Try.prog (ct80 g111 )) : LSOK Try.prog ⟨18, false, undef⟩ (ls80_2 g111 F) (loopOf Try.f80 2) kr80 :=
  loop_ok (st80_2 g111 F) mixed tt_ok hK (by kernel_rfl) (LTOK_by (l := []) (by kernel_rfl) trivial) (ev80_2 g111 F)
theorem ev80 (g111 : G111) (F : Nat) (x : Args [.v mat, .v mat]) : fnK TT (ct80 g111 ) kp80 [.bool] [(2, ls80_2 g111 F)] (bodyOf Try.f80) [.tmp 4] [.v mat, .v mat] false false x = fn80 g111 F x := by
  obtain ⟨x0, x1, _⟩ := x
  kernel_rfl
theorem ok80 (g111 : G111) (hK : KOK Try.prog (ct80 g111 )) (cf : G80) (h : ∀ x y, cf x = some y → ∃ F, fn80 g111 F x = some y) : KOne Try.prog 80 ⟨[.v mat, .v mat], [.bool], false, false, 0, cf⟩ :=
  fn_one rfl (c := bodyOf Try.f80) mixed tt_ok hK Try.func80 (by kernel_rfl) (by kernel_rfl) (Nat.le_of_ble_eq_true (by kernel_rfl)) (by decide) fun x y hxy => by
    obtain ⟨F, hF⟩ := h x y hxy
    exact ⟨[(2, ls80_2 g111 F)], LTOK_by (l := [loopOf Try.f80 2]) (by kernel_rfl) ⟨ls_at (by kernel_rfl) (ok80_2 g111 F hK), trivial⟩, (ev80 g111 F x).trans hF⟩
abbrev R48 : Type := Ress [.bool]
abbrev G48 : Type := Args [.v (.slice 67 mat), .v (.slice 67 mat)] → Option R48
abbrev kp48 : List (Nat × List Nat) := [(0, [0, 1]), (1, [10, 0, 1]), (2, [4]), (3, [5, 1, 0]), (4, [14, 0, 1, 5]), (6, [26, 0, 1, 5]), (7, [4]), (5, [5, 1, 0]), (8, [4])]
abbrev ct48 (g80 : G80) : CTab := [(80, ⟨[.v mat, .v mat], [.bool], false, false, 0, g80⟩)]
abbrev kr48 : Env → Option R48 := endK TT [.tmp 4] [.bool] false false
abbrev sh48_4 : Shape := [(0, .val false [.fz (.slice 67 mat) 0 true]), (1, .val false [.fz (.slice 67 mat) 0 true]), (5, vv i64)]
def st48_4 (g80 : G80) (F : Nat) (s : ShVal sh48_4) (k kx : ShVal sh48_4 → Option R48) : Option R48 :=
  match s with
  | ((t0, _), (t1, _), (t5, _), _) => (bif decide ((List.length t0) ≤ 9223372036854775807) then (bif decide (t5 < (Int.ofNat (List.length t0))) then (bif ib t5 (Int.ofNat (List.length t0)) then (bif ib t5 (Int.ofNat (List.length t1)) then (match (g80 ((List.getD t0 (tn t5) (Ty.dflt (.arr 3 (.arr 3 (.int .u8))))), ((List.getD t1 (tn t5) (Ty.dflt (.arr 3 (.arr 3 (.int .u8))))), ()))) with | some r11 => (bif (!r11.1) then (some (false, ())) else k ((t0, ()), ((t1, ()), (((w6 (t5 + (1 : Int))), ()), ())))) | none => none) else none) else none) else kx ((t0, ()), ((t1, ()), ((t5, ()), ())))) else none)
def ru48_4 (g80 : G80) (F : Nat) (s : ShVal sh48_4) (kx : ShVal sh48_4 → Option R48) : Option R48 := iter (fun s k => st48_4 g80 F s k kx) F s
abbrev ls48_4 (g80 : G80) (F : Nat) : LS R48 := ⟨sh48_4, 0, ru48_4 g80 F⟩
def fn48 (g80 : G80) (F : Nat) (x : Args [.v (.slice 67 mat), .v (.slice 67 mat)]) : Option R48 :=
  match x with
  | (x0, x1, _) => (bif decide ((List.length x0) ≤ 9223372036854775807) then (bif decide ((List.length x1) ≤ 9223372036854775807) then (bif (!decide ((Int.ofNat (List.length x0)) = (Int.ofNat (List.length x1)))) then (some (false, ())) else (ru48_4 g80 F ((x0, ()), ((x1, ()), (((0 : Int), ()), ()))) (fun s' => match s' with | ((t0, _), (t1, _), (t5, _), _) => (some (true, ()))))) else none) else none)
theorem ev48_4 (g80 : G80) (F : Nat) (s : ShVal sh48_4) (k kx : ShVal sh48_4 → Option R48) : evL TT (ct48 g80 ) kp48 [] (loopOf Try.f48 4) (envOf sh48_4 s) (fitK sh48_4 k) (fun j e => bif Nat.beq j 0 then fitK sh48_4 kx e else none) kr48 = st48_4 g80 F s k kx := by
  obtain ⟨⟨t0, _⟩, ⟨t1, _⟩, ⟨t5, _⟩, _⟩ := s
  kernel_rfl
theorem ok48_4 (g80 : G80) (F : Nat) (hK : KOK Try.prog (ct48 g80 )) : LSOK Try.prog ⟨27, false, undef⟩ (ls48_4 g80 F) (loopOf Try.f48 4) kr48 :=
  loop_ok (st48_4 g80 F) mixed tt_ok hK (by kernel_rfl) (LTOK_by (l := []) (by kernel_rfl) trivial) (ev48_4 g80 F)
theorem ev48 (g80 : G80) (F : Nat) (x : Args [.v (.slice 67 mat), .v (.slice 67 mat)]) : fnK TT (ct48 g80 ) kp48 [.bool] [(4, ls48_4 g80 F)] (bodyOf Try.f48) [.tmp 4] [.v (.slice 67 mat), .v (.slice 67 mat)] false false x = fn48 g80 F x := by
  obtain ⟨x0, x1, _⟩ := x
  kernel_rfl
theorem ok48 (g80 : G80) (hK : KOK Try.prog (ct48 g80 )) (cf : G48) (h : ∀ x y, cf x = some y → ∃ F, fn48 g80 F x = some y) : KOne Try.prog 48 ⟨[.v (.slice 67 mat), .v (.slice 67 mat)], [.bool], false, false, 0, cf⟩ :=
  fn_one rfl (c := bodyOf Try.f48) mixed tt_ok hK Try.func48 (by kernel_rfl) (by kernel_rfl) (Nat.le_of_ble_eq_true (by kernel_rfl)) (by decide) fun x y hxy => by
    obtain ⟨F, hF⟩ := h x y hxy
    exact ⟨[(4, ls48_4 g80 F)], LTOK_by (l := [loopOf Try.f48 4]) (by kernel_rfl) ⟨ls_at (by kernel_rfl) (ok48_4 g80 F hK), trivial⟩, (ev48 g80 F x).trans hF⟩
abbrev R14 : Type := Ress [.bool]
abbrev G14 : Type := Args [.v (.pair i64 (.pair i64 (.pair (.slice 67 mat) .unit))), .v (.pair i64 (.pair i64 (.pair (.slice 67 mat) .unit)))] → Option R14
abbrev kp14 : List (Nat × List Nat) := [(0, [2, 3]), (1, [9, 2, 3]), (2, [4]), (3, [14, 3, 2]), (4, [4]), (5, [20]), (6, [4]), (7, [4])]
abbrev ct14 (g48 : G48) : CTab := [(48, ⟨[.v (.slice 67 mat), .v (.slice 67 mat)], [.bool], false, false, 0, g48⟩)]
def fn14 (g48 : G48) (F : Nat) (x : Args [.v (.pair i64 (.pair i64 (.pair (.slice 67 mat) .unit))), .v (.pair i64 (.pair i64 (.pair (.slice 67 mat) .unit)))]) : Option R14 :=
  match x with
  | (x0, x1, _) => (bif (!decide (x0.1 = x1.1)) then (some (false, ())) else (bif (!decide (x0.2.1 = x1.2.1)) then (some (false, ())) else (match (g48 (x0.2.2.1, (x1.2.2.1, ()))) with | some r7 => (bif (!r7.1) then (some (false, ())) else (some (true, ()))) | none => none)))
theorem ev14 (g48 : G48) (F : Nat) (x : Args [.v (.pair i64 (.pair i64 (.pair (.slice 67 mat) .unit))), .v (.pair i64 (.pair i64 (.pair (.slice 67 mat) .unit)))]) : fnK TT (ct14 g48 ) kp14 [.bool] [] (bodyOf Try.f14) [.tmp 4] [.v (.pair i64 (.pair i64 (.pair (.slice 67 mat) .unit))), .v (.pair i64 (.pair i64 (.pair (.slice 67 mat) .unit)))] false false x = fn14 g48 F x := by
  obtain ⟨x0, x1, _⟩ := x
  kernel_rfl
theorem ok14 (g48 : G48) (hK : KOK Try.prog (ct14 g48 )) (cf : G14) (h : ∀ x y, cf x = some y → ∃ F, fn14 g48 F x = some y) : KOne Try.prog 14 ⟨[.v (.pair i64 (.pair i64 (.pair (.slice 67 mat) .unit))), .v (.pair i64 (.pair i64 (.pair (.slice 67 mat) .unit)))], [.bool], false, false, 0, cf⟩ :=
  fn_one rfl (c := bodyOf Try.f14) mixed tt_ok hK Try.func14 (by kernel_rfl) (by kernel_rfl) (Nat.le_of_ble_eq_true (by kernel_rfl)) (by decide) fun x y hxy => by
    obtain ⟨F, hF⟩ := h x y hxy
    exact ⟨[], LTOK_by (l := []) (by kernel_rfl) trivial, (ev14 g48 F x).trans hF⟩
abbrev R137 : Type := Ress [i64]
abbrev G137 : Type := Args [.v (.slice 67 mat), .v mat] → Option R137
abbrev kp137 : List (Nat × List Nat) := [(0, [0, 3]), (1, [8, 0, 3, 7]), (2, [9, 7, 3, 0, 8]), (3, [7, 3, 0, 8, 5]), (4, [16, 7, 3, 0, 8, 5]), (5, [4]), (6, [8, 0, 3, 7]), (7, [4])]
abbrev ct137 : CTab := []
abbrev kr137 : Env → Option R137 := endK TT [.tmp 4] [i64] false false
abbrev sh137_2 : Shape := [(0, .val false [.fz (.slice 67 mat) 0 true]), (3, bb mat), (7, vv i64), (8, vv i64)]
def st137_2 (F : Nat) (s : ShVal sh137_2) (k kx : ShVal sh137_2 → Option R137) : Option R137 :=
  match s with
  | ((t0, _), (t3, _), (t7, _), (t8, _), _) => (bif decide (t8 < t7) then (bif ib t8 (Int.ofNat (List.length t0)) then (bif (Ty.eqd (.arr 3 (.arr 3 (.int .u8))) t3 (List.getD t0 (tn t8) (Ty.dflt (.arr 3 (.arr 3 (.int .u8)))))) then (some (t8, ())) else k ((t0, ()), ((t3, ()), ((t7, ()), (((w6 (t8 + (1 : Int))), ()), ()))))) else none) else kx ((t0, ()), ((t3, ()), ((t7, ()), ((t8, ()), ())))))
def ru137_2 (F : Nat) (s : ShVal sh137_2) (kx : ShVal sh137_2 → Option R137) : Option R137 := iter (fun s k => st137_2 F s k kx) F s
abbrev ls137_2 (F : Nat) : LS R137 := ⟨sh137_2, 0, ru137_2 F⟩
def fn137 (F : Nat) (x : Args [.v (.slice 67 mat), .v mat]) : Option R137 :=
  match x with
  | (x0, x1, _) => (bif decide ((List.length x0) ≤ 9223372036854775807) then (ru137_2 F ((x0, ()), ((x1, ()), (((Int.ofNat (List.length x0)), ()), (((0 : Int), ()), ())))) (fun s' => match s' with | ((t0, _), (t3, _), (t7, _), (t8, _), _) => (some ((-(1 : Int)), ())))) else none)
theorem ev137_2 (F : Nat) (s : ShVal sh137_2) (k kx : ShVal sh137_2 → Option R137) : evL TT (ct137 ) kp137 [] (loopOf Try.f137 2) (envOf sh137_2 s) (fitK sh137_2 k) (fun j e => bif Nat.beq j 0 then fitK sh137_2 kx e else none) kr137 = st137_2 F s k kx := by
  obtain ⟨⟨t0, _⟩, ⟨t3, _⟩, ⟨t7, _⟩, ⟨t8, _⟩, _⟩ := s
  kernel_rfl
theorem ok137_2 (F : Nat) (hK : KOK Try.prog (ct137 )) : LSOK Try.prog ⟨19, false, undef⟩ (ls137_2 F) (loopOf Try.f137 2) kr137 :=
  loop_ok (st137_2 F) mixed tt_ok hK (by kernel_rfl) (LTOK_by (l := []) (by kernel_rfl) trivial) (ev137_2 F)
theorem ev137 (F : Nat) (x : Args [.v (.slice 67 mat), .v mat]) : fnK TT (ct137 ) kp137 [i64] [(2, ls137_2 F)] (bodyOf Try.f137) [.tmp 4] [.v (.slice 67 mat), .v mat] false false x = fn137 F x := by
  obtain ⟨x0, x1, _⟩ := x
  kernel_rfl
theorem ok137 (hK : KOK Try.prog (ct137 )) (cf : G137) (h : ∀ x y, cf x = some y → ∃ F, fn137 F x = some y) : KOne Try.prog 137 ⟨[.v (.slice 67 mat), .v mat], [i64], false, false, 0, cf⟩ :=
  fn_one rfl (c := bodyOf Try.f137) mixed tt_ok hK Try.func137 (by kernel_rfl) (by kernel_rfl) (Nat.le_of_ble_eq_true (by kernel_rfl)) (by decide) fun x y hxy => by
    obtain ⟨F, hF⟩ := h x y hxy
    exact ⟨[(2, ls137_2 F)], LTOK_by (l := [loopOf Try.f137 2]) (by kernel_rfl) ⟨ls_at (by kernel_rfl) (ok137_2 F hK), trivial⟩, (ev137 F x).trans hF⟩
abbrev R125 : Type := Ress [.bool]
abbrev G125 : Type := Args [.v (.slice 67 mat), .v mat] → Option R125
abbrev kp125 : List (Nat × List Nat) := [(0, [0, 3]), (1, [4])]
abbrev ct125 (g137 : G137) : CTab := [(137, ⟨[.v (.slice 67 mat), .v mat], [i64], false, false, 0, g137⟩)]
def fn125 (g137 : G137) (F : Nat) (x : Args [.v (.slice 67 mat), .v mat]) : Option R125 :=
  match x with
  | (x0, x1, _) => (match (g137 (x0, (x1, ()))) with | some r5 => (some (decide ((0 : Int) ≤ r5.1), ())) | none => none)
theorem ev125 (g137 : G137) (F : Nat) (x : Args [.v (.slice 67 mat), .v mat]) : fnK TT (ct125 g137 ) kp125 [.bool] [] (bodyOf Try.f125) [.tmp 4] [.v (.slice 67 mat), .v mat] false false x = fn125 g137 F x := by
  obtain ⟨x0, x1, _⟩ := x
  kernel_rfl
theorem ok125 (g137 : G137) (hK : KOK Try.prog (ct125 g137 )) (cf : G125) (h : ∀ x y, cf x = some y → ∃ F, fn125 g137 F x = some y) : KOne Try.prog 125 ⟨[.v (.slice 67 mat), .v mat], [.bool], false, false, 0, cf⟩ :=
  fn_one rfl (c := bodyOf Try.f125) mixed tt_ok hK Try.func125 (by kernel_rfl) (by kernel_rfl) (Nat.le_of_ble_eq_true (by kernel_rfl)) (by decide) fun x y hxy => by
    obtain ⟨F, hF⟩ := h x y hxy
    exact ⟨[], LTOK_by (l := []) (by kernel_rfl) trivial, (ev125 g137 F x).trans hF⟩
abbrev grpT : Ty := .pair i64 (.pair i64 (.pair (.slice 67 mat) .unit))
abbrev Gr : Type := grpT.den
def els (x : Gr) : List Mat := x.2.2.1
def cf71 : G37 := fun x => if (show List Mat from x.1).length ≤ 9223372036854775807 ∧ 0 ≤ x.2.1 ∧ x.2.1 ≤ (1048576 : Int) then some (if x.2.1 - ((show List Mat from x.1).length : Int) < 0 then -1 else x.2.1 - ((show List Mat from x.1).length : Int), ()) else none
theorem k71 : KOne Try.prog 37 ⟨[.v (.slice 66 mat), .v i64], [i64], false, false, 0, cf71⟩ := ok37 .nil cf71 fun x y h => by
  obtain ⟨l, k, _⟩ := x
  change List Mat at l
  change Int at k
  simp only [cf71] at h
  split at h
  · rename_i hc
    injection h with h; subst h
    obtain ⟨h1, h2, h3⟩ := hc
    have h2 : (0 : Int) ≤ k := h2
    have h3 : k ≤ (1048576 : Int) := h3
    refine ⟨0, ?_⟩
    simp only [fn37]
    rw [dln_t h1, cond_true]
    have hw := w6_id (x := k - (l.length : Int)) (by omega) (by omega)
    simp only [ofn, hw]
    by_cases q : k - (l.length : Int) < 0
    · rw [dlt_t q, if_pos q]; rfl
    · rw [dlt_f (by omega), if_neg q]; rfl
  · cases h
def cf30 : G9 := fun x => cf71 (x.1.2.2.1, x.2.1, ())
theorem k30 : KOne Try.prog 9 ⟨[.v (.pair i64 (.pair i64 (.pair (.slice 66 mat) .unit))), .v i64], [i64], false, false, 0, cf30⟩ := ok9 _ (.cons k71 .nil) cf30 fun x y h => by
  obtain ⟨⟨p, v, l, u⟩, k, _⟩ := x
  change List Mat at l
  change Int at k
  have h' : cf71 (l, k, ()) = some y := h
  refine ⟨0, ?_⟩
  show (match cf71 (l, k, ()) with | some r5 => (bif decide (r5.1 < (0 : Int)) then (some ((-(1 : Int)), ())) else (some (r5.1, ()))) | none => none) = _
  rw [h']
  simp only [cf71] at h'
  split at h'
  · injection h' with h'; subst h'
    by_cases q : k - (l.length : Int) < 0
    · rw [if_pos q]; rfl
    · rw [if_neg q]
      show (bif decide (k - (l.length : Int) < 0) then _ else _) = _
      rw [dlt_f (by omega)]; rfl
  · cases h'
def sz30 (g : Gr) : Int := if (1048576 : Int) - ((els g).length : Int) < 0 then -1 else (1048576 : Int) - ((els g).length : Int)
theorem g30_ok {g : Gr} (h : (els g).length ≤ 9223372036854775807) : cf30 (g, (1048576 : Int), ()) = some (sz30 g, ()) := if_pos ⟨h, by show (0 : Int) ≤ 1048576; omega, by show (1048576 : Int) ≤ 1048576; omega⟩
theorem sz30_small {g : Gr} (h : 0 ≤ sz30 g) : (els g).length ≤ 1048576 := by
  unfold sz30 at h
  split at h <;> omega
def cf76 : G43 := fun x => if (show List Mat from x.1).length ≤ 2000000 then some (x.1, ()) else none
theorem k76 : KOne Try.prog 43 ⟨[.v (.slice 66 mat)], [.slice 67 mat], true, false, 0, cf76⟩ := ok43 _ (.cons k16 .nil) cf76 fun x y h => by
  obtain ⟨l, _⟩ := x
  change List Mat at l
  simp only [cf76] at h
  split at h
  · rename_i hc
    injection h with h; subst h
    refine ⟨l.length + 1, ?_⟩
    simp only [fn43]
    rw [dln_t (by omega)]
    simp only [cond_true, ofn]
    rw [dle_t (by omega), dle_t (by omega)]
    simp only [decide_true, Bool.and_self, cond_true, tn_cast, ru43_3]
    refine iter_run (step := fun s k => st43_3 cf16 (l.length + 1) s k (fun s' => match s' with | ((t0, _), (t3, _), (t4, _), _) => (some (t3, ())))) (r := some (l, ())) l.length (l.length + 1) (fun i => ((l, ()), ((l.take i ++ List.replicate (l.length - i) (Ty.dflt mat), ()), ((i : Int), ()), ()))) (by omega) (fun i hi k => ?_) (fun k => ?_)
    · have h1 : (l.take i ++ List.replicate (l.length - i) (Ty.dflt mat)).length = l.length := by simp; omega
      have h2 := fun d' => copy_setG (d := Ty.dflt mat) (d' := d') hi
      generalize hL : l.take i ++ List.replicate (l.length - i) (Ty.dflt mat) = L at *
      simp (disch := omega) only [st43_3, dln_t, cond_true, ofn, dlt_t, ib_t, tn_cast, w6_id, cf16, h2]
      rfl
    · have h1 : l.take l.length ++ List.replicate (l.length - l.length) (Ty.dflt mat) = l := by simp
      rw [h1]
      simp (disch := omega) only [st43_3, dln_t, cond_true, ofn, dlt_f, cond_false]
  · cases h
def cf32 : G11 := fun x => if (show List Mat from x.1.2.2.1).length ≤ 2000000 then some (x.1, ()) else none
theorem k32 : KOne Try.prog 11 ⟨[.v (.pair i64 (.pair i64 (.pair (.slice 66 mat) .unit)))], [.pair i64 (.pair i64 (.pair (.slice 67 mat) .unit))], true, false, 0, cf32⟩ := ok11 _ (.cons k76 .nil) cf32 fun x y h => by
  obtain ⟨⟨p, v, l, u⟩, _⟩ := x
  simp only [cf32] at h
  split at h
  · rename_i hc
    injection h with h; subst h
    refine ⟨0, ?_⟩
    have g : cf76 (l, ()) = some (l, ()) := if_pos hc
    simp only [fn11, g]
  · cases h
theorem g32_ok {g : Gr} (h : (els g).length ≤ 2000000) : cf32 (g, ()) = some (g, ()) := if_pos h
def cf170 : G111 := fun x => if x.1 = x.2.1 then some (true, ()) else none
theorem k170 : KOne Try.prog 111 ⟨[.v ex, .v ex], [.bool], false, false, 0, cf170⟩ := ok111 .nil cf170 fun x y h => by
  obtain ⟨a, b, _⟩ := x
  simp only [cf170] at h
  split at h
  · rename_i hc
    injection h with h; subst h
    replace hc : a = b := hc
    subst hc
    obtain ⟨a0, a1, a2, _⟩ := a
    refine ⟨4, ?_⟩
    have e : ∀ x : Int, (!decide (x = x)) = false := fun x => by simp
    show (bif !decide (a0 = a0) then _ else bif !decide (a1 = a1) then _ else bif !decide (a2 = a2) then _ else _) = _
    rw [e, e, e]; rfl
  · cases h
instance decM : DecidableEq mat.den := inferInstanceAs (DecidableEq (ex.den × ex.den × ex.den × Unit))
def cf142 : G80 := fun x => if (show Mat from x.1) = x.2.1 then some (true, ()) else none
theorem k142 : KOne Try.prog 80 ⟨[.v mat, .v mat], [.bool], false, false, 0, cf142⟩ := ok80 _ (.cons k170 .nil) cf142 fun x y h => by
  obtain ⟨a, b, _⟩ := x
  simp only [cf142] at h
  split at h
  · rename_i hc
    injection h with h; subst h
    replace hc : a = b := hc
    subst hc
    obtain ⟨a0, a1, a2, _⟩ := a
    refine ⟨4, ?_⟩
    have e : ∀ x : ex.den, cf170 (x, x, ()) = some (true, ()) := fun x => if_pos rfl
    show (match cf170 (a0, a0, ()) with | some r10 => (bif !r10.1 then some (false, ()) else (match cf170 (a1, a1, ()) with | some r10 => (bif !r10.1 then some (false, ()) else (match cf170 (a2, a2, ()) with | some r10 => (bif !r10.1 then some (false, ()) else some (true, ())) | none => none)) | none => none)) | none => none) = _
    rw [e, e, e]; rfl
  · cases h
theorem run80 {L : List Mat} (hs : L.length ≤ 2000000) {F0 : Nat} : ∀ (r pre : List Mat) (F : Nat), r.length < F → pre ++ r = L →
    iter (fun s k => st48_4 cf142 F0 s k (fun s' => match s' with | ((t0, _), (t1, _), (t5, _), _) => (some (true, ())))) F ((L, ()), ((L, ()), (((pre.length : Int), ()), ()))) = some (true, ())
  | [], pre, F, hF, e => by
    obtain ⟨F, rfl⟩ : ∃ f, F = f + 1 := ⟨F - 1, by simp at hF; omega⟩
    rw [List.append_nil] at e; subst e
    simp only [iter, st48_4]
    simp (disch := omega) only [dln_t, cond_true, ofn, dlt_f, cond_false]
  | x :: r, pre, F, hF, e => by
    obtain ⟨F, rfl⟩ : ∃ f, F = f + 1 := ⟨F - 1, by simp at hF; omega⟩
    have l1 : pre.length < L.length := by rw [← e]; simp
    have g1 : ∀ dd, L.getD pre.length dd = x := fun dd => by rw [← e, List.getD_eq_getElem?_getD, List.getElem?_append_right (Nat.le_refl _)]; simp
    have g : cf142 (x, x, ()) = some (true, ()) := if_pos rfl
    simp only [iter, st48_4]
    simp (disch := omega) only [dln_t, cond_true, ofn, dlt_t, ib_t, tn_cast, w6_id, g1]
    show (match cf142 (x, x, ()) with | some r11 => _ | none => none) = _
    rw [g]
    have ih := run80 hs (F0 := F0) r (pre ++ [x]) F (by simp at hF; omega) (by simpa using e)
    simp only [List.length_append, List.length_singleton] at ih
    exact ih
def cf80 : G48 := fun x => if (show List Mat from x.1) = x.2.1 ∧ (show List Mat from x.1).length ≤ 2000000 then some (true, ()) else none
theorem k80 : KOne Try.prog 48 ⟨[.v (.slice 67 mat), .v (.slice 67 mat)], [.bool], false, false, 0, cf80⟩ := ok48 _ (.cons k142 .nil) cf80 fun x y h => by
  obtain ⟨L, M, _⟩ := x
  change List Mat at L
  change List Mat at M
  simp only [cf80] at h
  split at h
  · rename_i hc
    injection h with h; subst h
    obtain ⟨c0, hL⟩ := hc
    have c0 : L = M := c0
    subst c0
    have hL : L.length ≤ 2000000 := hL
    refine ⟨L.length + 1, ?_⟩
    simp (disch := omega) only [fn48, dln_t, cond_true, ofn, ru48_4]
    simp only [decide_true, Bool.not_true, cond_false]
    exact run80 hL L [] (L.length + 1) (by omega) rfl
  · cases h
def cf34 : G14 := fun x => if (show Gr from x.1) = x.2.1 ∧ (els x.1).length ≤ 2000000 then some (true, ()) else none
where decG : DecidableEq Gr := inferInstanceAs (DecidableEq (Int × Int × List Mat × Unit))
theorem k34 : KOne Try.prog 14 ⟨[.v grpT, .v grpT], [.bool], false, false, 0, cf34⟩ := ok14 _ (.cons k80 .nil) cf34 fun x y h => by
  obtain ⟨⟨p, n, l, u⟩, b, _⟩ := x
  change List Mat at l
  simp only [cf34] at h
  split at h
  · rename_i hc
    injection h with h; subst h
    obtain ⟨c0, hL⟩ := hc
    have c0 : (p, n, l, u) = b := c0
    subst c0
    have g : cf80 (l, l, ()) = some (true, ()) := if_pos ⟨rfl, hL⟩
    refine ⟨0, ?_⟩
    simp only [fn14, decide_true, Bool.not_true, cond_false, g]
  · cases h
theorem g34_ok {g : Gr} (h : (els g).length ≤ 2000000) : cf34 (g, g, ()) = some (true, ()) := if_pos ⟨rfl, h⟩
theorem eqdM {a b : Mat} : Ty.eqd mat a b = true ↔ a = b := by
  obtain ⟨a0, a1, a2, _⟩ := a
  obtain ⟨b0, b1, b2, _⟩ := b
  have e : Ty.eqd mat (a0, a1, a2, ()) (b0, b1, b2, ()) = (Ty.eqd ex a0 b0 && (Ty.eqd ex a1 b1 && (Ty.eqd ex a2 b2 && true))) := rfl
  show Ty.eqd mat (a0, a1, a2, ()) (b0, b1, b2, ()) = true ↔ _
  rw [e]
  simp only [Bool.and_eq_true, Bool.and_true, eqd_key keyT_ex]
  constructor
  · rintro ⟨rfl, rfl, rfl⟩; rfl
  · intro h
    injection h with h1 h; injection h with h2 h; injection h with h3 h
    exact ⟨h1, h2, h3⟩
def fstM (m : Mat) : List Mat → Nat
  | [] => 0
  | x :: r => if m = x then 0 else fstM m r + 1
theorem run195 {m : Mat} {F0 N : Nat} : ∀ (r pre : List Mat) (F : Nat), r.length < F → (pre ++ r).length = N → N ≤ 2000000 →
    iter (fun s k => st137_2 F0 s k (fun s' => match s' with | ((t0, _), (t3, _), (t7, _), (t8, _), _) => (some ((-(1 : Int)), ())))) F ((pre ++ r, ()), ((m, ()), (((N : Int), ()), (((pre.length : Int), ()), ())))) = some (if m ∈ r then ((pre.length : Int) + (fstM m r : Int)) else -1, ())
  | [], pre, F, hF, hl, hN => by
    obtain ⟨F, rfl⟩ : ∃ f, F = f + 1 := ⟨F - 1, by simp at hF; omega⟩
    rw [List.append_nil] at hl ⊢
    simp only [iter, st137_2]
    simp (disch := omega) only [ofn, dlt_f, cond_false]
    simp
  | x :: r, pre, F, hF, hl, hN => by
    obtain ⟨F, rfl⟩ : ∃ f, F = f + 1 := ⟨F - 1, by simp at hF; omega⟩
    have l1 : pre.length < N := by rw [← hl]; simp
    have g1 : ∀ dd, (pre ++ x :: r).getD pre.length dd = x := fun dd => by rw [List.getD_eq_getElem?_getD, List.getElem?_append_right (Nat.le_refl _)]; simp
    have ih := run195 (m := m) (F0 := F0) (N := N) r (pre ++ [x]) F (by simp at hF; omega) (by simpa using hl) hN
    simp only [List.append_assoc, List.singleton_append, List.length_append, List.length_singleton] at ih
    simp only [iter, st137_2]
    simp (disch := omega) only [ofn, cond_true, dlt_t, ib_t, tn_cast, hl, g1, w6_id]
    by_cases q : m = x
    · have e : Ty.eqd mat m x = true := eqdM.2 q
      show (bif Ty.eqd mat m x then _ else _) = _
      rw [e, cond_true, if_pos (by rw [q]; exact .head _)]
      simp [fstM, q]
    · have e : Ty.eqd mat m x = false := by
        cases h : Ty.eqd mat m x with
        | false => rfl
        | true => exact absurd (eqdM.1 h) q
      show (bif Ty.eqd mat m x then _ else _) = _
      rw [e, cond_false]
      refine ih.trans ?_
      have hm : (m ∈ x :: r) ↔ m ∈ r := by simp [q]
      by_cases z : m ∈ r
      · rw [if_pos z, if_pos (hm.2 z)]
        simp only [fstM, if_neg q]
        congr 2; omega
      · rw [if_neg z, if_neg (fun h => z (hm.1 h))]
def cf195 : G137 := fun x => if (show List Mat from x.1).length ≤ 2000000 then some (if (show Mat from x.2.1) ∈ (show List Mat from x.1) then (fstM x.2.1 x.1 : Int) else -1, ()) else none
theorem k195 : KOne Try.prog 137 ⟨[.v (.slice 67 mat), .v mat], [i64], false, false, 0, cf195⟩ := ok137 .nil cf195 fun x y h => by
  obtain ⟨L, m, _⟩ := x
  change List Mat at L
  change Mat at m
  simp only [cf195] at h
  split at h
  · rename_i hc
    injection h with h; subst h
    have hc : L.length ≤ 2000000 := hc
    refine ⟨L.length + 1, ?_⟩
    simp only [fn137]
    rw [dln_t (by omega)]
    simp only [cond_true, ofn, ru137_2]
    refine (run195 (m := m) (N := L.length) L [] (L.length + 1) (by omega) rfl hc).trans ?_
    congr 2
    by_cases z : m ∈ L
    · rw [if_pos z, if_pos z]; simp
    · rw [if_neg z, if_neg z]
  · cases h
def cf180 : G125 := fun x => if (show List Mat from x.1).length ≤ 2000000 then some (decide ((show Mat from x.2.1) ∈ (show List Mat from x.1)), ()) else none
theorem k180 : KOne Try.prog 125 ⟨[.v (.slice 67 mat), .v mat], [.bool], false, false, 0, cf180⟩ := ok125 _ (.cons k195 .nil) cf180 fun x y h => by
  obtain ⟨L, m, _⟩ := x
  change List Mat at L
  change Mat at m
  simp only [cf180] at h
  split at h
  · rename_i hc
    injection h with h; subst h
    have g : cf195 (L, m, ()) = some (if m ∈ L then (fstM m L : Int) else -1, ()) := if_pos hc
    refine ⟨0, ?_⟩
    simp only [fn125]
    rw [g]
    by_cases z : m ∈ L
    · rw [if_pos z, decide_eq_true z]
      show some (decide (0 ≤ (fstM m L : Int)), ()) = _
      rw [dle_t (by omega)]
    · rw [if_neg z, decide_eq_false z]; rfl
  · cases h
section
variable {p : Int} {m : Nat}
theorem fold_perm (hP : isP p = true) : ∀ {rows a b : List (List Int)}, a.Perm b → RR p m b → (∀ r ∈ rows, Can p m r) → (rows.foldl (takeL p) a).Perm (rows.foldl (stepR p) b)
  | [], a, b, h, _, _ => h
  | r :: rs, a, b, h, rr, hc => by
    have := isP_pos hP
    exact fold_perm (rows := rs) hP (take_perm (by omega) h rr (hc r (.head _))) (stepR_RR hP rr (hc r (.head _))) fun x hx => hc x (.tail _ hx)
theorem ldI_of {r : List Int} (h : ld r < r.length) : ldI r = (ld r : Int) := by unfold ldI; rw [if_neg (by omega)]
theorem RR.lds {out : List (List Int)} (rr : RR p m out) : out.Pairwise fun a b => ldI a < ldI b := by
  refine rr.ord.imp_of_mem fun {a b} ha hb h => ?_
  rw [ldI_of (by rw [(rr.can a ha).len]; exact rr.lt a ha), ldI_of (by rw [(rr.can b hb).len]; exact rr.lt b hb)]
  have := h.1; omega
theorem sort_ech (hP : isP p = true) {rows : List (List Int)} (hc : ∀ r ∈ rows, Can p m r) : sortK ldI (rows.foldl (takeL p) []) = ech p rows ∧ ((rows.foldl (takeL p) []).map ldI).Nodup := by
  have hp : (rows.foldl (takeL p) []).Perm (ech p rows) := fold_perm hP (.refl _) .nil hc
  have rr := ech_RR hP hc
  have hn : ((rows.foldl (takeL p) []).map ldI).Nodup := by
    refine (hp.map ldI).nodup_iff.2 ?_
    rw [List.nodup_iff_pairwise_ne, List.pairwise_map]
    exact rr.lds.imp fun h => by omega
  exact ⟨(sortK_unique hp.symm (rr.lds.imp fun h => by omega) hn).symm, hn⟩
theorem take_mem (hP : isP p = true) {rows : List (List Int)} (hc : ∀ r ∈ rows, Can p m r) : ∀ o ∈ rows.foldl (takeL p) [], Can p m o ∧ ld o < m := fun o ho => by
  have hp : (rows.foldl (takeL p) []).Perm (ech p rows) := fold_perm hP (.refl _) .nil hc
  have rr := ech_RR hP hc
  have := hp.mem_iff.1 ho
  exact ⟨rr.can o this, rr.lt o this⟩
theorem takes_len : ∀ {rows out : List (List Int)}, (rows.foldl (takeL p) out).length ≤ out.length + rows.length
  | [], out => by simp
  | r :: rs, out => by
    have := takes_len (rows := rs) (out := takeL p out r)
    have := takeL_len (p := p) (out := out) (r := r)
    simp only [List.foldl_cons, List.length_cons]; omega
end
abbrev R157 : Type := Ress [.bool]
abbrev G157 : Type := Args [.v i64] → Option R157
abbrev kp157 : List (Nat × List Nat) := [(0, [0]), (1, [2])]
abbrev ct157 : CTab := []
def fn157 (F : Nat) (x : Args [.v i64]) : Option R157 :=
  match x with
  | (x0, _) => (some ((!decide (x0 = (0 : Int))), ()))
theorem ev157 (F : Nat) (x : Args [.v i64]) : fnK TT (ct157 ) kp157 [.bool] [] (bodyOf Try.f157) [.tmp 2] [.v i64] false false x = fn157 F x := by
  obtain ⟨x0, _⟩ := x
  kernel_rfl
theorem ok157 (hK : KOK Try.prog (ct157 )) (cf : G157) (h : ∀ x y, cf x = some y → ∃ F, fn157 F x = some y) : KOne Try.prog 157 ⟨[.v i64], [.bool], false, false, 0, cf⟩ :=
  fn_one rfl (c := bodyOf Try.f157) mixed tt_ok hK Try.func157 (by kernel_rfl) (by kernel_rfl) (Nat.le_of_ble_eq_true (by kernel_rfl)) (by decide) fun x y hxy => by
    obtain ⟨F, hF⟩ := h x y hxy
    exact ⟨[], LTOK_by (l := []) (by kernel_rfl) trivial, (ev157 F x).trans hF⟩
abbrev R156 : Type := Ress [i64]
abbrev G156 : Type := Args [.v (.slice 2 i64), .fn 157] → Option R156
abbrev kp156 : List (Nat × List Nat) := [(0, [0, 1]), (1, [8, 0, 1, 7]), (2, [9, 7, 1, 0, 8]), (3, [7, 1, 0, 8, 5]), (4, [16, 7, 1, 0, 8, 5]), (5, [4]), (6, [8, 0, 1, 7]), (7, [4])]
abbrev ct156 (g157 : G157) : CTab := [(157, ⟨[.v i64], [.bool], false, false, 0, g157⟩)]
abbrev kr156 : Env → Option R156 := endK TT [.tmp 4] [i64] false false
abbrev sh156_2 : Shape := [(0, .val false [.fz (.slice 2 i64) 0 true]), (1, .fn 157 []), (7, vv i64), (8, vv i64)]
def st156_2 (g157 : G157) (F : Nat) (s : ShVal sh156_2) (k kx : ShVal sh156_2 → Option R156) : Option R156 :=
  match s with
  | ((t0, _), _, (t7, _), (t8, _), _) => (bif decide (t8 < t7) then (bif ib t8 (Int.ofNat (List.length t0)) then (match (g157 ((List.getD t0 (tn t8) (0 : Int)), ())) with | some r11 => (bif r11.1 then (some (t8, ())) else k ((t0, ()), ((), ((t7, ()), (((w6 (t8 + (1 : Int))), ()), ()))))) | none => none) else none) else kx ((t0, ()), ((), ((t7, ()), ((t8, ()), ())))))
def ru156_2 (g157 : G157) (F : Nat) (s : ShVal sh156_2) (kx : ShVal sh156_2 → Option R156) : Option R156 := iter (fun s k => st156_2 g157 F s k kx) F s
abbrev ls156_2 (g157 : G157) (F : Nat) : LS R156 := ⟨sh156_2, 0, ru156_2 g157 F⟩
def fn156 (g157 : G157) (F : Nat) (x : Args [.v (.slice 2 i64), .fn 157]) : Option R156 :=
  match x with
  | (x0, x1, _) => (bif decide ((List.length x0) ≤ 9223372036854775807) then (ru156_2 g157 F ((x0, ()), ((), (((Int.ofNat (List.length x0)), ()), (((0 : Int), ()), ())))) (fun s' => match s' with | ((t0, _), _, (t7, _), (t8, _), _) => (some ((-(1 : Int)), ())))) else none)
theorem ev156_2 (g157 : G157) (F : Nat) (s : ShVal sh156_2) (k kx : ShVal sh156_2 → Option R156) : evL TT (ct156 g157 ) kp156 [] (loopOf Try.f156 2) (envOf sh156_2 s) (fitK sh156_2 k) (fun j e => bif Nat.beq j 0 then fitK sh156_2 kx e else none) kr156 = st156_2 g157 F s k kx := by
  obtain ⟨⟨t0, _⟩, _, ⟨t7, _⟩, ⟨t8, _⟩, _⟩ := s
  kernel_rfl
theorem ok156_2 (g157 : G157) (F : Nat) (hK : KOK Try.prog (ct156 g157 )) : LSOK Try.prog ⟨19, false, undef⟩ (ls156_2 g157 F) (loopOf Try.f156 2) kr156 :=
  loop_ok (st156_2 g157 F) mixed tt_ok hK (by kernel_rfl) (LTOK_by (l := []) (by kernel_rfl) trivial) (ev156_2 g157 F)
theorem ev156 (g157 : G157) (F : Nat) (x : Args [.v (.slice 2 i64), .fn 157]) : fnK TT (ct156 g157 ) kp156 [i64] [(2, ls156_2 g157 F)] (bodyOf Try.f156) [.tmp 4] [.v (.slice 2 i64), .fn 157] false false x = fn156 g157 F x := by
  obtain ⟨x0, x1, _⟩ := x
  kernel_rfl
theorem ok156 (g157 : G157) (hK : KOK Try.prog (ct156 g157 )) (cf : G156) (h : ∀ x y, cf x = some y → ∃ F, fn156 g157 F x = some y) : KOne Try.prog 156 ⟨[.v (.slice 2 i64), .fn 157], [i64], false, false, 0, cf⟩ :=
  fn_one rfl (c := bodyOf Try.f156) mixed tt_ok hK Try.func156 (by kernel_rfl) (by kernel_rfl) (Nat.le_of_ble_eq_true (by kernel_rfl)) (by decide) fun x y hxy => by
    obtain ⟨F, hF⟩ := h x y hxy
    exact ⟨[(2, ls156_2 g157 F)], LTOK_by (l := [loopOf Try.f156 2]) (by kernel_rfl) ⟨ls_at (by kernel_rfl) (ok156_2 g157 F hK), trivial⟩, (ev156 g157 F x).trans hF⟩
abbrev R141 : Type := Ress [i64]
abbrev G141 : Type := Args [.v (.slice 2 i64)] → Option R141
abbrev kp141 : List (Nat × List Nat) := [(0, [0]), (1, [2])]
abbrev ct141 (g156 : G156) : CTab := [(156, ⟨[.v (.slice 2 i64), .fn 157], [i64], false, false, 0, g156⟩)]
def fn141 (g156 : G156) (F : Nat) (x : Args [.v (.slice 2 i64)]) : Option R141 :=
  match x with
  | (x0, _) => (match (g156 (x0, ((), ()))) with | some r4 => (some (r4.1, ())) | none => none)
theorem ev141 (g156 : G156) (F : Nat) (x : Args [.v (.slice 2 i64)]) : fnK TT (ct141 g156 ) kp141 [i64] [] (bodyOf Try.f141) [.tmp 2] [.v (.slice 2 i64)] false false x = fn141 g156 F x := by
  obtain ⟨x0, _⟩ := x
  kernel_rfl
theorem ok141 (g156 : G156) (hK : KOK Try.prog (ct141 g156 )) (cf : G141) (h : ∀ x y, cf x = some y → ∃ F, fn141 g156 F x = some y) : KOne Try.prog 141 ⟨[.v (.slice 2 i64)], [i64], false, false, 0, cf⟩ :=
  fn_one rfl (c := bodyOf Try.f141) mixed tt_ok hK Try.func141 (by kernel_rfl) (by kernel_rfl) (Nat.le_of_ble_eq_true (by kernel_rfl)) (by decide) fun x y hxy => by
    obtain ⟨F, hF⟩ := h x y hxy
    exact ⟨[], LTOK_by (l := []) (by kernel_rfl) trivial, (ev141 g156 F x).trans hF⟩
abbrev R47 : Type := Ress [i64]
abbrev G47 : Type := Args [.v i64, .v i64] → Option R47
abbrev kp47 : List (Nat × List Nat) := [(0, [1, 0]), (1, [5, 1, 0]), (2, [8, 0, 1, 5]), (4, [16, 0, 1, 5]), (5, [4]), (3, [5, 1, 0]), (6, [4])]
abbrev ct47 : CTab := []
abbrev kr47 : Env → Option R47 := endK TT [.tmp 4] [i64] false false
abbrev sh47_2 : Shape := [(0, vv i64), (1, vv i64), (5, vv i64)]
def st47_2 (F : Nat) (s : ShVal sh47_2) (k kx : ShVal sh47_2 → Option R47) : Option R47 :=
  match s with
  | ((t0, _), (t1, _), (t5, _), _) => (bif decide (t5 < t1) then (bif (!decide (t1 = (0 : Int))) then (bif decide ((Int.tmod (w6 (t0 * t5)) t1) = (1 : Int)) then (some (t5, ())) else k ((t0, ()), ((t1, ()), (((w6 (t5 + (1 : Int))), ()), ())))) else none) else kx ((t0, ()), ((t1, ()), ((t5, ()), ()))))
def ru47_2 (F : Nat) (s : ShVal sh47_2) (kx : ShVal sh47_2 → Option R47) : Option R47 := iter (fun s k => st47_2 F s k kx) F s
abbrev ls47_2 (F : Nat) : LS R47 := ⟨sh47_2, 0, ru47_2 F⟩
def fn47 (F : Nat) (x : Args [.v i64, .v i64]) : Option R47 :=
  match x with
  | (x0, x1, _) => (ru47_2 F ((x0, ()), ((x1, ()), (((1 : Int), ()), ()))) (fun s' => match s' with | ((t0, _), (t1, _), (t5, _), _) => (some ((0 : Int), ()))))
theorem ev47_2 (F : Nat) (s : ShVal sh47_2) (k kx : ShVal sh47_2 → Option R47) : evL TT (ct47 ) kp47 [] (loopOf Try.f47 2) (envOf sh47_2 s) (fitK sh47_2 k) (fun j e => bif Nat.beq j 0 then fitK sh47_2 kx e else none) kr47 = st47_2 F s k kx := by
  obtain ⟨⟨t0, _⟩, ⟨t1, _⟩, ⟨t5, _⟩, _⟩ := s
  kernel_rfl
theorem ok47_2 (F : Nat) (hK : KOK Try.prog (ct47 )) : LSOK Try.prog ⟨18, false, undef⟩ (ls47_2 F) (loopOf Try.f47 2) kr47 :=
  loop_ok (st47_2 F) mixed tt_ok hK (by kernel_rfl) (LTOK_by (l := []) (by kernel_rfl) trivial) (ev47_2 F)
theorem ev47 (F : Nat) (x : Args [.v i64, .v i64]) : fnK TT (ct47 ) kp47 [i64] [(2, ls47_2 F)] (bodyOf Try.f47) [.tmp 4] [.v i64, .v i64] false false x = fn47 F x := by
  obtain ⟨x0, x1, _⟩ := x
  kernel_rfl
theorem ok47 (hK : KOK Try.prog (ct47 )) (cf : G47) (h : ∀ x y, cf x = some y → ∃ F, fn47 F x = some y) : KOne Try.prog 47 ⟨[.v i64, .v i64], [i64], false, false, 0, cf⟩ :=
  fn_one rfl (c := bodyOf Try.f47) mixed tt_ok hK Try.func47 (by kernel_rfl) (by kernel_rfl) (Nat.le_of_ble_eq_true (by kernel_rfl)) (by decide) fun x y hxy => by
    obtain ⟨F, hF⟩ := h x y hxy
    exact ⟨[(2, ls47_2 F)], LTOK_by (l := [loopOf Try.f47 2]) (by kernel_rfl) ⟨ls_at (by kernel_rfl) (ok47_2 F hK), trivial⟩, (ev47 F x).trans hF⟩
abbrev R154 : Type := Ress [(.slice 2 i64)]
abbrev G154 : Type := Args [.v i64, .v (.slice 26 (.slice 2 i64)), .v (.slice 2 i64)] → Option R154
abbrev kp154 : List (Nat × List Nat) := [(0, [2, 1, 0]), (1, [1, 2, 0]), (2, [16, 2, 0, 14, 15]), (3, [17, 0, 2, 16, 14, 15]), (4, [8, 0, 2, 16, 14, 15]), (5, [8, 0, 9, 2, 16, 14, 15]), (6, [26, 8, 0, 9, 2, 16, 14, 15]), (7, [29, 0, 9, 2, 27, 16, 14, 15, 28]), (8, [30, 29, 0, 9, 2, 27, 16, 14, 15, 28]), (9, [10, 11, 29, 0, 9, 2, 27, 16, 14, 15, 28]), (10, [29, 0, 9, 2, 27, 16, 14, 15, 28]), (11, [29, 0, 9, 2, 27, 16, 14, 15, 28]), (12, [16, 2, 0, 14, 15]), (13, [6])]
abbrev ct154 (g171 : G171) (g141 : G141) : CTab := [(171, ⟨[.v (.slice 2 i64)], [(.slice 2 i64)], true, false, 0, g171⟩), (141, ⟨[.v (.slice 2 i64)], [i64], false, false, 0, g141⟩)]
abbrev kr154 : Env → Option R154 := endK TT [.tmp 6] [(.slice 2 i64)] true false
abbrev sh154_8 : Shape := [(0, vv i64), (2, vr 2 i64 33 false), (9, vv i64), (14, .val false [.fz (.slice 26 (.slice 2 i64)) 0 true]), (15, vv i64), (16, vv i64), (27, .val false [.fz (.slice 2 i64) 0 true]), (28, vv i64), (29, vv i64)]
def st154_8 (g171 : G171) (g141 : G141) (F : Nat) (s : ShVal sh154_8) (k kx : ShVal sh154_8 → Option R154) : Option R154 :=
  match s with
  | ((t0, _), (t2, _), (t9, _), (t14, _), (t15, _), (t16, _), (t27, _), (t28, _), (t29, _), _) => (bif decide (t29 < t28) then (bif ib t29 (Int.ofNat (List.length t27)) then (bif ib t29 (Int.ofNat (List.length t2)) then (bif (!decide (t0 = (0 : Int))) then (bif ib t29 (Int.ofNat (List.length t2)) then k ((t0, ()), (((List.set t2 (tn t29) (Int.tmod (w6 ((List.getD t2 (tn t29) (0 : Int)) + (w6 ((w6 (t0 - t9)) * (List.getD t27 (tn t29) (0 : Int)))))) t0)), ()), ((t9, ()), ((t14, ()), ((t15, ()), ((t16, ()), ((t27, ()), ((t28, ()), (((w6 (t29 + (1 : Int))), ()), ()))))))))) else none) else none) else none) else none) else kx ((t0, ()), ((t2, ()), ((t9, ()), ((t14, ()), ((t15, ()), ((t16, ()), ((t27, ()), ((t28, ()), ((t29, ()), ()))))))))))
def ru154_8 (g171 : G171) (g141 : G141) (F : Nat) (s : ShVal sh154_8) (kx : ShVal sh154_8 → Option R154) : Option R154 := iter (fun s k => st154_8 g171 g141 F s k kx) F s
abbrev ls154_8 (g171 : G171) (g141 : G141) (F : Nat) : LS R154 := ⟨sh154_8, 2, ru154_8 g171 g141 F⟩
abbrev sh154_3 : Shape := [(0, vv i64), (2, vr 2 i64 33 false), (14, .val false [.fz (.slice 26 (.slice 2 i64)) 0 true]), (15, vv i64), (16, vv i64)]
def st154_3 (g171 : G171) (g141 : G141) (F : Nat) (s : ShVal sh154_3) (k kx : ShVal sh154_3 → Option R154) : Option R154 :=
  match s with
  | ((t0, _), (t2, _), (t14, _), (t15, _), (t16, _), _) => (bif decide (t16 < t15) then (bif ib t16 (Int.ofNat (List.length t14)) then (match (g141 ((List.getD t14 (tn t16) []), ())) with | some r17 => (bif ib r17.1 (Int.ofNat (List.length t2)) then (bif (!decide ((List.getD t2 (tn r17.1) (0 : Int)) = (0 : Int))) then (bif decide ((List.length (List.getD t14 (tn t16) [])) ≤ 9223372036854775807) then (ru154_8 g171 g141 F ((t0, ()), ((t2, ()), (((List.getD t2 (tn r17.1) (0 : Int)), ()), ((t14, ()), ((t15, ()), ((t16, ()), (((List.getD t14 (tn t16) []), ()), (((Int.ofNat (List.length (List.getD t14 (tn t16) []))), ()), (((0 : Int), ()), ()))))))))) (fun s' => match s' with | ((t0, _), (t2, _), (t9, _), (t14, _), (t15, _), (t16, _), (t27, _), (t28, _), (t29, _), _) => k ((t0, ()), ((t2, ()), ((t14, ()), ((t15, ()), (((w6 (t16 + (1 : Int))), ()), ()))))))) else none) else k ((t0, ()), ((t2, ()), ((t14, ()), ((t15, ()), (((w6 (t16 + (1 : Int))), ()), ())))))) else none) | none => none) else none) else kx ((t0, ()), ((t2, ()), ((t14, ()), ((t15, ()), ((t16, ()), ()))))))
def ru154_3 (g171 : G171) (g141 : G141) (F : Nat) (s : ShVal sh154_3) (kx : ShVal sh154_3 → Option R154) : Option R154 := iter (fun s k => st154_3 g171 g141 F s k kx) F s
abbrev ls154_3 (g171 : G171) (g141 : G141) (F : Nat) : LS R154 := ⟨sh154_3, 0, ru154_3 g171 g141 F⟩
def fn154 (g171 : G171) (g141 : G141) (F : Nat) (x : Args [.v i64, .v (.slice 26 (.slice 2 i64)), .v (.slice 2 i64)]) : Option R154 :=
  match x with
  | (x0, x1, x2, _) => (match (g171 (x2, ())) with | some r7 => (bif decide ((List.length x1) ≤ 9223372036854775807) then (ru154_3 g171 g141 F ((x0, ()), ((r7.1, ()), ((x1, ()), (((Int.ofNat (List.length x1)), ()), (((0 : Int), ()), ()))))) (fun s' => match s' with | ((t0, _), (t2, _), (t14, _), (t15, _), (t16, _), _) => (some (t2, ())))) else none) | none => none)
theorem ev154_8 (g171 : G171) (g141 : G141) (F : Nat) (s : ShVal sh154_8) (k kx : ShVal sh154_8 → Option R154) : evL TT (ct154 g171 g141 ) kp154 [] (loopOf Try.f154 8) (envOf sh154_8 s) (fitK sh154_8 k) (fun j e => bif Nat.beq j 2 then fitK sh154_8 kx e else none) kr154 = st154_8 g171 g141 F s k kx := by
  obtain ⟨⟨t0, _⟩, ⟨t2, _⟩, ⟨t9, _⟩, ⟨t14, _⟩, ⟨t15, _⟩, ⟨t16, _⟩, ⟨t27, _⟩, ⟨t28, _⟩, ⟨t29, _⟩, _⟩ := s
  kernel_rfl
theorem ok154_8 (g171 : G171) (g141 : G141) (F : Nat) (hK : KOK Try.prog (ct154 g171 g141 )) : LSOK Try.prog ⟨52, false, undef⟩ (ls154_8 g171 g141 F) (loopOf Try.f154 8) kr154 :=
  loop_ok (st154_8 g171 g141 F) mixed tt_ok hK (by kernel_rfl) (LTOK_by (l := []) (by kernel_rfl) trivial) (ev154_8 g171 g141 F)
theorem ev154_3 (g171 : G171) (g141 : G141) (F : Nat) (s : ShVal sh154_3) (k kx : ShVal sh154_3 → Option R154) : evL TT (ct154 g171 g141 ) kp154 [(8, ls154_8 g171 g141 F)] (loopOf Try.f154 3) (envOf sh154_3 s) (fitK sh154_3 k) (fun j e => bif Nat.beq j 0 then fitK sh154_3 kx e else none) kr154 = st154_3 g171 g141 F s k kx := by
  obtain ⟨⟨t0, _⟩, ⟨t2, _⟩, ⟨t14, _⟩, ⟨t15, _⟩, ⟨t16, _⟩, _⟩ := s
  kernel_rfl
theorem ok154_3 (g171 : G171) (g141 : G141) (F : Nat) (hK : KOK Try.prog (ct154 g171 g141 )) : LSOK Try.prog ⟨52, false, undef⟩ (ls154_3 g171 g141 F) (loopOf Try.f154 3) kr154 :=
  loop_ok (st154_3 g171 g141 F) mixed tt_ok hK (by kernel_rfl) (LTOK_by (l := [loopOf Try.f154 8]) (by kernel_rfl) ⟨ls_at (by kernel_rfl) (ok154_8 g171 g141 F hK), trivial⟩) (ev154_3 g171 g141 F)
theorem ev154 (g171 : G171) (g141 : G141) (F : Nat) (x : Args [.v i64, .v (.slice 26 (.slice 2 i64)), .v (.slice 2 i64)]) : fnK TT (ct154 g171 g141 ) kp154 [(.slice 2 i64)] [(3, ls154_3 g171 g141 F)] (bodyOf Try.f154) [.tmp 6] [.v i64, .v (.slice 26 (.slice 2 i64)), .v (.slice 2 i64)] true false x = fn154 g171 g141 F x := by
  obtain ⟨x0, x1, x2, _⟩ := x
  kernel_rfl
theorem ok154 (g171 : G171) (g141 : G141) (hK : KOK Try.prog (ct154 g171 g141 )) (cf : G154) (h : ∀ x y, cf x = some y → ∃ F, fn154 g171 g141 F x = some y) : KOne Try.prog 154 ⟨[.v i64, .v (.slice 26 (.slice 2 i64)), .v (.slice 2 i64)], [(.slice 2 i64)], true, false, 0, cf⟩ :=
  fn_one rfl (c := bodyOf Try.f154) mixed tt_ok hK Try.func154 (by kernel_rfl) (by kernel_rfl) (Nat.le_of_ble_eq_true (by kernel_rfl)) (by decide) fun x y hxy => by
    obtain ⟨F, hF⟩ := h x y hxy
    exact ⟨[(3, ls154_3 g171 g141 F)], LTOK_by (l := [loopOf Try.f154 3]) (by kernel_rfl) ⟨ls_at (by kernel_rfl) (ok154_3 g171 g141 F hK), trivial⟩, (ev154 g171 g141 F x).trans hF⟩
abbrev R138 : Type := Ress [(.slice 26 (.slice 2 i64))]
abbrev G138 : Type := Args [.v i64, .v (.slice 26 (.slice 2 i64)), .v (.slice 2 i64)] → Option R138
abbrev kp138 : List (Nat × List Nat) := [(0, [2, 0, 1]), (1, [2, 0, 1]), (2, [2, 0, 7, 1]), (3, [19, 2, 0, 7, 1]), (4, [6]), (5, [0, 8, 2, 1]), (6, [29, 0, 8, 2, 1, 28]), (7, [30, 29, 0, 8, 2, 1, 28]), (8, [9, 29, 0, 8, 2, 1, 28]), (9, [29, 0, 8, 2, 1, 28]), (10, [29, 0, 8, 2, 1, 28]), (11, [46, 2, 0, 1, 44, 45]), (12, [47, 46, 2, 0, 1, 44, 45]), (13, [10, 11, 46, 2, 0, 1, 44, 45]), (14, [46, 2, 0, 1, 44, 45]), (15, [46, 2, 0, 1, 44, 45]), (16, [6])]
abbrev ct138 (g154 : G154) (g47 : G47) (g141 : G141) : CTab := [(154, ⟨[.v i64, .v (.slice 26 (.slice 2 i64)), .v (.slice 2 i64)], [(.slice 2 i64)], true, false, 0, g154⟩), (47, ⟨[.v i64, .v i64], [i64], false, false, 0, g47⟩), (141, ⟨[.v (.slice 2 i64)], [i64], false, false, 0, g141⟩)]
abbrev kr138 : Env → Option R138 := endK TT [.tmp 6] [(.slice 26 (.slice 2 i64))] true false
abbrev sh138_7 : Shape := [(0, vv i64), (1, vr 26 (.slice 2 i64) 17 false), (2, vr 2 i64 33 false), (8, vv i64), (28, vv i64), (29, vv i64)]
def st138_7 (g154 : G154) (g47 : G47) (g141 : G141) (F : Nat) (s : ShVal sh138_7) (k kx : ShVal sh138_7 → Option R138) : Option R138 :=
  match s with
  | ((t0, _), (t1, _), (t2, _), (t8, _), (t28, _), (t29, _), _) => (bif decide (t29 < t28) then (bif ib t29 (Int.ofNat (List.length t2)) then (bif (!decide (t0 = (0 : Int))) then (bif ib t29 (Int.ofNat (List.length t2)) then k ((t0, ()), ((t1, ()), (((List.set t2 (tn t29) (Int.tmod (w6 ((List.getD t2 (tn t29) (0 : Int)) * t8)) t0)), ()), ((t8, ()), ((t28, ()), (((w6 (t29 + (1 : Int))), ()), ())))))) else none) else none) else none) else kx ((t0, ()), ((t1, ()), ((t2, ()), ((t8, ()), ((t28, ()), ((t29, ()), ())))))))
def ru138_7 (g154 : G154) (g47 : G47) (g141 : G141) (F : Nat) (s : ShVal sh138_7) (kx : ShVal sh138_7 → Option R138) : Option R138 := iter (fun s k => st138_7 g154 g47 g141 F s k kx) F s
abbrev ls138_7 (g154 : G154) (g47 : G47) (g141 : G141) (F : Nat) : LS R138 := ⟨sh138_7, 0, ru138_7 g154 g47 g141 F⟩
abbrev sh138_12 : Shape := [(0, vv i64), (1, vr 26 (.slice 2 i64) 17 false), (2, vr 2 i64 33 false), (44, vr 26 (.slice 2 i64) 17 false), (45, vv i64), (46, vv i64)]
def st138_12 (g154 : G154) (g47 : G47) (g141 : G141) (F : Nat) (s : ShVal sh138_12) (k kx : ShVal sh138_12 → Option R138) : Option R138 :=
  match s with
  | ((t0, _), (t1, _), (t2, _), (t44, _), (t45, _), (t46, _), _) => (bif decide (t46 < t45) then (bif ib t46 (Int.ofNat (List.length t44)) then (match (g154 (t0, ((t2 :: []), ((List.getD t44 (tn t46) []), ())))) with | some r31 => (bif ib t46 (Int.ofNat (List.length t1)) then k ((t0, ()), (((List.set t1 (tn t46) r31.1), ()), ((t2, ()), (((List.set t44 (tn t46) r31.1), ()), ((t45, ()), (((w6 (t46 + (1 : Int))), ()), ())))))) else none) | none => none) else none) else kx ((t0, ()), ((t1, ()), ((t2, ()), ((t44, ()), ((t45, ()), ((t46, ()), ())))))))
def ru138_12 (g154 : G154) (g47 : G47) (g141 : G141) (F : Nat) (s : ShVal sh138_12) (kx : ShVal sh138_12 → Option R138) : Option R138 := iter (fun s k => st138_12 g154 g47 g141 F s k kx) F s
abbrev ls138_12 (g154 : G154) (g47 : G47) (g141 : G141) (F : Nat) : LS R138 := ⟨sh138_12, 2, ru138_12 g154 g47 g141 F⟩
def fn138 (g154 : G154) (g47 : G47) (g141 : G141) (F : Nat) (x : Args [.v i64, .v (.slice 26 (.slice 2 i64)), .v (.slice 2 i64)]) : Option R138 :=
  match x with
  | (x0, x1, x2, _) => (match (g154 (x0, (x1, (x2, ())))) with | some r8 => (match (g141 (r8.1, ())) with | some r10 => (bif decide (r10.1 < (0 : Int)) then (some (x1, ())) else (bif ib r10.1 (Int.ofNat (List.length r8.1)) then (match (g47 ((List.getD r8.1 (tn r10.1) (0 : Int)), (x0, ()))) with | some r13 => (bif decide ((List.length r8.1) ≤ 9223372036854775807) then (ru138_7 g154 g47 g141 F ((x0, ()), ((x1, ()), ((r8.1, ()), ((r13.1, ()), (((Int.ofNat (List.length r8.1)), ()), (((0 : Int), ()), ())))))) (fun s' => match s' with | ((t0, _), (t1, _), (t2, _), (t8, _), (t28, _), (t29, _), _) => (bif decide ((List.length t1) ≤ 9223372036854775807) then (ru138_12 g154 g47 g141 F ((t0, ()), ((t1, ()), ((t2, ()), ((t1, ()), (((Int.ofNat (List.length t1)), ()), (((0 : Int), ()), ())))))) (fun s' => match s' with | ((t0, _), (t1, _), (t2, _), (t44, _), (t45, _), (t46, _), _) => (bif (growOk (List.length t1) (List.length (t2 :: []))) then (some ((t1 ++ (t2 :: [])), ())) else none))) else none))) else none) | none => none) else none)) | none => none) | none => none)
theorem ev138_7 (g154 : G154) (g47 : G47) (g141 : G141) (F : Nat) (s : ShVal sh138_7) (k kx : ShVal sh138_7 → Option R138) : evL TT (ct138 g154 g47 g141 ) kp138 [] (loopOf Try.f138 7) (envOf sh138_7 s) (fitK sh138_7 k) (fun j e => bif Nat.beq j 0 then fitK sh138_7 kx e else none) kr138 = st138_7 g154 g47 g141 F s k kx := by
  obtain ⟨⟨t0, _⟩, ⟨t1, _⟩, ⟨t2, _⟩, ⟨t8, _⟩, ⟨t28, _⟩, ⟨t29, _⟩, _⟩ := s
  kernel_rfl
theorem ok138_7 (g154 : G154) (g47 : G47) (g141 : G141) (F : Nat) (hK : KOK Try.prog (ct138 g154 g47 g141 )) : LSOK Try.prog ⟨64, false, undef⟩ (ls138_7 g154 g47 g141 F) (loopOf Try.f138 7) kr138 :=
  loop_ok (st138_7 g154 g47 g141 F) mixed tt_ok hK (by kernel_rfl) (LTOK_by (l := []) (by kernel_rfl) trivial) (ev138_7 g154 g47 g141 F)
theorem ev138_12 (g154 : G154) (g47 : G47) (g141 : G141) (F : Nat) (s : ShVal sh138_12) (k kx : ShVal sh138_12 → Option R138) : evL TT (ct138 g154 g47 g141 ) kp138 [] (loopOf Try.f138 12) (envOf sh138_12 s) (fitK sh138_12 k) (fun j e => bif Nat.beq j 2 then fitK sh138_12 kx e else none) kr138 = st138_12 g154 g47 g141 F s k kx := by
  obtain ⟨⟨t0, _⟩, ⟨t1, _⟩, ⟨t2, _⟩, ⟨t44, _⟩, ⟨t45, _⟩, ⟨t46, _⟩, _⟩ := s
  kernel_rfl
theorem ok138_12 (g154 : G154) (g47 : G47) (g141 : G141) (F : Nat) (hK : KOK Try.prog (ct138 g154 g47 g141 )) : LSOK Try.prog ⟨64, false, undef⟩ (ls138_12 g154 g47 g141 F) (loopOf Try.f138 12) kr138 :=
  loop_ok (st138_12 g154 g47 g141 F) mixed tt_ok hK (by kernel_rfl) (LTOK_by (l := []) (by kernel_rfl) trivial) (ev138_12 g154 g47 g141 F)
theorem ev138 (g154 : G154) (g47 : G47) (g141 : G141) (F : Nat) (x : Args [.v i64, .v (.slice 26 (.slice 2 i64)), .v (.slice 2 i64)]) : fnX TT (ct138 g154 g47 g141 ) kp138 .i64 26 (.slice 2 i64) (.slice 2 i64) (.slice 26 (.slice 2 i64)) [(7, ls138_7 g154 g47 g141 F), (12, ls138_12 g154 g47 g141 F)] (bodyOf Try.f138) [.tmp 6] x = fn138 g154 g47 g141 F x := by
  obtain ⟨x0, x1, x2, _⟩ := x
  kernel_rfl
theorem ok138 (g154 : G154) (g47 : G47) (g141 : G141) (hK : KOK Try.prog (ct138 g154 g47 g141 )) (cf : G138) (h : ∀ x y, cf x = some y → ∃ F, fn138 g154 g47 g141 F x = some y) : KOne Try.prog 138 ⟨[.v i64, .v (.slice 26 (.slice 2 i64)), .v (.slice 2 i64)], [(.slice 26 (.slice 2 i64))], true, false, 2, cf⟩ :=
  fnX_one (c := bodyOf Try.f138) mixed tt_ok hK Try.func138 (by kernel_rfl) (by kernel_rfl) (Nat.le_of_ble_eq_true (by kernel_rfl)) (by decide) fun x y hxy => by
    obtain ⟨F, hF⟩ := h x y hxy
    exact ⟨[(7, ls138_7 g154 g47 g141 F), (12, ls138_12 g154 g47 g141 F)], LTOK_by (l := [loopOf Try.f138 7, loopOf Try.f138 12]) (by kernel_rfl) ⟨ls_at (by kernel_rfl) (ok138_7 g154 g47 g141 F hK), ⟨ls_at (by kernel_rfl) (ok138_12 g154 g47 g141 F hK), trivial⟩⟩, (ev138 g154 g47 g141 F x).trans hF⟩
abbrev R140 : Type := Ress [i64]
abbrev G140 : Type := Args [.v (.slice 2 i64), .v (.slice 2 i64)] → Option R140
abbrev kp140 : List (Nat × List Nat) := [(0, [0, 1]), (1, [4])]
abbrev ct140 (g141 : G141) : CTab := [(141, ⟨[.v (.slice 2 i64)], [i64], false, false, 0, g141⟩)]
def fn140 (g141 : G141) (F : Nat) (x : Args [.v (.slice 2 i64), .v (.slice 2 i64)]) : Option R140 :=
  match x with
  | (x0, x1, _) => (match (g141 (x0, ())) with | some r5 => (match (g141 (x1, ())) with | some r6 => (some ((w6 (r5.1 - r6.1)), ())) | none => none) | none => none)
theorem ev140 (g141 : G141) (F : Nat) (x : Args [.v (.slice 2 i64), .v (.slice 2 i64)]) : fnK TT (ct140 g141 ) kp140 [i64] [] (bodyOf Try.f140) [.tmp 4] [.v (.slice 2 i64), .v (.slice 2 i64)] false false x = fn140 g141 F x := by
  obtain ⟨x0, x1, _⟩ := x
  kernel_rfl
theorem ok140 (g141 : G141) (hK : KOK Try.prog (ct140 g141 )) (cf : G140) (h : ∀ x y, cf x = some y → ∃ F, fn140 g141 F x = some y) : KOne Try.prog 140 ⟨[.v (.slice 2 i64), .v (.slice 2 i64)], [i64], false, false, 0, cf⟩ :=
  fn_one rfl (c := bodyOf Try.f140) mixed tt_ok hK Try.func140 (by kernel_rfl) (by kernel_rfl) (Nat.le_of_ble_eq_true (by kernel_rfl)) (by decide) fun x y hxy => by
    obtain ⟨F, hF⟩ := h x y hxy
    exact ⟨[], LTOK_by (l := []) (by kernel_rfl) trivial, (ev140 g141 F x).trans hF⟩
abbrev R126 : Type := Ress [(.slice 26 (.slice 2 i64))]
abbrev G126 : Type := Args [.v i64, .v (.slice 26 (.slice 2 i64))] → Option R126
abbrev kp126 : List (Nat × List Nat) := [(0, [1, 0]), (1, [1, 5, 0]), (2, [11, 5, 0, 9, 10]), (3, [12, 5, 11, 0, 9, 10]), (4, [5, 7, 11, 0, 9, 10]), (5, [11, 5, 0, 9, 10]), (6, [11, 5, 0, 9, 10]), (7, [5]), (8, [4])]
abbrev ct126 (g139 : G139) (g138 : G138) : CTab := [(139, ⟨[.v (.slice 26 (.slice 2 i64)), .fn 140], [(.slice 26 (.slice 2 i64))], false, false, 1, g139⟩), (138, ⟨[.v i64, .v (.slice 26 (.slice 2 i64)), .v (.slice 2 i64)], [(.slice 26 (.slice 2 i64))], true, false, 2, g138⟩)]
abbrev kr126 : Env → Option R126 := endK TT [.tmp 4] [(.slice 26 (.slice 2 i64))] true false
abbrev sh126_3 : Shape := [(0, vv i64), (5, vr 26 (.slice 2 i64) 81 false), (9, .val false [.fz (.slice 26 (.slice 2 i64)) 0 true]), (10, vv i64), (11, vv i64)]
def st126_3 (g139 : G139) (g138 : G138) (F : Nat) (s : ShVal sh126_3) (k kx : ShVal sh126_3 → Option R126) : Option R126 :=
  match s with
  | ((t0, _), (t5, _), (t9, _), (t10, _), (t11, _), _) => (bif decide (t11 < t10) then (bif ib t11 (Int.ofNat (List.length t9)) then (match (g138 (t0, (t5, ((List.getD t9 (tn t11) []), ())))) with | some r15 => k ((t0, ()), ((r15.1, ()), ((t9, ()), ((t10, ()), (((w6 (t11 + (1 : Int))), ()), ()))))) | none => none) else none) else kx ((t0, ()), ((t5, ()), ((t9, ()), ((t10, ()), ((t11, ()), ()))))))
def ru126_3 (g139 : G139) (g138 : G138) (F : Nat) (s : ShVal sh126_3) (kx : ShVal sh126_3 → Option R126) : Option R126 := iter (fun s k => st126_3 g139 g138 F s k kx) F s
abbrev ls126_3 (g139 : G139) (g138 : G138) (F : Nat) : LS R126 := ⟨sh126_3, 0, ru126_3 g139 g138 F⟩
def fn126 (g139 : G139) (g138 : G138) (F : Nat) (x : Args [.v i64, .v (.slice 26 (.slice 2 i64))]) : Option R126 :=
  match x with
  | (x0, x1, _) => (bif decide ((List.length x1) ≤ 9223372036854775807) then (ru126_3 g139 g138 F ((x0, ()), (([], ()), ((x1, ()), (((Int.ofNat (List.length x1)), ()), (((0 : Int), ()), ()))))) (fun s' => match s' with | ((t0, _), (t5, _), (t9, _), (t10, _), (t11, _), _) => (match (g139 (t5, ((), ()))) with | some r13 => (some ((bif ((Nat.beq 26 26) && ((Nat.beq 2 2) && true)) then r13.1 else []), ())) | none => none))) else none)
theorem ev126_3 (g139 : G139) (g138 : G138) (F : Nat) (s : ShVal sh126_3) (k kx : ShVal sh126_3 → Option R126) : evL TT (ct126 g139 g138 ) kp126 [] (loopOf Try.f126 3) (envOf sh126_3 s) (fitK sh126_3 k) (fun j e => bif Nat.beq j 0 then fitK sh126_3 kx e else none) kr126 = st126_3 g139 g138 F s k kx := by
  obtain ⟨⟨t0, _⟩, ⟨t5, _⟩, ⟨t9, _⟩, ⟨t10, _⟩, ⟨t11, _⟩, _⟩ := s
  kernel_rfl
theorem ok126_3 (g139 : G139) (g138 : G138) (F : Nat) (hK : KOK Try.prog (ct126 g139 g138 )) : LSOK Try.prog ⟨23, false, undef⟩ (ls126_3 g139 g138 F) (loopOf Try.f126 3) kr126 :=
  loop_ok (st126_3 g139 g138 F) mixed tt_ok hK (by kernel_rfl) (LTOK_by (l := []) (by kernel_rfl) trivial) (ev126_3 g139 g138 F)
theorem ev126 (g139 : G139) (g138 : G138) (F : Nat) (x : Args [.v i64, .v (.slice 26 (.slice 2 i64))]) : fnK TT (ct126 g139 g138 ) kp126 [(.slice 26 (.slice 2 i64))] [(3, ls126_3 g139 g138 F)] (bodyOf Try.f126) [.tmp 4] [.v i64, .v (.slice 26 (.slice 2 i64))] true false x = fn126 g139 g138 F x := by
  obtain ⟨x0, x1, _⟩ := x
  kernel_rfl
theorem ok126 (g139 : G139) (g138 : G138) (hK : KOK Try.prog (ct126 g139 g138 )) (cf : G126) (h : ∀ x y, cf x = some y → ∃ F, fn126 g139 g138 F x = some y) : KOne Try.prog 126 ⟨[.v i64, .v (.slice 26 (.slice 2 i64))], [(.slice 26 (.slice 2 i64))], true, false, 0, cf⟩ :=
  fn_one rfl (c := bodyOf Try.f126) mixed tt_ok hK Try.func126 (by kernel_rfl) (by kernel_rfl) (Nat.le_of_ble_eq_true (by kernel_rfl)) (by decide) fun x y hxy => by
    obtain ⟨F, hF⟩ := h x y hxy
    exact ⟨[(3, ls126_3 g139 g138 F)], LTOK_by (l := [loopOf Try.f126 3]) (by kernel_rfl) ⟨ls_at (by kernel_rfl) (ok126_3 g139 g138 F hK), trivial⟩, (ev126 g139 g138 F x).trans hF⟩
def cf178 : G157 := fn157 0
theorem k178 : KOne Try.prog 157 ⟨[.v i64], [.bool], false, false, 0, cf178⟩ := ok157 .nil cf178 fun x y h => ⟨0, h⟩
theorem g178_ok (a : Int) : cf178 (a, ()) = some (!decide (a = 0), ()) := rfl
def c177 (l : List Int) : Option (Int × Unit) := if l.length ≤ 1000000 then some (ldI l, ()) else none
def cf177 : G156 := fun x => c177 x.1
theorem k177 : KOne Try.prog 156 ⟨[.v (.slice 2 i64), .fn 157], [i64], false, false, 0, cf177⟩ := ok156 _ (.cons k178 .nil) cf177 fun x y h => by
  obtain ⟨l, _, _⟩ := x
  simp only [cf177, c177] at h
  split at h
  · rename_i hc
    injection h with h; subst h
    have hle := ld_le l
    refine ⟨l.length + 1, ?_⟩
    simp (disch := omega) only [fn156, ru156_2, dln_t, cond_true, ofn]
    refine iter_run (ld l) _ (fun i => ((l, ()), ((), (((l.length : Int), ()), ((i : Int), ()), ())))) (by omega) (fun i hi k => ?_) (fun k => ?_)
    · have h0 : l.getD i 0 = 0 := ld_zero l i hi
      simp (disch := omega) only [st156_2, ofn, dlt_t, ib_t, tn_cast, cond_true, h0, g178_ok, deq_t, Bool.not_true, cond_false, w6_id]
      rfl
    · by_cases q : ld l = l.length
      · simp (disch := omega) only [st156_2, dlt_f, cond_false, ldI, if_pos q]
      · have hne : l.getD (ld l) 0 ≠ 0 := ld_ne l (by omega)
        have g : cf178 (l.getD (ld l) 0, ()) = some (true, ()) := by rw [g178_ok, deq_f hne]; rfl
        simp (disch := omega) only [st156_2, ofn, dlt_t, ib_t, tn_cast, cond_true, g, ldI, if_neg q]
  · cases h
def cf157 : G141 := fn141 cf177 0
theorem k157 : KOne Try.prog 141 ⟨[.v (.slice 2 i64)], [i64], false, false, 0, cf157⟩ := ok141 _ (.cons k177 .nil) cf157 fun x y h => ⟨0, h⟩
theorem g157_ok {l : List Int} (h : l.length ≤ 1000000) : cf157 (l, ()) = some (ldI l, ()) := by
  have : cf177 (l, (), ()) = some (ldI l, ()) := if_pos h
  simp only [cf157, fn141, this]
theorem g91_ok {l : List Int} (h : l.length ≤ 1000000) : cf91 (l, ()) = some (l, ()) := if_pos h
theorem run79 {p x : Int} (hp : 2 ≤ p ∧ p ≤ 13) (hx : 0 ≤ x ∧ x < p) {F0 : Nat} : ∀ (f F : Nat) (k : Int), 1 ≤ k → p - k < f → f < F →
    iter (fun s k => st47_2 F0 s k (fun s' => match s' with | ((t0, _), (t1, _), (t5, _), _) => (some ((0 : Int), ())))) F ((x, ()), ((p, ()), ((k, ()), ()))) = some (invA p (x % p) f k, ())
  | 0, F, k, h1, h2, h3 => by
    obtain ⟨F, rfl⟩ : ∃ f, F = f + 1 := ⟨F - 1, by omega⟩
    simp (disch := omega) only [iter, st47_2, dlt_f, cond_false, invA]
  | f + 1, F, k, h1, h2, h3 => by
    obtain ⟨F, rfl⟩ : ∃ f, F = f + 1 := ⟨F - 1, by omega⟩
    have r : x % p = x := Int.emod_eq_of_lt hx.1 hx.2
    by_cases q : k < p
    · have s := sq_rng (p := p) (by omega) hx.1 hx.2 (show 0 ≤ k by omega) q
      have e : Int.tmod (w6 (x * k)) p = k * (x % p) % p := by rw [w6_id (by omega) (by omega), Int.tmod_eq_emod_of_nonneg s.1, r, Int.mul_comm]
      have ih := fun k h1 h2 => run79 hp hx (F0 := F0) f F k h1 h2 (by omega)
      simp only [iter]
      generalize iter _ F = G at ih ⊢
      simp (disch := omega) only [st47_2, dlt_t, cond_true, deq_f, Bool.not_false, e]
      by_cases z : k * (x % p) % p = 1
      · rw [decide_eq_true z]; simp only [cond_true, invA, if_pos q, if_pos z]
      · rw [decide_eq_false z]
        simp (disch := omega) only [cond_false, w6_id]
        rw [ih (k + 1) (by omega) (by omega)]
        simp only [invA, if_pos q, if_neg z]
    · simp (disch := omega) only [iter, st47_2, dlt_f, cond_false, invA, if_neg q]
def c79 (x p : Int) : Option (Int × Unit) := if (2 ≤ p ∧ p ≤ 13) ∧ (0 ≤ x ∧ x < p) then some (inv p x, ()) else none
def cf79 : G47 := fun x => c79 x.1 x.2.1
theorem k79 : KOne Try.prog 47 ⟨[.v i64, .v i64], [i64], false, false, 0, cf79⟩ := ok47 .nil cf79 fun x y h => by
  obtain ⟨a, p, _⟩ := x
  simp only [cf79, c79] at h
  split at h
  · rename_i hc
    injection h with h; subst h
    exact ⟨20, run79 hc.1 hc.2 13 20 1 (by omega) (by omega) (by omega)⟩
  · cases h
theorem g79_ok {x p : Int} (hp : 2 ≤ p ∧ p ≤ 13) (hx : 0 ≤ x ∧ x < p) : cf79 (x, p, ()) = some (inv p x, ()) := if_pos ⟨hp, hx⟩
theorem less_el {p n x a : Int} (hp : 2 ≤ p ∧ p ≤ 13) (hx : 0 ≤ x ∧ x < p) (hn : 0 ≤ n ∧ n < p) (ha : 0 ≤ a ∧ a < p) : Int.tmod (w6 (x + w6 (w6 (p - n) * a))) p = (x - n * a) % p := by
  have h1 : w6 (p - n) = p - n := w6_id (by omega) (by omega)
  have s := mul_rng (a := p - n) (b := a) (c := 14) (d := 14) (by omega) (by omega) ha.1 (by omega)
  rw [h1, w6_id (x := (p - n) * a) (by omega) (by omega), w6_id (by omega) (by omega), Int.tmod_eq_emod_of_nonneg (by omega)]
  have : x + (p - n) * a = x - n * a + p * a := by rw [Int.sub_mul]; omega
  rw [this, Int.add_mul_emod_self_left]
theorem less_in {p n : Int} {m : Nat} {r o : List Int} (hp : 2 ≤ p ∧ p ≤ 13) (hn : 0 ≤ n ∧ n < p) (h1 : Can p m r) (h2 : Can p m o) (hm : m ≤ 1000000) {F0 F : Nat} (hF : m < F) {out : List (List Int)} {a b : Int} {kx : ShVal sh154_8 → Option R154} :
    iter (fun s k => st154_8 cf91 cf157 F0 s k kx) F ((p, ()), ((r, ()), ((n, ()), ((out, ()), ((a, ()), ((b, ()), ((o, ()), (((m : Int), ()), (((0 : Int), ()), ()))))))))) =
      kx ((p, ()), ((subm p n r o, ()), ((n, ()), ((out, ()), ((a, ()), ((b, ()), ((o, ()), (((m : Int), ()), (((m : Int), ()), ()))))))))) := by
  have l1 := h1.len
  have l2 := h2.len
  have l3 : (subm p n r o).length = r.length := subm_len (by omega)
  have key := iter_run (step := fun s k => st154_8 cf91 cf157 F0 s k kx) (r := kx ((p, ()), ((subm p n r o, ()), ((n, ()), ((out, ()), ((a, ()), ((b, ()), ((o, ()), (((m : Int), ()), (((m : Int), ()), ()))))))))))
    m F (fun i => ((p, ()), (((subm p n r o).take i ++ r.drop i, ()), ((n, ()), ((out, ()), ((a, ()), ((b, ()), ((o, ()), (((m : Int), ()), (((i : Int), ()), ())))))))))) hF (fun i hi k => ?_) (fun k => ?_)
  · simpa using key
  · have z1 := split_len (i := i) l3 (by omega)
    have g1 := split_get (i := i) l3 (by omega)
    have s1 := split_set (i := i) l3 (by omega)
    have e := less_el hp (h1.rng i) hn (h2.rng i)
    rw [← el_subm (by omega)] at e
    rw [← s1]
    generalize (subm p n r o).take i ++ r.drop i = L at *
    have go : o.getD i 0 = el o i := rfl
    have wi : w6 ((i : Int) + 1) = ((i + 1 : Nat) : Int) := by rw [w6_id (by omega) (by omega)]; rfl
    simp (disch := omega) only [st154_8, ofn, dlt_t, cond_true, ib_t, tn_cast, deq_f, Bool.not_false, g1, go, e, wi]
  · rw [show (subm p n r o).take m ++ r.drop m = subm p n r o by rw [← l1, List.drop_length, List.append_nil, ← l3, List.take_length]]
    simp (disch := omega) only [st154_8, dlt_f, cond_false]
theorem run156 {p : Int} {m : Nat} {out : List (List Int)} {r : List Int} (hp : 2 ≤ p ∧ p ≤ 13) (hc : ∀ o ∈ out, Can p m o ∧ ld o < m) (hr : Can p m r) (hm : m ≤ 1000000) (ho : out.length ≤ 1000000) : fn154 cf91 cf157 (out.length + m + 1) (p, out, r, ()) = some (rest p out r, ()) := by
  simp only [fn154, ru154_3]
  rw [g91_ok (by rw [hr.len]; exact hm)]
  simp (disch := omega) only [dln_t, cond_true, ofn]
  have key := iter_run (step := fun s k => st154_3 cf91 cf157 (out.length + m + 1) s k (fun s' => match s' with | ((t0, _), (t2, _), (t14, _), (t15, _), (t16, _), _) => (some (t2, ())))) (r := some (rest p out r, ())) out.length (out.length + m + 1) (fun i => ((p, ()), ((rest p (out.take i) r, ()), ((out, ()), (((out.length : Int), ()), (((i : Int), ()), ())))))) (by omega) (fun i hi kk => ?_) (fun kk => ?_)
  · simpa [rest] using key
  · have ho1 : out.getD i [] = out[i] := by simp [List.getD_eq_getElem?_getD, List.getElem?_eq_getElem hi]
    have hmem : out[i] ∈ out := List.getElem_mem hi
    have co := (hc _ hmem).1
    have lo := (hc _ hmem).2
    have cr : Can p m (rest p (out.take i) r) := rest_can (by omega) (fun o h => (hc o (List.mem_of_mem_take h)).1) hr
    rw [show List.take (i + 1) out = List.take i out ++ [out[i]] from take_snoc hi, rest_snoc]
    generalize rest p (List.take i out) r = own at *
    generalize out[i] = o at *
    have g1 := g157_ok (l := o) (by rw [co.len]; exact hm)
    rw [ldI_lt co.len lo] at g1
    have lw := cr.len
    have lo2 := co.len
    have z := cr.rng (ld o)
    by_cases q : el own (ld o) = 0
    · have q' : own.getD (ld o) 0 = 0 := q
      rw [q, subm_zero cr co.len]
      simp (disch := omega) only [st154_3, cond_true, ofn, dlt_t, ib_t, tn_cast, ho1, g1, q', decide_true, Bool.not_true, cond_false, w6_id]
      rfl
    · have q' : own.getD (ld o) 0 ≠ 0 := q
      have li := less_in hp z cr co hm (F0 := out.length + m + 1) (F := out.length + m + 1) (by omega) (out := out) (a := (out.length : Int)) (b := (i : Int)) (kx := fun s' => match s' with | ((t0, _), (t2, _), (t9, _), (t14, _), (t15, _), (t16, _), (t27, _), (t28, _), (t29, _), _) => kk ((t0, ()), ((t2, ()), ((t14, ()), ((t15, ()), (((w6 (t16 + (1 : Int))), ()), ()))))))
      have ge : own.getD (ld o) 0 = el own (ld o) := rfl
      simp (disch := first | omega | exact q') only [st154_3, cond_true, ofn, dlt_t, ib_t, tn_cast, ho1, g1, deq_f, Bool.not_false, dln_t, lo2, ru154_8]
      rw [ge, li]
      simp (disch := omega) only [w6_id]
      rfl
  · rw [List.take_length]
    simp (disch := omega) only [st154_3, dlt_f, cond_false]
open Classical in
noncomputable def c156 (p : Int) (out : List (List Int)) (r : List Int) : Option (List Int × Unit) := if (2 ≤ p ∧ p ≤ 13) ∧ (∀ o ∈ out, Can p r.length o ∧ ld o < r.length) ∧ Can p r.length r ∧ r.length ≤ 1000000 ∧ out.length ≤ 1000000 then some (rest p out r, ()) else none
noncomputable def cf156 : G154 := fun x => c156 x.1 x.2.1 x.2.2.1
theorem k156 : KOne Try.prog 154 ⟨[.v i64, .v (.slice 26 (.slice 2 i64)), .v (.slice 2 i64)], [.slice 2 i64], true, false, 0, cf156⟩ := ok154 _ _ (.cons k91 (.cons k157 .nil)) cf156 fun x y h => by
  obtain ⟨p, out, r, _⟩ := x
  simp only [cf156, c156] at h
  split at h
  · rename_i hc
    injection h with h; subst h
    exact ⟨_, run156 hc.1 hc.2.1 hc.2.2.1 hc.2.2.2.1 hc.2.2.2.2⟩
  · cases h
theorem g156_ok {p : Int} {m : Nat} {out : List (List Int)} {r : List Int} (hp : 2 ≤ p ∧ p ≤ 13) (hc : ∀ o ∈ out, Can p m o ∧ ld o < m) (hr : Can p m r) (hm : m ≤ 1000000) (ho : out.length ≤ 1000000) : cf156 (p, out, r, ()) = some (rest p out r, ()) :=
  if_pos ⟨hp, by rw [hr.len]; exact hc, by rw [hr.len]; exact hr, by rw [hr.len]; exact hm, ho⟩
theorem scale_in {p c : Int} {m : Nat} {own : List Int} (hp : 2 ≤ p ∧ p ≤ 13) (hc : 0 ≤ c ∧ c < p) (h1 : Can p m own) (hm : m ≤ 1000000) {g156 : G154} {g79 : G47} {g157 : G141} {F0 F : Nat} (hF : m < F) {out : List (List Int)} {kx : ShVal sh138_7 → Option R138} :
    iter (fun s k => st138_7 g156 g79 g157 F0 s k kx) F ((p, ()), ((out, ()), ((own, ()), ((c, ()), (((m : Int), ()), (((0 : Int), ()), ())))))) =
      kx ((p, ()), ((out, ()), ((scl p c own, ()), ((c, ()), (((m : Int), ()), (((m : Int), ()), ())))))) := by
  have hl : (scl p c own).length = own.length := scl_len
  have lw := h1.len
  have key := iter_run (step := fun s k => st138_7 g156 g79 g157 F0 s k kx) (r := kx ((p, ()), ((out, ()), ((scl p c own, ()), ((c, ()), (((m : Int), ()), (((m : Int), ()), ())))))))
    m F (fun j => ((p, ()), ((out, ()), (((scl p c own).take j ++ own.drop j, ()), ((c, ()), (((m : Int), ()), (((j : Int), ()), ()))))))) hF (fun j hj k => ?_) (fun k => ?_)
  · simpa using key
  · have l1 := split_len (i := j) hl (by omega)
    have g1 := split_get (i := j) hl (by omega)
    have s1 := split_set (i := j) hl (by omega)
    have z := h1.rng j
    have z2 := sq_rng (p := p) (by omega) z.1 z.2 hc.1 hc.2
    have e : Int.tmod (w6 (el own j * c)) p = el (scl p c own) j := by rw [w6_id (by omega) (by omega), Int.tmod_eq_emod_of_nonneg z2.1, el_scl]
    rw [← s1]
    generalize (scl p c own).take j ++ own.drop j = L at *
    have wi : w6 ((j : Int) + 1) = ((j + 1 : Nat) : Int) := by rw [w6_id (by omega) (by omega)]; rfl
    simp (disch := omega) only [st138_7, cond_true, ofn, dlt_t, ib_t, tn_cast, deq_f, Bool.not_false, g1, e, wi]
  · rw [show (scl p c own).take m ++ own.drop m = scl p c own by rw [← lw, List.drop_length, List.append_nil, ← hl, List.take_length]]
    simp (disch := omega) only [st138_7, dlt_f, cond_false]
theorem split_getL {a b : List (List Int)} {i : Nat} (h : a.length = b.length) (hi : i < a.length) : (a.take i ++ b.drop i).getD i [] = b[i]'(by omega) := by
  simp only [List.getD_eq_getElem?_getD]
  rw [List.getElem?_append_right (by simp; omega), List.length_take, Nat.min_eq_left (by omega), List.getElem?_drop]
  simp [List.getElem?_eq_getElem (show i < b.length by omega)]
theorem split_setL {a b : List (List Int)} {i : Nat} (h : a.length = b.length) (hi : i < a.length) : (a.take i ++ b.drop i).set i a[i] = a.take (i + 1) ++ b.drop (i + 1) := by
  rw [take_snoc hi, List.set_append_right _ _ (by simp; omega)]
  rw [List.length_take, Nat.min_eq_left (by omega), Nat.sub_self, List.append_assoc]
  congr 1
  rw [List.drop_eq_getElem_cons (show i < b.length by omega)]
  rfl
theorem red_step {p : Int} {own o x : List Int} {L : List (List Int)} {n j : Nat} (hn : n ≤ 1000000) (hj : j < n) (l1 : L.length = n) (g1 : L.getD j [] = o) (g2 : cf156 (p, [own], o, ()) = some (x, ())) {F0 : Nat} {k kx : ShVal sh138_12 → Option R138} :
    st138_12 cf156 cf79 cf157 F0 ((p, ()), ((L, ()), ((own, ()), ((L, ()), (((n : Int), ()), (((j : Int), ()), ())))))) k kx = k ((p, ()), ((L.set j x, ()), ((own, ()), ((L.set j x, ()), (((n : Int), ()), ((((j + 1 : Nat) : Int), ()), ())))))) := by
  have wi : w6 ((j : Int) + 1) = ((j + 1 : Nat) : Int) := by rw [w6_id (by omega) (by omega)]; rfl
  simp (disch := omega) only [st138_12, cond_true, ofn, dlt_t, ib_t, tn_cast, g1, g2, wi]
theorem red_in {p : Int} {m at_ : Nat} {own : List Int} {out : List (List Int)} (hp : 2 ≤ p ∧ p ≤ 13) (ho : Can p m own) (hl : ld own = at_) (ht : at_ < m) (hc : ∀ o ∈ out, Can p m o) (hm : m ≤ 1000000) (hn : out.length ≤ 1000000) {F0 F : Nat} (hF : out.length < F) {kx : ShVal sh138_12 → Option R138} :
    iter (fun s k => st138_12 cf156 cf79 cf157 F0 s k kx) F ((p, ()), ((out, ()), ((own, ()), ((out, ()), (((out.length : Int), ()), (((0 : Int), ()), ())))))) =
      kx ((p, ()), ((out.map (red p own at_), ()), ((own, ()), ((out.map (red p own at_), ()), (((out.length : Int), ()), (((out.length : Int), ()), ())))))) := by
  have hlm : (out.map (red p own at_)).length = out.length := by simp
  have key := iter_run (step := fun s k => st138_12 cf156 cf79 cf157 F0 s k kx) (r := kx ((p, ()), ((out.map (red p own at_), ()), ((own, ()), ((out.map (red p own at_), ()), (((out.length : Int), ()), (((out.length : Int), ()), ())))))))
    out.length F (fun j => ((p, ()), (((out.map (red p own at_)).take j ++ out.drop j, ()), ((own, ()), (((out.map (red p own at_)).take j ++ out.drop j, ()), (((out.length : Int), ()), (((j : Int), ()), ()))))))) hF (fun j hj k => ?_) (fun k => ?_)
  · simpa using key
  · have l1 : ((out.map (red p own at_)).take j ++ out.drop j).length = out.length := by simp; omega
    have g1 := split_getL (i := j) hlm (by omega)
    have s1 := split_setL (i := j) hlm (by omega)
    have co := hc out[j] (List.getElem_mem hj)
    have g2 : cf156 (p, [own], out[j], ()) = some (red p own at_ out[j], ()) := by
      have := g156_ok (p := p) (out := [own]) (r := out[j]) hp (fun o h => by rw [List.mem_singleton.1 h]; exact ⟨ho, by rw [hl]; exact ht⟩) co hm (by simp)
      rw [this]
      simp only [rest, red, hl]
    have em : (out.map (red p own at_))[j]'(by simpa using hj) = red p own at_ out[j] := by simp
    rw [em] at s1
    rw [← s1]
    exact red_step (by omega) hj l1 g1 g2
  · rw [show (out.map (red p own at_)).take out.length ++ out.drop out.length = out.map (red p own at_) by rw [List.drop_length, List.append_nil, ← hlm, List.take_length]]
    simp (disch := omega) only [st138_12, dlt_f, cond_false]
theorem run172 {p : Int} {m : Nat} {out b : List (List Int)} {r : List Int} (hP : isP p = true) (hb : out.Perm b) (rr : RR p m b) (hr : Can p m r) (hm : m ≤ 1000000) (hn : out.length ≤ 500000) : fn138 cf156 cf79 cf157 (m + out.length + 1) (p, out, r, ()) = some (takeL p out r, ()) := by
  have hp := isP_pos hP
  have hc : ∀ o ∈ out, Can p m o ∧ ld o < m := fun o ho => ⟨rr.can o (hb.mem_iff.1 ho), rr.lt o (hb.mem_iff.1 ho)⟩
  have g1 := g156_ok (p := p) (out := out) (r := r) (by omega) hc hr hm (by omega)
  have cr : Can p m (rest p out r) := rest_can (by omega) (fun o h => (hc o h).1) hr
  have lr := cr.len
  simp only [fn138, g1]
  rw [g157_ok (by omega)]
  simp only
  unfold takeL
  by_cases q : ld (rest p out r) = (rest p out r).length
  · rw [if_pos q]
    simp (disch := omega) only [ldI, if_pos q, dlt_t, cond_true]
  · rw [if_neg q]
    have hle := ld_le (rest p out r)
    have w := own_of hP rr hr (by rw [← rest_perm (by omega) hb rr hr]; exact q)
    rw [← rest_perm (by omega) hb rr hr] at w
    have z := cr.rng (ld (rest p out r))
    have hne := ld_ne (rest p out r) (by omega)
    have hmod : el (rest p out r) (ld (rest p out r)) % p ≠ 0 := by rw [cr.mod]; exact hne
    obtain ⟨i1, i2⟩ := inv_ok hP hmod
    have g2 := g79_ok (p := p) (x := el (rest p out r) (ld (rest p out r))) (by omega) z
    have ge : (rest p out r).getD (ld (rest p out r)) 0 = el (rest p out r) (ld (rest p out r)) := rfl
    have e0 : ldI (rest p out r) = (ld (rest p out r) : Int) := ldI_of (by omega)
    simp (disch := omega) only [e0, dlt_f, cond_false, ib_t, ofn, tn_cast, cond_true, ge, g2, dln_t, lr, ru138_7]
    rw [scale_in (by omega) (by omega) cr hm (by omega)]
    simp (disch := omega) only [dln_t, cond_true, ofn, ru138_12]
    rw [red_in (by omega) w.can w.led w.lt (fun o ho => (hc o ho).1) hm (by omega) (by omega)]
    have ll : ((out.map (red p (scl p (inv p (el (rest p out r) (ld (rest p out r)))) (rest p out r)) (ld (rest p out r)))).length) = out.length := by simp
    simp (disch := omega) only [grow_t, ll, List.length_singleton, cond_true]
noncomputable def c172 (p : Int) (out : List (List Int)) (r : List Int) : Option (List (List Int) × Unit) := by
  classical exact if isP p = true ∧ (∃ b, out.Perm b ∧ RR p r.length b) ∧ Can p r.length r ∧ r.length ≤ 1000000 ∧ out.length ≤ 500000 then some (takeL p out r, ()) else none
noncomputable def cf172 : G138 := fun x => c172 x.1 x.2.1 x.2.2.1
theorem k172 : KOne Try.prog 138 ⟨[.v i64, .v (.slice 26 (.slice 2 i64)), .v (.slice 2 i64)], [.slice 26 (.slice 2 i64)], true, false, 2, cf172⟩ := ok138 _ _ _ (.cons k156 (.cons k79 (.cons k157 .nil))) cf172 fun x y h => by
  obtain ⟨p, out, r, _⟩ := x
  simp only [cf172, c172] at h
  split at h
  · rename_i hc
    injection h with h; subst h
    obtain ⟨h1, ⟨b, h2, h3⟩, h4, h5, h6⟩ := hc
    exact ⟨_, run172 h1 h2 h3 h4 h5 h6⟩
  · cases h
theorem g172_ok {p : Int} {m : Nat} {out b : List (List Int)} {r : List Int} (hP : isP p = true) (hb : out.Perm b) (rr : RR p m b) (hr : Can p m r) (hm : m ≤ 1000000) (hn : out.length ≤ 500000) : cf172 (p, out, r, ()) = some (takeL p out r, ()) :=
  if_pos ⟨hP, ⟨b, hb, by rw [hr.len]; exact rr⟩, by rw [hr.len]; exact hr, by rw [hr.len]; exact hm, hn⟩
def c174 (a b : List Int) : Option (Int × Unit) := if a.length ≤ 1000000 ∧ b.length ≤ 1000000 then some (ldI a - ldI b, ()) else none
def cf174 : G140 := fun x => c174 x.1 x.2.1
theorem ldI_rng {a : List Int} : -1 ≤ ldI a ∧ ldI a ≤ a.length := by
  have := ld_le a
  unfold ldI; split <;> omega
theorem k174 : KOne Try.prog 140 ⟨[.v (.slice 2 i64), .v (.slice 2 i64)], [i64], false, false, 0, cf174⟩ := ok140 _ (.cons k157 .nil) cf174 fun x y h => by
  obtain ⟨a, b, _⟩ := x
  simp only [cf174, c174] at h
  split at h
  · rename_i hc
    injection h with h; subst h
    have r1 := ldI_rng (a := a)
    have r2 := ldI_rng (a := b)
    refine ⟨0, ?_⟩
    simp only [fn140, g157_ok hc.1, g157_ok hc.2]
    rw [w6_id (by omega) (by omega)]
  · cases h
noncomputable def cf173 : G139 := by
  classical exact fun x => if x.1.length ≤ 1000000 ∧ (∀ r ∈ x.1, r.length ≤ 1000000) ∧ (x.1.map ldI).Nodup then some (sortK ldI x.1, ()) else none
theorem k173 : KOne Try.prog 139 ⟨[.v (.slice 26 (.slice 2 i64)), .fn 140], [.slice 26 (.slice 2 i64)], false, false, 1, cf173⟩ := by
  refine ⟨fun q => (by cases q), fun _ => ?_, fun q => (by cases q), Try.f139, Try.func139, by decide, rfl⟩
  have eg : ∀ args w, (callFunc 140 args).run Try.prog w = .ok (.enter 140 args) w := fun args w => by
    have := Try.func140
    simp only [callFunc, Sem.run_bind, run_program, Result.andThen_ok, this]
    rw [if_neg (by decide), if_neg (by decide)]; rfl
  exact sortRows_ok (ρ := Try.l139_ren) (good := fun r : List Int => r.length ≤ 1000000) (cf := fun a b : List Int => ldI a - ldI b) (key := ldI) (u := .slice 2 i64) Try.l139 rfl rfl (k174.ok rfl) (fun a b ha hb => if_pos ⟨ha, hb⟩) (fun a b _ _ => by omega) eg fun x y h => by
    simp only [cf173] at h
    split at h
    · rename_i hc
      injection h with h; subst h
      exact ⟨hc.1, hc.2.1, hc.2.2, rfl⟩
    · cases h
theorem g173_ok {l : List (List Int)} (h1 : l.length ≤ 1000000) (h2 : ∀ r ∈ l, r.length ≤ 1000000) (h3 : (l.map ldI).Nodup) : cf173 (l, (), ()) = some (sortK ldI l, ()) := if_pos ⟨h1, h2, h3⟩
theorem run145 {p : Int} {m : Nat} {rows : List (List Int)} (hP : isP p = true) (hr : ∀ r ∈ rows, Can p m r) (hm : m ≤ 1000000) (hn : rows.length ≤ 400000) : fn126 cf173 cf172 (rows.length + 1) (p, rows, ()) = some (ech p rows, ()) := by
  simp only [fn126, ru126_3]
  simp (disch := omega) only [dln_t, cond_true, ofn]
  have hp := isP_pos hP
  have key := iter_run (step := fun s k => st126_3 cf173 cf172 (rows.length + 1) s k (fun s' => match s' with | ((t0, _), (t5, _), (t9, _), (t10, _), (t11, _), _) => (match (cf173 (t5, ((), ()))) with | some r13 => (some ((bif ((Nat.beq 24 24) && ((Nat.beq 2 2) && true)) then r13.1 else []), ())) | none => none))) (r := some (ech p rows, ())) rows.length (rows.length + 1) (fun i => ((p, ()), (((rows.take i).foldl (takeL p) [], ()), ((rows, ()), (((rows.length : Int), ()), (((i : Int), ()), ())))))) (by omega) (fun i hi k => ?_) (fun k => ?_)
  · exact key
  · have ho1 : rows.getD i [] = rows[i] := by simp [List.getD_eq_getElem?_getD, List.getElem?_eq_getElem hi]
    have hcut : ∀ r ∈ rows.take i, Can p m r := fun r h => hr r (List.mem_of_mem_take h)
    have hpm : ((rows.take i).foldl (takeL p) []).Perm (ech p (rows.take i)) := fold_perm hP (.refl _) .nil hcut
    have hlen : ((rows.take i).foldl (takeL p) []).length ≤ i := by have := takes_len (p := p) (rows := rows.take i) (out := []); simp at this; omega
    have g := g172_ok hP hpm (ech_RR hP hcut) (hr rows[i] (List.getElem_mem hi)) hm (by omega)
    rw [show List.take (i + 1) rows = List.take i rows ++ [rows[i]] from take_snoc hi, List.foldl_append]
    simp only [List.foldl_cons, List.foldl_nil]
    generalize (rows.take i).foldl (takeL p) [] = L at *
    have wi : w6 ((i : Int) + 1) = ((i + 1 : Nat) : Int) := by rw [w6_id (by omega) (by omega)]; rfl
    simp (disch := omega) only [st126_3, cond_true, ofn, dlt_t, ib_t, tn_cast, ho1, g, wi]
  · rw [List.take_length]
    obtain ⟨e1, e2⟩ := sort_ech hP hr
    have hlen : (rows.foldl (takeL p) []).length ≤ rows.length := by have := takes_len (p := p) (rows := rows) (out := []); simpa using this
    have g := g173_ok (l := rows.foldl (takeL p) []) (by omega) (fun r h => by rw [(take_mem hP hr r h).1.len]; exact hm) e2
    rw [e1] at g
    simp (disch := omega) only [st126_3, dlt_f, cond_false, g]
    rfl
noncomputable def c145 (p : Int) (rows : List (List Int)) : Option (List (List Int) × Unit) := by
  classical exact if isP p = true ∧ (∃ m, m ≤ 1000000 ∧ ∀ r ∈ rows, Can p m r) ∧ rows.length ≤ 400000 then some (ech p rows, ()) else none
noncomputable def cf145 : G126 := fun x => c145 x.1 x.2.1
theorem k145 : KOne Try.prog 126 ⟨[.v i64, .v (.slice 26 (.slice 2 i64))], [.slice 26 (.slice 2 i64)], true, false, 0, cf145⟩ := ok126 _ _ (.cons k173 (.cons k172 .nil)) cf145 fun x y h => by
  obtain ⟨p, rows, _⟩ := x
  simp only [cf145, c145] at h
  split at h
  · rename_i hc
    injection h with h; subst h
    obtain ⟨h1, ⟨m, h2, h3⟩, h4⟩ := hc
    exact ⟨_, run145 h1 h3 h2 h4⟩
  · cases h
theorem g145_ok {p : Int} {m : Nat} {rows : List (List Int)} (hP : isP p = true) (hr : ∀ r ∈ rows, Can p m r) (hm : m ≤ 1000000) (hn : rows.length ≤ 400000) : cf145 (p, rows, ()) = some (ech p rows, ()) := if_pos ⟨hP, ⟨m, hm, hr⟩, hn⟩
noncomputable def cf129 : Args [.v i64, .v i64, .v mat] → Option R108 := fn108 cf108 cf153 8
theorem k129 : KOne Try.prog 108 ⟨[.v i64, .v i64, .v mat], [mat, .bool], false, false, 0, cf129⟩ := ok108 _ _ (.cons k108 (.cons k153 .nil)) cf129 fun x y h => ⟨8, h⟩
def rowsL (n : Int) (g : Mat) : List (List Int) :=
  if n = 1 then [[me g 0 0, 1]] else if n = 2 then [[me g 0 0, me g 0 1, 1, 0], [me g 1 0, me g 1 1, 0, 1]]
  else [[me g 0 0, me g 0 1, me g 0 2, 1, 0, 0], [me g 1 0, me g 1 1, me g 1 2, 0, 1, 0], [me g 2 0, me g 2 1, me g 2 2, 0, 0, 1]]
theorem w6_me {g : Mat} (hg : okM g = true) (i j : Nat) : w6 (tget (0 : Int) 3 (tget (Ty.dflt (.arr 3 (.int .u8))) 3 g i) j) = me g i j := by
  have := me_rng hg i j
  rw [show tget (0 : Int) 3 (tget (Ty.dflt (.arr 3 (.int .u8))) 3 g i) j = me g i j from rfl]
  exact w6_id (by omega) (by omega)
theorem build129 {p n : Int} {g M : Mat} (hg : okM g = true) (hn : n = 1 ∨ n = 2 ∨ n = 3) {g108 : Args [.v i64, .v (.slice 26 (.slice 2 i64))] → Option (Ress [.slice 26 (.slice 2 i64)])} {g153 : Args [.v (.slice 2 i64)] → Option (Ress [i64])} {kx : ShVal sh108_3 → Option R108} :
    iter (fun s k => st108_3 g108 g153 8 s k kx) 8 ((p, ()), ((n, ()), ((g, ()), ((M, ()), (([], ()), (((0 : Int), ()), ())))))) = kx ((p, ()), ((n, ()), ((g, ()), ((M, ()), ((rowsL n g, ()), ((n, ()), ())))))) := by
  have W : ∀ i j, w6 (me g i j) = me g i j := w6_me hg
  rcases hn with rfl | rfl | rfl
  · have e : iter (fun s k => st108_3 g108 g153 8 s k kx) 8 ((p, ()), (((1 : Int), ()), ((g, ()), ((M, ()), (([], ()), (((0 : Int), ()), ())))))) = kx ((p, ()), (((1 : Int), ()), ((g, ()), ((M, ()), (([[w6 (me g 0 0), 1]], ()), (((1 : Int), ()), ())))))) := by kernel_rfl
    rw [e]; simp only [W]; rfl
  · have e : iter (fun s k => st108_3 g108 g153 8 s k kx) 8 ((p, ()), (((2 : Int), ()), ((g, ()), ((M, ()), (([], ()), (((0 : Int), ()), ())))))) = kx ((p, ()), (((2 : Int), ()), ((g, ()), ((M, ()), (([[w6 (me g 0 0), w6 (me g 0 1), 1, 0], [w6 (me g 1 0), w6 (me g 1 1), 0, 1]], ()), (((2 : Int), ()), ())))))) := by kernel_rfl
    rw [e]; simp only [W]; rfl
  · have e : iter (fun s k => st108_3 g108 g153 8 s k kx) 8 ((p, ()), (((3 : Int), ()), ((g, ()), ((M, ()), (([], ()), (((0 : Int), ()), ())))))) = kx ((p, ()), (((3 : Int), ()), ((g, ()), ((M, ()), (([[w6 (me g 0 0), w6 (me g 0 1), w6 (me g 0 2), 1, 0, 0], [w6 (me g 1 0), w6 (me g 1 1), w6 (me g 1 2), 0, 1, 0], [w6 (me g 2 0), w6 (me g 2 1), w6 (me g 2 2), 0, 0, 1]], ()), (((3 : Int), ()), ())))))) := by kernel_rfl
    rw [e]; simp only [W]; rfl
theorem can_of {p : Int} {m : Nat} {r : List Int} (hp : 0 < p) (hl : r.length = m) (h : ∀ x ∈ r, 0 ≤ x ∧ x < p) : Can p m r := by
  refine ⟨hl, fun i => ?_⟩
  rcases Nat.lt_or_ge i r.length with q | q
  · rw [el_get q]; exact h _ (List.getElem_mem q)
  · rw [el_ge q]; omega
theorem cell_lt {p n i j v : Int} (h : cellB p n i j v = true) : v < p := by
  simp only [cellB, Bool.and_eq_true, decide_eq_true_eq] at h; exact h.1
theorem rng_lt {p n : Int} {g : Mat} (h : rngB p n g = true) : (me g 0 0 < p ∧ me g 0 1 < p ∧ me g 0 2 < p) ∧ (me g 1 0 < p ∧ me g 1 1 < p ∧ me g 1 2 < p) ∧ me g 2 0 < p ∧ me g 2 1 < p ∧ me g 2 2 < p := by
  simp only [rngB, rowB, Bool.and_eq_true] at h
  obtain ⟨⟨a, b, c⟩, ⟨d, e, f⟩, x, y, z⟩ := h
  exact ⟨⟨cell_lt a, cell_lt b, cell_lt c⟩, ⟨cell_lt d, cell_lt e, cell_lt f⟩, cell_lt x, cell_lt y, cell_lt z⟩
theorem rows_ok {p n : Int} {g : Mat} (hg : okM g = true) (hP : isP p = true) (hn : n = 1 ∨ n = 2 ∨ n = 3) (hr : rngB p n g = true) :
    (rowsL n g).length = tn n ∧ (∀ r ∈ rowsL n g, Can p (tn n + tn n) r) ∧ (∀ (i : Nat) (hi : i < (rowsL n g).length), ∀ l, l < tn n → el (rowsL n g)[i] (tn n + l) = if i = l then 1 else 0) ∧
      (∀ (i : Nat) (hi : i < (rowsL n g).length), ∀ j, j < tn n → el (rowsL n g)[i] j = me g i j) := by
  have hp := isP_pos hP
  have r := me_rng hg
  have l := rng_lt hr
  have z := fun i j => (r i j).1
  rcases hn with rfl | rfl | rfl
  · rw [show tn 1 = 1 from rfl]
    refine ⟨rfl, fun x hx => ?_, fun i hi l hl => ?_, fun i hi j hj => ?_⟩
    · simp only [rowsL, if_true, List.mem_singleton] at hx
      subst hx
      refine can_of (by omega) rfl fun y hy => ?_
      simp only [List.mem_cons, List.not_mem_nil, or_false] at hy
      rcases hy with rfl | rfl
      · exact ⟨z 0 0, l.1.1⟩
      · omega
    · simp [rowsL] at hi; subst hi
      obtain rfl : l = 0 := by omega
      rfl
    · simp [rowsL] at hi; subst hi
      obtain rfl : j = 0 := by omega
      rfl
  · rw [show tn 2 = 2 from rfl]
    have hi2 : ∀ i, i < (rowsL 2 g).length → i = 0 ∨ i = 1 := fun i hi => by simp [rowsL] at hi; omega
    refine ⟨rfl, fun x hx => ?_, fun i hi l hl => ?_, fun i hi j hj => ?_⟩
    · have hx : x = [me g 0 0, me g 0 1, 1, 0] ∨ x = [me g 1 0, me g 1 1, 0, 1] := by simpa [rowsL] using hx
      refine can_of (by omega) (by rcases hx with rfl | rfl <;> rfl) fun y hy => ?_
      have := z 0 0
      have := z 0 1
      have := z 1 0
      have := z 1 1
      rcases hx with rfl | rfl <;> (simp only [List.mem_cons, List.not_mem_nil, or_false] at hy; omega)
    · rcases hi2 i hi with rfl | rfl <;> (obtain rfl | rfl : l = 0 ∨ l = 1 := by omega) <;> rfl
    · rcases hi2 i hi with rfl | rfl <;> (obtain rfl | rfl : j = 0 ∨ j = 1 := by omega) <;> rfl
  · rw [show tn 3 = 3 from rfl]
    have hi2 : ∀ i, i < (rowsL 3 g).length → i = 0 ∨ i = 1 ∨ i = 2 := fun i hi => by simp [rowsL] at hi; omega
    refine ⟨rfl, fun x hx => ?_, fun i hi l hl => ?_, fun i hi j hj => ?_⟩
    · have hx : x = [me g 0 0, me g 0 1, me g 0 2, 1, 0, 0] ∨ x = [me g 1 0, me g 1 1, me g 1 2, 0, 1, 0] ∨ x = [me g 2 0, me g 2 1, me g 2 2, 0, 0, 1] := by simpa [rowsL] using hx
      refine can_of (by omega) (by rcases hx with rfl | rfl | rfl <;> rfl) fun y hy => ?_
      have := z 0 0
      have := z 0 1
      have := z 0 2
      have := z 1 0
      have := z 1 1
      have := z 1 2
      have := z 2 0
      have := z 2 1
      have := z 2 2
      rcases hx with rfl | rfl | rfl <;> (simp only [List.mem_cons, List.not_mem_nil, or_false] at hy; omega)
    · rcases hi2 i hi with rfl | rfl | rfl <;> (obtain rfl | rfl | rfl : l = 0 ∨ l = 1 ∨ l = 2 := by omega) <;> rfl
    · rcases hi2 i hi with rfl | rfl | rfl <;> (obtain rfl | rfl | rfl : j = 0 ∨ j = 1 ∨ j = 2 := by omega) <;> rfl
theorem iter_succ {S α : Type} {step : S → (S → Option α) → Option α} {f : Nat} {s : S} : iter step (f + 1) s = step s (iter step f) := rfl
theorem row129 {N : Nat} (hN : N ≤ 3) {g : Mat} {out : List (List Int)} {i : Nat} (hi : i < N) (ho : i < out.length) (hl : (out.getD i []).length = N + N) (M : Mat) {g108 : Args [.v i64, .v (.slice 26 (.slice 2 i64))] → Option (Ress [.slice 26 (.slice 2 i64)])} {g153 : Args [.v (.slice 2 i64)] → Option (Ress [i64])} :
    ∃ M' : Mat, ∀ (F0 : Nat) (kx : ShVal sh108_21 → Option R108), iter (fun s k => st108_21 g108 g153 F0 s k kx) 8 (((N : Int), ()), ((g, ()), ((out, ()), ((M, ()), (((i : Int), ()), (((0 : Int), ()), ())))))) = kx (((N : Int), ()), ((g, ()), ((out, ()), ((M', ()), (((i : Int), ()), (((N : Int), ()), ())))))) := by
  let Mj : Nat → Mat := fun j => Nat.rec (motive := fun _ => Mat) M (fun j (m : Mat) => (tset (tset (w8 (List.getD (List.getD out i []) (tn ((N : Int) + (j : Int))) (0 : Int))) 3 (tget (Ty.dflt (.arr 3 (.int .u8))) 3 m i) j) 3 m i : Mat)) j
  refine ⟨Mj N, fun F0 kx => ?_⟩
  refine iter_run N 8 (fun j => (((N : Int), ()), ((g, ()), ((out, ()), ((Mj j, ()), (((i : Int), ()), (((j : Int), ()), ()))))))) (by omega) (fun j hj k => ?_) (fun k => ?_)
  · simp (disch := omega) only [st108_21, dlt_t, cond_true, ib_t, ofn, tn_cast, w6_id]
    rfl
  · simp (disch := omega) only [st108_21, dlt_f, cond_false]
theorem lead129 {p : Int} {N : Nat} (hN : N ≤ 3) {g : Mat} {out : List (List Int)} (rr : RR p (N + N) out) (hl : out.length = N) {g108 : Args [.v i64, .v (.slice 26 (.slice 2 i64))] → Option (Ress [.slice 26 (.slice 2 i64)])} : ∀ (k i : Nat) (M : Mat) (F : Nat), i + k = N → k < F →
    ∃ (M' : Mat) (b : Bool), iter (fun s k => st108_16 g108 cf153 8 s k (fun s' => match s' with | ((t1, _), (t6, _), (t12, _), (t13, _), (t14, _), _) => (some (t13, (true, ()))))) F (((N : Int), ()), ((g, ()), ((out, ()), ((M, ()), (((i : Int), ()), ()))))) = some (M', (b, ())) ∧
      (b = true ↔ ∀ (i' : Nat) (h : i' < out.length), i ≤ i' → ld out[i'] = i')
  | 0, i, M, F, hk, hF => by
    obtain ⟨F, rfl⟩ : ∃ f, F = f + 1 := ⟨F - 1, by omega⟩
    refine ⟨M, true, ?_, by simp; omega⟩
    rw [iter_succ]
    simp (disch := omega) only [st108_16, dlt_f, cond_false]
  | k + 1, i, M, F, hk, hF => by
    obtain ⟨F, rfl⟩ : ∃ f, F = f + 1 := ⟨F - 1, by omega⟩
    have hi : i < out.length := by omega
    have e : out.getD i [] = out[i] := by simp [List.getD_eq_getElem?_getD, List.getElem?_eq_getElem hi]
    have c := rr.can _ (List.getElem_mem hi)
    have lt := rr.lt _ (List.getElem_mem hi)
    have g1 := g153_ok (l := out[i]) (by rw [c.len]; omega)
    rw [ldI_lt c.len lt] at g1
    obtain ⟨M1, h1⟩ := row129 (N := N) hN (g := g) (out := out) (i := i) (by omega) hi (by rw [e]; exact c.len) M (g108 := g108) (g153 := cf153)
    obtain ⟨M2, b, h2, h3⟩ := lead129 hN rr hl (g := g) (g108 := g108) k (i + 1) M1 F (by omega) (by omega)
    by_cases q : ld out[i] = i
    · refine ⟨M2, b, ?_, h3.trans ⟨fun h i' hi' hle => ?_, fun h i' hi' hle => h i' hi' (by omega)⟩⟩
      · rw [iter_succ]
        generalize iter _ F = G at h2 ⊢
        simp (disch := omega) only [st108_16, dlt_t, cond_true, ib_t, ofn, tn_cast, e, g1, deq_t, Bool.not_true, cond_false, ru108_21, h1, w6_id]
        exact h2
      · rcases Nat.lt_or_ge i i' with z | z
        · exact h i' hi' (by omega)
        · obtain rfl : i' = i := by omega
          exact q
    · refine ⟨M, false, ?_, by simp; exact ⟨i, Nat.le_refl _, hi, q⟩⟩
      rw [iter_succ]
      simp (disch := omega) only [st108_16, dlt_t, cond_true, ib_t, ofn, tn_cast, e, g1, deq_f, Bool.not_false]
theorem g129_ok {p n : Int} {g : Mat} (hg : okM g = true) (hP : isP p = true) (hn : n = 1 ∨ n = 2 ∨ n = 3) (hr : rngB p n g = true) : ∃ M, cf129 (p, n, g, ()) = some (M, (!decide (detN (tn n) (me g) % p = 0), ())) := by
  obtain ⟨r1, r2, r3, r4⟩ := rows_ok hg hP hn hr
  have hN : ((tn n : Nat) : Int) = n := Int.toNat_of_nonneg (by omega)
  have hn3 : tn n ≤ 3 := by omega
  obtain ⟨e1, e2, e3⟩ := unit_ech hP (n := tn n) (by omega) (G := me g) r1 r2 r3 r4
  have g1 := g108_ok hP r2 (by omega) (by omega)
  obtain ⟨M, b, h1, h2⟩ := lead129 (p := p) hn3 (g := Ty.dflt (.arr 3 (.arr 3 (.int .u8)))) e2 e1 (g108 := cf108) (tn n) 0 (tup (Prod Int (Prod Int (Prod Int Unit))) (Ty.dflt (.arr 3 (.int .u8))) 3) 8 (by omega) (by omega)
  rw [hN] at h1
  have hb : b = !decide (detN (tn n) (me g) % p = 0) := by
    have : b = true ↔ detN (tn n) (me g) % p ≠ 0 := h2.trans ⟨fun h => e3.1 fun i hi => h i hi (by omega), fun h i hi _ => e3.2 h i hi⟩
    by_cases q : detN (tn n) (me g) % p = 0
    · rw [decide_eq_true q]
      cases b with
      | false => rfl
      | true => exact absurd q (this.1 rfl)
    · rw [decide_eq_false q]
      exact this.2 q
  refine ⟨M, ?_⟩
  rw [← hb]
  unfold cf129 fn108 ru108_3
  refine (build129 hg hn).trans ?_
  simp only [g1]
  simp (disch := omega) only [dln_t, cond_true, ofn, e1, hN, deq_t, decide_true, Bool.not_true, cond_false, ru108_16]
  exact h1
noncomputable def cf58 : Args [.v i64, .v i64, .v mat] → Option R71 := fn71 cf82 cf73 cf129 6
theorem k58 : KOne Try.prog 71 ⟨[.v i64, .v i64, .v mat], [.bool], false, false, 0, cf58⟩ := ok71 _ _ _ (.cons k82 (.cons k73 (.cons k129 .nil))) cf58 fun x y h => ⟨6, h⟩
theorem g58_ok {p n : Int} {g : Mat} (hg : okM g = true) : cf58 (p, n, g, ()) = some (matB p n g, ()) := by
  simp only [cf58, fn71]
  rw [show cf82 (p, ()) = some (isP p, ()) from rfl, show cf73 (n, (1 : Int), (3 : Int), ()) = some (inR n, ()) from rfl]
  simp only
  unfold matB
  cases hP : isP p with
  | false => rfl
  | true =>
    cases hR : inR n with
    | false => rfl
    | true =>
      simp only [Bool.not_true, cond_false, Bool.true_and]
      rw [show ru71_4 cf82 cf73 cf129 6 = fun s kx => iter (fun s k => st71_4 cf82 cf73 cf129 (2 + 4) s k kx) (2 + 4) s from rfl]
      simp only
      rw [loop58 hg]
      cases hr : rngB p n g with
      | false => rfl
      | true =>
        simp only [cond_true]
        obtain ⟨M, hM⟩ := g129_ok hg hP (inR_cases hR) hr
        rw [hM]
        rfl
def c61 (p n : Int) (l : List Mat) : Option (Bool × Unit) := if l.length ≤ 1000000 ∧ l.all okM = true then some (l.all (matB p n) && (isP p && inR n), ()) else none
def cf61 : Args [.v i64, .v i64, .v (.slice 67 mat)] → Option R100 := fun x => c61 x.1 x.2.1 x.2.2.1
theorem all_split {l : List Mat} {f : Mat → Bool} {i : Nat} (hi : i < l.length) : (l.drop i).all f = (f l[i] && (l.drop (i + 1)).all f) := by
  rw [List.drop_eq_getElem_cons hi, List.all_cons]
theorem run61 {p n : Int} {l : List Mat} (hl : l.length ≤ 1000000) (ho : l.all okM = true) : fn100 cf131 cf87 cf82 (l.length + 1) (p, n, l, ()) = some (l.all (matB p n) && (isP p && inR n), ()) := by
  simp (disch := omega) only [fn100, dln_t, cond_true, ru100_2]
  have main : ∀ (k i F : Nat), i + k = l.length → k < F → iter (fun s k => st100_2 cf131 cf87 cf82 (l.length + 1) s k (fun s' => match s' with | ((t0, _), (t1, _), (t9, _), (t10, _), (t11, _), _) => (match (cf82 (t0, ())) with | some r14 => (bif r14.1 then (match (cf87 (t1, ())) with | some r15 => (some ((bif true then r15.1 else false), ())) | none => none) else (some (false, ()))) | none => none))) F ((p, ()), ((n, ()), ((l, ()), (((l.length : Nat) : Int), ()), (((i : Nat) : Int), ()), ()))) =
      some ((l.drop i).all (matB p n) && (isP p && inR n), ()) := by
    intro k
    induction k with
    | zero =>
      intro i F hi hF
      obtain ⟨F, rfl⟩ : ∃ f, F = f + 1 := ⟨F - 1, by omega⟩
      rw [iter_succ]
      simp (disch := omega) only [st100_2, dlt_f, cond_false]
      rw [List.drop_eq_nil_of_le (by omega)]
      simp only [List.all_nil, Bool.true_and]
      rw [show cf82 (p, ()) = some (isP p, ()) from rfl, show cf87 (n, ()) = some (inR n, ()) from rfl]
      cases isP p <;> rfl
    | succ k ih =>
      intro i F hi hF
      obtain ⟨F, rfl⟩ : ∃ f, F = f + 1 := ⟨F - 1, by omega⟩
      have hil : i < l.length := by omega
      have e : l.getD i (Ty.dflt (.arr 3 (.arr 3 (.int .u8)))) = l[i] := by simp [List.getD_eq_getElem?_getD, List.getElem?_eq_getElem hil]
      have g1 := g131_ok (p := p) (n := n) (List.all_eq_true.1 ho _ (List.getElem_mem hil))
      rw [iter_succ, all_split hil]
      have ih := ih (i + 1) F (by omega) (by omega)
      generalize iter _ F = G at ih ⊢
      simp (disch := omega) only [st100_2, dlt_t, cond_true, ib_t, ofn, tn_cast, e, g1]
      cases matB p n l[i] with
      | false => rfl
      | true =>
        simp (disch := omega) only [Bool.not_true, cond_false, w6_id, Bool.true_and]
        exact ih
  exact main l.length 0 (l.length + 1) (by omega) (by omega)
theorem k61 : KOne Try.prog 100 ⟨[.v i64, .v i64, .v (.slice 67 mat)], [.bool], false, false, 0, cf61⟩ := ok100 _ _ _ (.cons k131 (.cons k87 (.cons k86 .nil))) cf61 fun x y h => by
  obtain ⟨p, n, l, _⟩ := x
  simp only [cf61, c61] at h
  split at h
  · rename_i hc
    injection h with h; subst h
    exact ⟨_, run61 hc.1 hc.2⟩
  · cases h
end Go.Proofs.YtmdpmnjnpnjppaaEv
