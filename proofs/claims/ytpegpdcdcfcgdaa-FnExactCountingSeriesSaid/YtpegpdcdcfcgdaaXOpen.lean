/- What a law is handed reads as the plain data of the printed functions: whole numbers, structs of two and three fields, arrays of three, slices of these, nested. -/
import Derived.Test.YtpegpdcdcfcgdaaWWords
import Derived.OpenShut
import Derived.ProofKit
import Derived.Deep.Slices
import Derived.ChangeArms
namespace Go.Proofs.YtpegpdcdcfcgdaaX
open Go.RowKit Go.Proofs.YtpegpdcdcfcgdaaW.PrintWords
/-- A value of type t that can be read is of the kind d, and is good. -/
def Opens (P : Program) (t : TypeId) {α : Type} (d : Kd α) (good : α → Prop) : Prop :=
  d.sz = P.cellsOf t ∧ ∀ (H : Type) (enc : TypeId × Value → H) (w : World) (base : Nat) (spare : Nat → Bool) (held : Bool) (fuel : Nat) (cs : List Value) (x : DataW H × List MemPlace),
    DataW.trod enc P w base spare held fuel t cs = some x → ∃ y : α, d.K w y cs ∧ good y
section
variable {P : Program} {t : TypeId}
theorem opens_int {k : IntKind} (hu : P.underlying t = some (.int k)) (hc : P.cellsOf t = 1) : Opens P t (Kd.int k) (fun n => (Lit.int k n).wf = true) := by
  refine ⟨hc.symm, fun H enc w base spare held fuel cs x h => ?_⟩
  obtain ⟨n, rfl, _, hw⟩ := DataW.trod_int hu h
  exact ⟨n, rfl, hw⟩
theorem opens_iso {α β : Type} {d : Kd α} {good : α → Prop} (f : β → α) (g : α → β) (hfg : ∀ p, f (g p) = p) (h : Opens P t d good) : Opens P t (Kd.iso d f) (fun y => good (f y)) := by
  refine ⟨h.1, fun H enc w base spare held fuel cs x hx => ?_⟩
  obtain ⟨y, hk, hg⟩ := h.2 H enc w base spare held fuel cs x hx
  exact ⟨g y, by show d.K w (f (g y)) cs; rw [hfg]; exact hk, by show good (f (g y)); rw [hfg]; exact hg⟩
theorem split2 {cs : List Value} {a b : Nat} (h : cs.length = a + b) : cs = (cs.drop 0).take a ++ (cs.drop a).take b := by
  rw [List.drop_zero, List.take_of_length_le (l := cs.drop a) (by rw [List.length_drop]; omega), List.take_append_drop]
theorem split3 {cs : List Value} {a b c : Nat} (h : cs.length = a + (b + c)) : cs = (cs.drop 0).take a ++ ((cs.drop a).take b ++ (cs.drop (a + b)).take c) := by
  have h2 : cs.drop a = ((cs.drop a).drop 0).take b ++ ((cs.drop a).drop b).take c := split2 (by rw [List.length_drop]; omega)
  rw [List.drop_zero, List.drop_drop] at h2
  rw [← h2, List.drop_zero, List.take_append_drop]
theorem opens_struct2 {α β : Type} {f0 f1 : Field} {d0 : Kd α} {d1 : Kd β} {g0 : α → Prop} {g1 : β → Prop} (hu : P.underlying t = some (.struct #[f0, f1])) (o0 : f0.offset = 0) (o1 : f1.offset = P.cellsOf f0.type)
    (hs : P.cellsOf t = P.cellsOf f0.type + P.cellsOf f1.type) (h0 : Opens P f0.type d0 g0) (h1 : Opens P f1.type d1 g1) : Opens P t (Kd.pair d0 d1) (fun y => g0 y.1 ∧ g1 y.2) := by
  refine ⟨by show d0.sz + d1.sz = _; rw [h0.1, h1.1, hs], fun H enc w base spare held fuel cs x hx => ?_⟩
  obtain ⟨xs, n, _, _, hlen, hxl, hf⟩ := DataW.trod_struct hu hx
  have e0 := hf 0 f0 rfl
  have e1 := hf 1 f1 rfl
  have hxl' : xs.length = 2 := hxl
  rw [List.getElem?_eq_getElem (by omega)] at e0 e1
  rw [o0] at e0
  rw [o1] at e1
  obtain ⟨y0, k0, q0⟩ := h0.2 H enc w base spare held n _ _ e0
  obtain ⟨y1, k1, q1⟩ := h1.2 H enc w base spare held n _ _ e1
  exact ⟨(y0, y1), ⟨_, _, split2 (by rw [hlen, hs]), k0, k1⟩, q0, q1⟩
theorem opens_struct3 {α β γ : Type} {f0 f1 f2 : Field} {d0 : Kd α} {d1 : Kd β} {d2 : Kd γ} {g0 : α → Prop} {g1 : β → Prop} {g2 : γ → Prop} (hu : P.underlying t = some (.struct #[f0, f1, f2])) (o0 : f0.offset = 0) (o1 : f1.offset = P.cellsOf f0.type)
    (o2 : f2.offset = P.cellsOf f0.type + P.cellsOf f1.type) (hs : P.cellsOf t = P.cellsOf f0.type + (P.cellsOf f1.type + P.cellsOf f2.type)) (h0 : Opens P f0.type d0 g0) (h1 : Opens P f1.type d1 g1) (h2 : Opens P f2.type d2 g2) :
    Opens P t (Kd.pair d0 (Kd.pair d1 d2)) (fun y => g0 y.1 ∧ g1 y.2.1 ∧ g2 y.2.2) := by
  refine ⟨by show d0.sz + (d1.sz + d2.sz) = _; rw [h0.1, h1.1, h2.1, hs], fun H enc w base spare held fuel cs x hx => ?_⟩
  obtain ⟨xs, n, _, _, hlen, hxl, hf⟩ := DataW.trod_struct hu hx
  have e0 := hf 0 f0 rfl
  have e1 := hf 1 f1 rfl
  have e2 := hf 2 f2 rfl
  have hxl' : xs.length = 3 := hxl
  rw [List.getElem?_eq_getElem (by omega)] at e0 e1 e2
  rw [o0] at e0
  rw [o1] at e1
  rw [o2] at e2
  obtain ⟨y0, k0, q0⟩ := h0.2 H enc w base spare held n _ _ e0
  obtain ⟨y1, k1, q1⟩ := h1.2 H enc w base spare held n _ _ e1
  obtain ⟨y2, k2, q2⟩ := h2.2 H enc w base spare held n _ _ e2
  exact ⟨(y0, y1, y2), ⟨_, _, split3 (by rw [hlen, hs]), k0, _, _, rfl, k1, k2⟩, q0, q1, q2⟩
theorem opens_array3 {α : Type} {e : TypeId} {d : Kd α} {g : α → Prop} (hu : P.underlying t = some (.array 3 e)) (hs : P.cellsOf t = P.cellsOf e + (P.cellsOf e + P.cellsOf e)) (h : Opens P e d g) :
    Opens P t (Kd.pair d (Kd.pair d d)) (fun y => g y.1 ∧ g y.2.1 ∧ g y.2.2) := by
  refine ⟨by show d.sz + (d.sz + d.sz) = _; rw [h.1, hs], fun H enc w base spare held fuel cs x hx => ?_⟩
  obtain ⟨xs, n, _, _, hlen, hxl, hf⟩ := DataW.trod_array hu hx
  have e0 := hf 0 (by omega)
  have e1 := hf 1 (by omega)
  have e2 := hf 2 (by omega)
  rw [List.getElem?_eq_getElem (by omega)] at e0 e1 e2
  rw [Nat.zero_mul] at e0
  rw [Nat.one_mul] at e1
  rw [Nat.succ_mul, Nat.one_mul] at e2
  obtain ⟨y0, k0, q0⟩ := h.2 H enc w base spare held n _ _ e0
  obtain ⟨y1, k1, q1⟩ := h.2 H enc w base spare held n _ _ e1
  obtain ⟨y2, k2, q2⟩ := h.2 H enc w base spare held n _ _ e2
  exact ⟨(y0, y1, y2), ⟨_, _, split3 (by rw [hlen, hs]), k0, _, _, rfl, k1, k2⟩, q0, q1, q2⟩
/-- A row of elements, as the call is handed it. -/
theorem opens_slice {α : Type} {e : TypeId} {d : Kd α} {g : α → Prop} (hu : P.underlying t = some (.slice e)) (hc : P.cellsOf t = 1) (h : Opens P e d g) : Opens P t (Kd.slice e d) (fun ys => ys.length ≤ 9223372036854775807 ∧ ∀ y ∈ ys, g y) := by
  refine ⟨hc.symm, fun H enc w base spare held fuel cs x hx => ?_⟩
  rcases Go.Deep.open_slice hu hx with ⟨rfl, _⟩ | ⟨a, len, cap, m, n, D, Pl, rfl, hb, hl, hm, hmm, _, hi⟩
  · exact ⟨[], ⟨none, 0, rfl, Nat.le_refl _, rfl, by simp, fun hp => absurd hp (by simp)⟩, by simp, by simp⟩
  · have hlm : len ≤ m := by rw [hmm]; split <;> omega
    have hex : ∀ i : Fin len, ∃ y : α, (∃ c, w.cells? base (a.add (i.1 * P.cellsOf e)) (P.cellsOf e) = some c ∧ d.K w y c) ∧ g y := fun i => by
      obtain ⟨c, hc1, ht⟩ := hi i.1 (by omega)
      obtain ⟨y, hk, hg⟩ := h.2 H enc w base spare held n _ _ ht
      exact ⟨y, ⟨c, hc1, hk⟩, hg⟩
    have hlen : (List.ofFn fun i : Fin len => Classical.choose (hex i)).length = len := by simp
    refine ⟨List.ofFn fun i : Fin len => Classical.choose (hex i), ⟨some a, cap, by rw [hlen], by omega, hlen.trans hlen.symm, by unfold maxLen at hm; omega, fun _ => ⟨a, rfl, fun j p hj => ?_⟩⟩, by rw [hlen]; unfold maxLen at hm; omega, fun y hy => ?_⟩
    · have hjl : j < len := by have := (List.getElem?_eq_some_iff.1 hj).1; omega
      have hp : p = Classical.choose (hex ⟨j, hjl⟩) := by
        have := (List.getElem?_eq_some_iff.1 hj).2
        rw [← this]; simp
      obtain ⟨⟨c, hc1, hk⟩, _⟩ := Classical.choose_spec (hex ⟨j, hjl⟩)
      rw [← hp] at hk
      obtain ⟨_, hcl, hat⟩ := World.cells?_some hc1
      refine ⟨c, d.K_len hk, hk, fun i u hu2 => ?_⟩
      have hil : i < P.cellsOf e := by have := (List.getElem?_eq_some_iff.1 hu2).1; omega
      have h3 := hat i hil
      rw [hu2] at h3
      rw [h.1, ← Go.Deep.add_add]
      exact h3
    · rw [List.mem_ofFn] at hy
      obtain ⟨i, rfl⟩ := hy
      exact (Classical.choose_spec (hex i)).2
end
end Go.Proofs.YtpegpdcdcfcgdaaX
