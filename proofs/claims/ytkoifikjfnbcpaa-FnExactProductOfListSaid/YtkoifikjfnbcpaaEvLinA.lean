/- Sums over lists; what is left of a row, told by sums. -/
import Derived.Test.YtkoifikjfnbcpaaEvLin
set_option linter.unusedVariables false
set_option linter.unusedSimpArgs false
namespace Go.Proofs.YtkoifikjfnbcpaaEv
open Go Go.RowKit

def lsum {α : Type} (f : α → Int) : List α → Int
  | [] => 0
  | x :: r => f x + lsum f r
theorem lsum_perm {α : Type} {f : α → Int} {a b : List α} (h : a.Perm b) : lsum f a = lsum f b := by
  induction h with
  | nil => rfl
  | cons x _ ih => simp only [lsum, ih]
  | swap x y l => simp only [lsum]; omega
  | trans _ _ ih1 ih2 => exact ih1.trans ih2
theorem lsum_congr {α : Type} {f g : α → Int} : ∀ {l : List α}, (∀ x ∈ l, f x = g x) → lsum f l = lsum g l
  | [], _ => rfl
  | x :: r, h => by simp only [lsum]; rw [h x (.head _), lsum_congr fun y hy => h y (.tail _ hy)]

section
variable {p : Int} {m : Nat}

theorem rest_el (hp : 0 < p) : ∀ {out : List (List Int)} {r : List Int}, (∀ o ∈ out, Can p m o) → (out.Pairwise fun a b => el a (ld b) = 0 ∧ el b (ld a) = 0) → Can p m r → ∀ i, el (rest p out r) i = (el r i - lsum (fun o => el r (ld o) * el o i) out) % p
  | [], r, _, _, hr, i => by simp only [rest, lsum, Int.sub_zero]; exact (hr.mod i).symm
  | o :: os, r, hc, hz, hr, i => by
    have ho := hc o (.head _)
    have hz' := List.pairwise_cons.1 hz
    simp only [rest, lsum]
    rw [rest_el hp (fun x hx => hc x (.tail _ hx)) hz'.2 (Can.subm hp hr.len ho.len) i]
    have e : lsum (fun x => el (subm p (el r (ld o)) r o) (ld x) * el x i) os = lsum (fun x => el r (ld x) * el x i) os := by
      refine lsum_congr fun x hx => ?_
      rw [el_subm (by rw [hr.len, ho.len]), (hz'.1 x hx).1, Int.mul_zero, Int.sub_zero, hr.mod]
    rw [e, el_subm (by rw [hr.len, ho.len]), Int.emod_sub_emod]
    congr 1; omega

theorem RR.apart {out : List (List Int)} (rr : RR p m out) : out.Pairwise fun a b => el a (ld b) = 0 ∧ el b (ld a) = 0 :=
  rr.ord.imp fun h => ⟨h.2, ld_zero _ _ h.1⟩
theorem apart_perm {a b : List (List Int)} (h : a.Perm b) (rr : RR p m b) : a.Pairwise fun a b => el a (ld b) = 0 ∧ el b (ld a) = 0 :=
  (h.pairwise_iff (R := fun a b : List Int => el a (ld b) = 0 ∧ el b (ld a) = 0) (fun h => ⟨h.2, h.1⟩)).2 rr.apart

theorem rest_perm (hp : 0 < p) {a b : List (List Int)} {r : List Int} (h : a.Perm b) (rr : RR p m b) (hr : Can p m r) : rest p a r = rest p b r := by
  have ca : ∀ o ∈ a, Can p m o := fun o ho => rr.can o (h.mem_iff.1 ho)
  refine row_ext (by rw [(rest_can hp ca hr).len, (rest_can hp rr.can hr).len]) fun i => ?_
  rw [rest_el hp ca (apart_perm h rr) hr, rest_el hp rr.can rr.apart hr, lsum_perm h]

theorem ins_perm {own : List Int} {at_ : Nat} : ∀ {b : List (List Int)}, (ins p own at_ b).Perm (b.map (red p own at_) ++ [own])
  | [] => .refl _
  | o :: os => by
    simp only [ins]
    split
    · exact (List.perm_append_comm (l₁ := [own]) (l₂ := (o :: os).map (red p own at_)))
    · simp only [List.map_cons, List.cons_append]
      exact (ins_perm (b := os)).cons _

/-- One row more, as the program keeps them. -/
def takeL (p : Int) (out : List (List Int)) (r : List Int) : List (List Int) :=
  if ld (rest p out r) = (rest p out r).length then out else out.map (red p (scl p (inv p (el (rest p out r) (ld (rest p out r)))) (rest p out r)) (ld (rest p out r))) ++ [scl p (inv p (el (rest p out r) (ld (rest p out r)))) (rest p out r)]

theorem take_perm (hp : 0 < p) {a b : List (List Int)} {r : List Int} (h : a.Perm b) (rr : RR p m b) (hr : Can p m r) : (takeL p a r).Perm (stepR p b r) := by
  unfold takeL stepR
  rw [rest_perm hp h rr hr]
  split
  · exact h
  · exact ((h.map _).append_right _).trans ins_perm.symm

theorem takeL_len {out : List (List Int)} {r : List Int} : (takeL p out r).length ≤ out.length + 1 := by
  unfold takeL; split
  · omega
  · simp

end
end Go.Proofs.YtkoifikjfnbcpaaEv
