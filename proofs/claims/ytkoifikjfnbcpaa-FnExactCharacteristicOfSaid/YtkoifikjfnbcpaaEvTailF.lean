/- A literal given a region of its own. -/
import Derived.Test.YtkoifikjfnbcpaaEvTailE
set_option linter.unusedVariables false
set_option linter.unusedSimpArgs false
namespace Go.Proofs.YtkoifikjfnbcpaaEv
open Go Go.RowKit

/-- The literal of slot s as a slice that may be written. -/
def nameLit (s : Nat) (env : Env) : Option Env :=
  match env.get s with
  | .lit e u pp => (match argE.litVal u pp, (bif u.flat then some ([], true) else takeIn (s * 16 + 1) pp.flatten [] true) with
    | some l, some (ms, ok) => bif !(Nat.beq s 0) && okTags (s * 16 + 1) ms (env.put s .dead) then
        some (((absorbAll (s * 16 + 1) ms (env.put s .dead)).map (killIf (Leaf.isRt (s * 16 + 1)))).put s (.val false [.rt e u (s * 16 + 1) false ok true l])) else none
    | _, _ => none)
  | _ => none

section
variable {P : Program} {T : TTab} {n : NS} {w0 w : World} {W : Nat → Prop} {g : Gh} {get : Nat → Ent} {a : Act} {d : Nat}

theorem put_same {a : Act} {s : Nat} : a.put (some s) (a.tmps.getD s undef) = a := by
  cases a with
  | mk tmps defers =>
    simp only [Act.put]
    congr 1
    apply Array.ext_getElem?
    intro j
    rw [Array.getElem?_setIfInBounds]
    by_cases h : s = j
    · subst h
      rw [if_pos rfl]
      by_cases hs : s < tmps.size
      · rw [if_pos hs, Array.getD_eq_getD_getElem?, Array.getElem?_eq_getElem hs]; rfl
      · rw [if_neg hs, Array.getElem?_eq_none (by omega)]
    · rw [if_neg h]

theorem nameLit_sound {s : Nat} {env env' : Env} (hwal : ∀ b, W b → g.al b) (st : St n w0 W g env.get a w) (h : nameLit s env = some env') : ∃ g', g'.al = g.al ∧ St n w0 W g' env'.get a w := by
  unfold nameLit at h
  split at h
  · rename_i e u pp hget
    split at h
    · rename_i l ms ok hl htake
      cases hok : (!(Nat.beq s 0) && okTags (s * 16 + 1) ms (env.put s .dead)) with
      | false => rw [hok] at h; cases h
      | true =>
        rw [hok] at h; simp only [cond_true, Option.some.injEq] at h
        subst h
        have hs0 : s ≠ 0 := by
          simp only [Bool.and_eq_true, Bool.not_eq_true'] at hok
          exact nbeq_ne hok.1
        replace hok : okTags (s * 16 + 1) ms (env.put s .dead) = true := by
          simp only [Bool.and_eq_true] at hok; exact hok.2
        generalize hkk : s * 16 + 1 = k at *
        simp only [okTags, Bool.and_eq_true, List.all_eq_true, Bool.not_eq_true'] at hok
        obtain ⟨⟨hk0, hkl⟩, hms⟩ := hok
        have hk0 := nbeq_ne hk0
        have hkms : k ∉ ms := fun hk => nbeq_ne (hms k hk).1.2 rfl
        have he := st.ent s
        rw [hget] at he
        have hs : n.has s := by
          refine ⟨?_, fun _ => hs0⟩
          rcases Nat.lt_or_ge s n.n with q | q
          · exact q
          · obtain ⟨b, c, bs, h1, _⟩ := he
            rw [Array.getD_eq_getD_getElem?, Array.getElem?_eq_none (by rw [st.sz.1]; exact q)] at h1
            cases h1
        have st0 : St n w0 W g (env.put s .dead).get a w := st.kill fun s' => by
          rw [Env.get_put]
          by_cases q : s' = s
          · rw [if_pos q]; exact .inr rfl
          · rw [if_neg q]; exact .inl rfl
        obtain ⟨st1, ar⟩ := absorbAll_sound hk0 hwal st0 (fun m hm => ⟨nbeq_ne (hms m hm).1.1, nbeq_ne (hms m hm).1.2, (hms m hm).2⟩)
        obtain ⟨b, c, bs, h1, h2, h3, h4, h5, h6, h7⟩ := he
        rw [hkk] at h4 h5
        obtain ⟨r1, r2⟩ := lit_rd h6 hl
        have hz : ∀ (pp : List (List Leaf)) (cs : List Value) (bs : List Nat), PartsB g w.heap u.size pp cs bs → cs.length = pp.length * u.size → ∀ ls ∈ pp, sizes ls = u.size := by
          intro pp
          induction pp with
          | nil => intro cs bs _ _ ls hls; cases hls
          | cons x r ih =>
            rintro cs bs ⟨b1, b2, k1, k2, k3⟩ hl ls hls
            simp only [List.length_cons, Nat.succ_mul] at hl
            rcases List.mem_cons.1 hls with rfl | hls
            · have := k1.length; rw [← this]; simp; omega
            · exact ih _ _ k2 (by simp; omega) ls hls
        have take : (∀ b ∈ bs, g.kd b = .fz ∨ ∃ m ∈ ms, g.kd b = .mu m) ∧ (ok = true → bs.Nodup ∧ ∀ b ∈ bs, g.own b ∈ ms) := by
          cases hf : u.flat with
          | true =>
            rw [hf] at htake; simp only [cond_true, Option.some.injEq, Prod.mk.injEq] at htake
            have : bs = [] := r1.flat fun x cs b hx => hx.flat hf
            subst this; exact ⟨by simp, fun _ => ⟨by simp, by simp⟩⟩
          | false =>
            rw [hf] at htake
            obtain ⟨q1, q2⟩ := takeIn_sound (parts_flat (hz _ _ _ h6 (by simpa using h3)) h6) htake
            exact ⟨q1, fun hh => ⟨(q2 hh).1, fun b hb => ((q2 hh).2 b hb).1⟩⟩
        let g2 : Gh := { Gh.absorbs k ms g with H := fun t => if t = k then a.tmps.getD s undef else (Gh.absorbs k ms g).H t }
        refine ⟨g2, ar.al, ?_⟩
        have hv : a.tmps.getD s undef = .slice (some ⟨b, 0, none⟩) l.length l.length := by rw [h1, r2]
        have hlf : LeafB g2 w.heap (.rt e u k false ok true l) [a.tmps.getD s undef] ([b] ++ bs) := by
          refine ⟨_, some b, bs, rfl, rfl, fun _ => by simp [g2], fun _ => ?_, .inr ⟨b, 0, l.length, c, (0, 0), hv, rfl, Nat.le_refl _, h2, by rw [r2]; omega, by simpa using r1⟩, fun y hy => ?_, fun y hy => ?_, fun hh => ⟨fun y hy => ?_, (take.2 hh).1⟩⟩
          · rw [hv]
            constructor
            · intro q; cases q
            · intro q; subst q; simp at r2; omega
          · rcases take.1 y hy with q | ⟨m, q1, q2⟩
            · exact ar.fz y q
            · exact ar.inn y m q2 q1
          · injection hy with hy; subst hy
            exact ⟨ar.mu b k h4 hkms, by show (Gh.absorbs k ms g).own b = k; rw [ar.own' b (by rw [h5]; exact hkms)]; exact h5, c, h2⟩
          · exact ar.own y ((take.2 hh).2 y hy)
        have key := st1.putK (d := s) (g' := g2) (w' := w) (k := k) (e := .val false [.rt e u k false ok true l]) (v := a.tmps.getD s undef) hs
          ⟨Nat.le_refl _, fun _ _ _ => rfl, fun _ _ => rfl, fun _ _ => rfl, fun t ht => if_neg ht, rfl⟩ ⟨st1.inv.size, st1.inv.old, st1.inv.kd, st1.inv.no, st1.inv.al, st1.inv.own, st1.inv.wr⟩ rfl rfl rfl (by rw [litTag_all]; exact hkl)
          (LeafB.val1 hlf (by rw [hv]; rfl) s)
        rw [put_same] at key; exact key
    · cases h
  · cases h

end
end Go.Proofs.YtkoifikjfnbcpaaEv
