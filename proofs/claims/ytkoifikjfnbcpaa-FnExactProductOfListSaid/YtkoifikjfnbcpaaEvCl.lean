/- slices.Clone returns the list, in memory of its own. No condition but the length. -/
import Derived.Test.YtkoifikjfnbcpaaEvTst
set_option linter.unusedVariables false
set_option linter.unusedSimpArgs false
namespace Go.Proofs.YtkoifikjfnbcpaaEv
open Go Go.RowKit

abbrev R91 : Type := Ress [.slice 2 i64]
abbrev G91 : Type := Args [.v (.slice 2 i64)] → Option R91
def cf91 : G91 := fun x => if x.1.length ≤ 1000000 then some (x.1, ()) else none
theorem k91 : KOne Try.prog 91 ⟨[.v (.slice 2 i64)], [.slice 2 i64], true, false, 0, cf91⟩ := by
  refine ⟨fun _ => ?_, fun q => (by cases q), fun q => (by cases q), Try.f91, Try.func91, by decide, rfl⟩
  intro x y hxy w vs ba hv
  obtain ⟨l, _⟩ := x
  simp only [cf91] at hxy
  split at hxy
  · rename_i hc
    injection hxy with hxy; subst hxy
    have st0 := init_St (n := 8) hv (by decide)
    refine calls_of_wp Try.func91 rfl (wp_seq ?_)
    refine evL_sound (T := TT) (K := []) (H := []) (LT := ([] : LTab Env)) (A := fun b => b ∈ ba) (W := fun _ => False) (y := [(0, .val false [.fz (.slice 2 i64) 0 true l]), (2, .val false [.rt 2 i64 33 false true true []])]) (kn := some) (kx := fun _ _ => none) (kr := fun _ => none) mixed tt_ok KOK.nil (fun b hb => (by cases hb)) (by kernel_rfl) (by exact trivial) (by kernel_rfl) st0 rfl (fun env' a' w' g' q1 q2 q3 => ?_) (fun _ _ _ _ _ q => (by cases q)) (fun _ _ _ _ q => (by cases q))
    injection q1 with q1; subst q1
    have he : EntR g' w'.heap 0 (.val false [.fz (.slice 2 i64) 0 true l]) (a'.tmps.getD 0 undef) := q2.ent 0
    obtain ⟨bs, hl, hcc⟩ := val1 he
    obtain ⟨⟨hd, blk, bs', h1, h2, h3⟩, _⟩ := hl
    injection h1 with h1 _; subst h1
    obtain ⟨b, hb, hn⟩ : ∃ b : Bool, (∀ (o : Oper) (a : Act), o.op = .binOp .eql 24 (.tmp 3) (.const (.slice none 0 0)) 24 → a.tmps.getD 3 undef = a'.tmps.getD 0 undef → (execOp a.eval o).run Try.prog w' = .ok (.value (.bool b)) w') ∧ (b = true → l = []) := by
      generalize a'.tmps.getD 0 undef = v at h2
      obtain ⟨p, len, cap, rfl, hp⟩ : ∃ p len cap, v = .slice p len cap ∧ (p = none → l = []) := by
        rcases h2 with ⟨p, rfl, q, _⟩ | ⟨b, o, cap, c, fr, rfl, _⟩
        · exact ⟨p, 0, 0, rfl, fun _ => q⟩
        · exact ⟨_, _, _, rfl, fun q => (by cases q)⟩
      refine ⟨p.isNone, fun o a ho ha => ?_, fun q => hp (by cases p with | none => rfl | some _ => cases q)⟩
      have eq : (Op.equal 24 (.slice p len cap) (.slice none 0 0)).run Try.prog w' = .ok p.isNone w' := by
        have one : ∀ d, (Op.equalIn (d + 1) 24 (.slice p len cap) (.slice none 0 0)).run Try.prog w' = .ok p.isNone w' := fun d => by
          have hu := (tt_ok 24 (.slice 2 i64) (by kernel_rfl)).und
          cases p <;> simp only [Op.equalIn, Sem.run_bind, run_underlying hu.1, Result.andThen_ok, Sem.run_pure] <;> rfl
        exact one 9999
      have e1 : a.eval (.tmp 3) = .slice p len cap := ha
      have e2 : a.eval (.const (.slice none 0 0)) = .slice none 0 0 := rfl
      have run : (eqGuard .eql 24 (.tmp 3) (.const (.slice none 0 0)) (.slice p len cap) (.slice none 0 0)).run Try.prog w' = .ok () w' := by simp [eqGuard, Result.andThen]
      simp only [execOp, ho, e1, e2, Sem.run_bind, run, Sem.run_pure, Result.andThen_ok, binOp, eq]
    refine wp_seq (wp_seq (wp_region ?_))
    have st1 := St.putA q2 (d := 3) (e := .dead) (v := a'.tmps.getD 0 undef) ⟨by decide, fun q => (by cases q)⟩ trivial
    have st2 := St.putA st1 (d := 4) (e := boolE b) (v := .bool b) ⟨by decide, fun q => (by cases q)⟩ (boolE_sound (s := 4))
    refine .inl (upon_val (v := a'.tmps.getD 0 undef) (w' := w') rfl ?_)
    refine .inl (upon_val (v := .bool b) (w' := w') (hb _ _ rfl ?_) ?_)
    · show (a'.put (some 3) (a'.tmps.getD 0 undef)).tmps.getD 3 undef = _
      have sz := q2.sz.1
      simp only [Act.put]
      rw [Array.getD_eq_getD_getElem?, Array.getElem?_setIfInBounds_self_of_lt (by rw [sz]; decide)]; rfl
    · have hev : ((a'.put (some 3) (a'.tmps.getD 0 undef)).put (some 4) (.bool b)).eval (.tmp 4) = .bool b := by
        have : EntR g' w'.heap 4 (boolE b) (((a'.put (some 3) (a'.tmps.getD 0 undef)).put (some 4) (.bool b)).tmps.getD 4 undef) := by
          have z := st2.ent 4
          rw [show upd (upd (Env.get [(0, .val false [.fz (.slice 2 i64) 0 true l]), (2, .val false [.rt 2 i64 33 false true true []])]) 3 .dead) 4 (boolE b) 4 = boolE b from if_pos rfl] at z
          exact z
        obtain ⟨bs4, hl4, _⟩ := val1 this
        obtain ⟨⟨z, _⟩, _⟩ := hl4
        injection z
      refine wp_cond (t := b) hev ?_
      cases b with
      | true =>
        have hl0 : l = [] := hn rfl
        subst hl0
        have ee : upd (upd (Env.get [(0, .val false [.fz (.slice 2 i64) 0 true []]), (2, .val false [.rt 2 i64 33 false true true []])]) 3 .dead) 4 (boolE true) = Env.get [(0, .val false [.fz (.slice 2 i64) 0 true []]), (2, .val false [.rt 2 i64 33 false true true []]), (4, boolE true)] := by
          funext s
          simp only [upd]
          match s with
          | 0 | 1 | 2 | 3 | 4 => rfl
          | s + 5 => rfl
        rw [ee] at st2
        exact evL_sound (T := TT) (K := []) (H := []) (LT := ([] : LTab (Ress [.slice 2 i64]))) (A := fun b => b ∈ ba) (W := fun _ => False) (y := ([], ())) (kn := fun _ => none) (kx := fun _ _ => none) (kr := endK TT [.tmp 2] [.slice 2 i64] true false) mixed tt_ok KOK.nil (fun b hb => (by cases hb)) (by kernel_rfl) (by exact ⟨trivial, trivial⟩) (by kernel_rfl) st2 q3 (fun _ _ _ _ q => (by cases q)) (fun _ _ _ _ _ q => (by cases q)) (fun env' a' w' g' q1 q2 q3 => After_of (C := ⟨[.v (.slice 2 i64)], [.slice 2 i64], true, false, 0, cf91⟩) tt_ok q2 q3 q1)
      | false =>
        have ee : upd (upd (Env.get [(0, .val false [.fz (.slice 2 i64) 0 true l]), (2, .val false [.rt 2 i64 33 false true true []])]) 3 .dead) 4 (boolE false) = Env.get [(0, .val false [.fz (.slice 2 i64) 0 true l]), (2, .val false [.rt 2 i64 33 false true true []]), (4, boolE false)] := by
          funext s
          simp only [upd]
          match s with
          | 0 | 1 | 2 | 3 | 4 => rfl
          | s + 5 => rfl
        rw [ee] at st2
        refine wp_skip ?_
        have hg : growOk 0 l.length = true := decide_eq_true (by omega)
        exact evL_sound (T := TT) (K := []) (H := []) (LT := ([] : LTab (Ress [.slice 2 i64]))) (A := fun b => b ∈ ba) (W := fun _ => False) (y := (l, ())) (kn := fun _ => none) (kx := fun _ _ => none) (kr := endK TT [.tmp 2] [.slice 2 i64] true false) mixed tt_ok KOK.nil (fun b hb => (by cases hb)) (by kernel_rfl) (by exact ⟨trivial, trivial⟩) ((show _ = (bif growOk 0 l.length then some (l, ()) else none) by kernel_rfl).trans (by rw [hg]; rfl)) st2 q3 (fun _ _ _ _ q => (by cases q)) (fun _ _ _ _ _ q => (by cases q)) (fun env' a' w' g' q1 q2 q3 => After_of (C := ⟨[.v (.slice 2 i64)], [.slice 2 i64], true, false, 0, cf91⟩) tt_ok q2 q3 q1)
  · cases hxy

abbrev R173 : Type := Ress [.slice 24 (.slice 2 i64)]
abbrev G173 : Type := Args [.v (.slice 24 (.slice 2 i64)), .fn 174] → Option R173
end Go.Proofs.YtkoifikjfnbcpaaEv
