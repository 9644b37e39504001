/- The order of a polynomial's terms, and slices.SortFunc by it. -/
import Derived.Test.YtkoifikjfnbcpaaEvFe
import Derived.Test.YtkoifikjfnbcpaaEvSh
import Derived.Test.YtkoifikjfnbcpaaEvME
set_option linter.unusedVariables false
set_option linter.unusedSimpArgs false
namespace Go.Proofs.YtkoifikjfnbcpaaEv
open Go Go.RowKit Go.Proofs

theorem w6_i {x : Int} (h0 : -9223372036854775808 ≤ x) (h1 : x ≤ 9223372036854775807) : w6 x = x := by
  simp [w6, IntKind.wrap, IntKind.bits, IntKind.signed]; split <;> omega
def okN (a b c : Int) : Prop := (0 ≤ a ∧ a ≤ 255) ∧ (0 ≤ b ∧ b ≤ 255) ∧ (0 ≤ c ∧ c ≤ 255)
instance (a b c : Int) : Decidable (okN a b c) := by unfold okN; exact inferInstance
def key3 (a b c : Int) : Int := (a + b + c) * 65536 + (255 - a) * 256 + (255 - b)
def cmp3 (a b c a' b' c' : Int) : Int := if (a + b + c) - (a' + b' + c') = 0 then (if a = a' then b' - b else a' - a) else (a + b + c) - (a' + b' + c')
theorem cmp3_key {a b c a' b' c' : Int} (ha : okN a b c) (hb : okN a' b' c') : cmp3 a b c a' b' c' < 0 ↔ key3 a b c < key3 a' b' c' := by
  unfold okN at ha hb
  unfold cmp3 key3
  split
  · split <;> omega
  · omega
theorem key3_inj {a b c a' b' c' : Int} (ha : okN a b c) (hb : okN a' b' c') (h : key3 a b c = key3 a' b' c') : a = a' ∧ b = b' ∧ c = c' := by
  unfold okN at ha hb
  unfold key3 at h
  omega
/-- The exponents are bytes. -/
def okX (e : ex.den) : Prop := okN e.1 e.2.1 e.2.2.1
instance (e : ex.den) : Decidable (okX e) := by unfold okX; exact inferInstance
def degX (e : ex.den) : Int := @HAdd.hAdd Int Int Int _ (@HAdd.hAdd Int Int Int _ e.1 e.2.1) e.2.2.1
/-- The number by which terms are ordered. -/
def keyX (e : ex.den) : Int := key3 e.1 e.2.1 e.2.2.1
theorem keyX_inj {a b : ex.den} (ha : okX a) (hb : okX b) (h : keyX a = keyX b) : a = b := by
  obtain ⟨a0, a1, a2, _⟩ := a
  obtain ⟨b0, b1, b2, _⟩ := b
  obtain ⟨h1, h2, h3⟩ := key3_inj (a := a0) (b := a1) (c := a2) (a' := b0) (b' := b1) (c' := b2) ha hb h
  subst h1; subst h2; subst h3; rfl
def cmpX (a b : ex.den) : Int := cmp3 a.1 a.2.1 a.2.2.1 b.1 b.2.1 b.2.2.1
theorem cmpX_key {a b : ex.den} (ha : okX a) (hb : okX b) : cmpX a b < 0 ↔ keyX a < keyX b := cmp3_key ha hb

theorem run159 (a b c : Int) (h : okN a b c) : fn159 0 ((a, b, c, ()), ()) = some ((a + b + c : Int), ()) := by
  unfold okN at h
  show some (w6 (w6 (w6 a + w6 b) + w6 c), ()) = _
  rw [w6_i (x := a) (by omega) (by omega), w6_i (x := b) (by omega) (by omega), w6_i (x := c) (by omega) (by omega), w6_i (x := a + b) (by omega) (by omega), w6_i (by omega) (by omega)]
def cf159 : G159 := fun x => if okX x.1 then some (degX x.1, ()) else none
theorem k159 : KOne Try.prog 159 ⟨[.v ex], [i64], false, false, 0, cf159⟩ := ok159 .nil cf159 fun x y h => by
  obtain ⟨e, _⟩ := x
  simp only [cf159] at h
  split at h
  · rename_i hc
    injection h with h; subst h
    exact ⟨0, run159 e.1 e.2.1 e.2.2.1 hc⟩
  · cases h

theorem run151 (a b c a' b' c' : Int) (h : okN a b c) (h' : okN a' b' c') (e1 : cf159 ((a, b, c, ()), ()) = some ((a + b + c : Int), ())) (e2 : cf159 ((a', b', c', ()), ()) = some ((a' + b' + c' : Int), ())) :
    fn151 cf159 0 ((a, b, c, ()), (a', b', c', ()), ()) = some ((cmp3 a b c a' b' c' : Int), ()) := by
  unfold okN at h h'
  simp only [fn151, e1, e2]
  show (bif !decide (w6 ((a + b + c) - (a' + b' + c')) = 0) then some (w6 ((a + b + c) - (a' + b' + c')), ()) else bif !decide (a = a') then some (w6 (w6 a' - w6 a), ()) else some (w6 (w6 b' - w6 b), ())) = _
  rw [w6_i (x := (a + b + c) - (a' + b' + c')) (by omega) (by omega), w6_i (x := a) (by omega) (by omega), w6_i (x := a') (by omega) (by omega), w6_i (x := b) (by omega) (by omega), w6_i (x := b') (by omega) (by omega), w6_i (x := a' - a) (by omega) (by omega), w6_i (x := b' - b) (by omega) (by omega)]
  unfold cmp3
  clear e1 e2
  generalize (a + b + c) - (a' + b' + c') = D
  by_cases h1 : D = 0
  · by_cases h2 : a = a' <;> simp [h1, h2]
  · simp [h1]
def cf151 : G151 := fun x => if okX x.1 ∧ okX x.2.1 then some (cmpX x.1 x.2.1, ()) else none
theorem k151 : KOne Try.prog 151 ⟨[.v ex, .v ex], [i64], false, false, 0, cf151⟩ := ok151 _ (.cons k159 .nil) cf151 fun x y h => by
  obtain ⟨a, b, _⟩ := x
  simp only [cf151] at h
  split at h
  · rename_i hc
    injection h with h; subst h
    have e1 : cf159 (a, ()) = some (degX a, ()) := if_pos hc.1
    have e2 : cf159 (b, ()) = some (degX b, ()) := if_pos hc.2
    exact ⟨0, run151 a.1 a.2.1 a.2.2.1 b.1 b.2.1 b.2.2.1 hc.1 hc.2 e1 e2⟩
  · cases h
def cf150 : G150 := fun x => if okX x.1.1 ∧ okX x.2.1.1 then some (cmpX x.1.1 x.2.1.1, ()) else none
theorem k150 : KOne Try.prog 150 ⟨[.v term, .v term], [i64], false, false, 0, cf150⟩ := ok150 _ (.cons k151 .nil) cf150 fun x y h => by
  obtain ⟨a, b, _⟩ := x
  simp only [cf150] at h
  split at h
  · rename_i hc
    injection h with h; subst h
    refine ⟨0, ?_⟩
    have e1 : cf151 (a.1, b.1, ()) = some (cmpX a.1 b.1, ()) := if_pos hc
    simp only [fn150, e1]
  · cases h

def keyT3 (t : term.den) : Int := keyX t.1
abbrev R149 : Type := Ress [.slice 135 term]
abbrev G149 : Type := Args [.v (.slice 135 term), .fn 150] → Option R149
noncomputable def cf149 : G149 := by
  classical exact fun x => if x.1.length ≤ 1000000 ∧ (∀ r ∈ x.1, okX r.1) ∧ (x.1.map keyT3).Nodup then some (sortK keyT3 x.1, ()) else none
theorem k149 : KOne Try.prog 149 ⟨[.v (.slice 135 term), .fn 150], [.slice 135 term], false, false, 1, cf149⟩ := by
  refine ⟨fun q => (by cases q), fun _ => ?_, fun q => (by cases q), Try.f149, Try.func149, by decide, rfl⟩
  have eg : ∀ args w, (callFunc 150 args).run Try.prog w = .ok (.enter 150 args) w := fun args w => by
    have := Try.func150
    simp only [callFunc, Sem.run_bind, run_program, Result.andThen_ok, this]
    rw [if_neg (by decide), if_neg (by decide)]; rfl
  exact sortStr_ok (ρ := Try.l149_ren) (good := fun r : term.den => okX r.1) (cf := fun a b : term.den => cmpX a.1 b.1) (key := keyT3) (u := term) Try.l149 rfl Try.isAgg135 Try.sizeOf135 (k150.ok rfl) (fun a b ha hb => if_pos ⟨ha, hb⟩) (fun a b ha hb => cmpX_key ha hb) eg fun x y h => by
    simp only [cf149] at h
    split at h
    · rename_i hc
      injection h with h; subst h
      exact ⟨hc.1, hc.2.1, hc.2.2, rfl⟩
    · cases h
theorem g149_ok {l : List term.den} (h1 : l.length ≤ 1000000) (h2 : ∀ r ∈ l, okX r.1) (h3 : (l.map keyT3).Nodup) : cf149 (l, (), ()) = some (sortK keyT3 l, ()) := if_pos ⟨h1, h2, h3⟩

end Go.Proofs.YtkoifikjfnbcpaaEv
