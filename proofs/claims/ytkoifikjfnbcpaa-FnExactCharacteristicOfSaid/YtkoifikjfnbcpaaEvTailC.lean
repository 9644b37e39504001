/- Appending, at the state. -/
import Derived.Test.YtkoifikjfnbcpaaEvTailB
set_option linter.unusedVariables false
set_option linter.unusedSimpArgs false
namespace Go.Proofs.YtkoifikjfnbcpaaEv
open Go Go.RowKit

section
variable {P : Program} {T : TTab} {n : NS} {w0 w : World} {W : Nat → Prop} {g : Gh} {get : Nat → Ent} {a : Act} {d : Nat}

/-- Only the slice of region k is another. -/
structure ExtK (k : Nat) (g : Gh) (h : Mem) (g' : Gh) (h' : Mem) : Prop where
  size : h.size ≤ h'.size
  blk : ∀ b, b < h.size → g.kd b ≠ .mu k → h'[b]? = h[b]?
  kd : ∀ b, b < h.size → g'.kd b = g.kd b
  own : ∀ b, b < h.size → g'.own b = g.own b
  H : ∀ t, t ≠ k → g'.H t = g.H t
  bx : g'.bx = g.bx

theorem LeafB.extK {k : Nat} {g' : Gh} {h h' : Mem} (x : ExtK k g h g' h') {l : Leaf} {cs : List Value} {bs : List Nat} (hl : LeafB g h l cs bs) (hd : l.isRt k = false) : LeafB g' h' l cs bs := by
  have hne : ∀ b ∈ bs, g.kd b ≠ .mu k := by
    cases l with
    | fz t reg lin v => intro b hb q; rw [hl.2.1 b hb] at q; cases q
    | rt e t tag sub lin st v =>
      have ht : tag ≠ k := nbeq_ne hd
      obtain ⟨hd', blk, bs', rfl, rfl, _, _, _, h4, h5, _⟩ := hl
      intro b hb q
      rcases List.mem_append.1 hb with hb | hb
      · rw [(h5 b (by simpa using hb)).1] at q; injection q with q; exact ht q
      · rw [h4 b hb] at q; cases q
  refine hl.same (fun b m => x.blk b (hl.lt b m) (hne b m)) (fun b m => x.kd b (hl.lt b m)) (fun b m => x.own b (hl.lt b m)) (fun e t tag sub lin st v he _ => ?_)
  subst he; exact x.H _ (nbeq_ne hd)

theorem LeavesB.extK {k : Nat} {g' : Gh} {h h' : Mem} (x : ExtK k g h g' h') : ∀ {ls : List Leaf} {cs : List Value} {bs : List Nat}, LeavesB g h ls cs bs → ls.any (Leaf.isRt k) = false → LeavesB g' h' ls cs bs
  | [], _, _, hl, _ => hl
  | l :: r, cs, bs, ⟨b1, b2, h1, h2, h3⟩, hd => by
    simp only [List.any_cons, Bool.or_eq_false_iff] at hd
    exact ⟨b1, b2, h1.extK x hd.1, LeavesB.extK x h2 hd.2, h3⟩
theorem PartsB.extK {k : Nat} {g' : Gh} {h h' : Mem} (x : ExtK k g h g' h') {m : Nat} : ∀ {ls : List (List Leaf)} {cs : List Value} {bs : List Nat}, PartsB g h m ls cs bs → (ls.any fun l => l.any (Leaf.isRt k)) = false → PartsB g' h' m ls cs bs
  | [], _, _, hl, _ => hl
  | l :: r, cs, bs, ⟨b1, b2, h1, h2, h3⟩, hd => by
    simp only [List.any_cons, Bool.or_eq_false_iff] at hd
    exact ⟨b1, b2, h1.extK x hd.1, PartsB.extK x h2 hd.2, h3⟩
theorem ValR.extK {k : Nat} {g' : Gh} {h h' : Mem} (x : ExtK k g h g' h') {agg : Bool} {ls : List Leaf} {v : Value} (hv : ValR g h agg ls v) (hd : ls.any (Leaf.isRt k) = false) : ValR g' h' agg ls v := by
  obtain ⟨cs, bs, h1, h2, h3⟩ := hv; exact ⟨cs, bs, h1, h2, h3.extK x hd⟩
theorem ValsR.extK {k : Nat} {g' : Gh} {h h' : Mem} (x : ExtK k g h g' h') : ∀ {ls : List (Bool × List Leaf)} {vs : List Value}, ValsR g h ls vs → (ls.any fun p => p.2.any (Leaf.isRt k)) = false → ValsR g' h' ls vs
  | [], _, hl, _ => hl
  | (agg, ls) :: r, vs, ⟨v, vs', h1, h2, h3⟩, hd => by
    simp only [List.any_cons, Bool.or_eq_false_iff] at hd
    exact ⟨v, vs', h1, h2.extK x hd.1, ValsR.extK x h3 hd.2⟩

theorem EntR.extK {k : Nat} {g' : Gh} {h h' : Mem} (x : ExtK k g h g' h') {s : Nat} {e : Ent} {v : Value} (he : EntR g h s e v) (hd : e.any (Leaf.isRt k) = false) (hl : ∀ t u pp, e = .lit t u pp → s * 16 + 1 ≠ k) : EntR g' h' s e v := by
  have lt : ∀ {b : Nat} {o : Obj}, h[b]? = some o → b < h.size := fun {b o} hb => by
    rcases Nat.lt_or_ge b h.size with hlt | hge
    · exact hlt
    · rw [Array.getElem?_eq_none hge] at hb; cases hb
  cases e with
  | dead => trivial
  | val agg ls => exact ValR.extK x he hd
  | lit t u pp =>
    have hk := hl t u pp rfl
    obtain ⟨b, c, bs, h1, h2, h3, h4, h5, h6, h7⟩ := he
    exact ⟨b, c, bs, h1, by rw [x.blk b (lt h2) (by rw [h4]; intro q; injection q with q; exact hk q)]; exact h2, h3, by rw [x.kd b (lt h2)]; exact h4, by rw [x.own b (lt h2)]; exact h5, h6.extK x hd, h7⟩
  | box ro ls =>
    obtain ⟨b, c, e, fr, bs, h1, h2, h3, h4, h5, h6⟩ := he
    have hne : g.kd b ≠ .mu k := by
      cases ro with
      | false => rw [(h5 rfl).1]; intro q; cases q
      | true => rcases h6 rfl with q | q <;> (rw [q]; intro q'; cases q')
    exact ⟨b, c, e, fr, bs, h1, by rw [x.blk b (lt h2) hne]; exact h2, h3.extK x hd, by rw [x.bx]; exact h4, by rw [x.kd b (lt h2)]; exact h5, by rw [x.kd b (lt h2)]; exact h6⟩
  | ref s' base t p => obtain ⟨h1, h2⟩ := he; exact ⟨h1, by rw [x.bx]; exact h2⟩
  | eref l i p => obtain ⟨bs, b, o, m, cap, h1, h2⟩ := he; exact ⟨bs, b, o, m, cap, h1.extK x hd, h2⟩
  | fn f caps => show v = _; rw [show v = _ from he, x.bx]
  | tup ls => obtain ⟨vs, h1, h2⟩ := he; exact ⟨vs, h1, h2.extK x hd⟩

/-- The ghosts before and behind regions that are taken in. -/
structure AbsR (k : Nat) (ms : List Nat) (g g1 : Gh) : Prop where
  H : g1.H = g.H
  bx : g1.bx = g.bx
  al : g1.al = g.al
  fz : ∀ b, g.kd b = .fz → g1.kd b = .fz
  mu : ∀ b t, g.kd b = .mu t → t ∉ ms → g1.kd b = .mu t
  inn : ∀ b t, g.kd b = .mu t → t ∈ ms → g1.kd b = .fz
  own : ∀ b, g.own b ∈ ms → g1.own b = k
  own' : ∀ b, g.own b ∉ ms → g1.own b = g.own b
  bxk : ∀ b s, g.kd b = .bx s → g1.kd b = .bx s
  no : ∀ b, g.kd b = .no → g1.kd b = .no

theorem litTag_map {m : Nat} (f : Leaf → Leaf) : ∀ (env : Env), litTag m (env.map (Ent.mapL f)) = litTag m env
  | [] => rfl
  | (s, e) :: r => by
    simp only [Env.map, litTag, litTag_map f r]
    cases e <;> rfl

def Gh.absorbs (k : Nat) : List Nat → Gh → Gh
  | [], g => g
  | m :: r, g => Gh.absorbs k r (g.absorb m k)

theorem absorbAll_sound {k : Nat} (hk : k ≠ 0) : ∀ {ms : List Nat} {env : Env} {g : Gh}, (∀ b, W b → g.al b) → St n w0 W g env.get a w → (∀ m ∈ ms, m ≠ 0 ∧ m ≠ k ∧ litTag m env = false) →
    St n w0 W (Gh.absorbs k ms g) (absorbAll k ms env).get a w ∧ AbsR k ms g (Gh.absorbs k ms g)
  | [], env, g, hw, st, _ => ⟨st, rfl, rfl, rfl, fun _ h => h, fun _ _ h _ => h, fun _ _ _ h => (by cases h), fun _ h => (by cases h), fun _ _ => rfl, fun _ _ h => h, fun _ h => h⟩
  | m :: ms, env, g, hw, st, hm => by
    obtain ⟨q1, q2, q3⟩ := hm m (by simp)
    have st' := st.absorb hw q1 hk q3
    obtain ⟨s1, r⟩ := absorbAll_sound hk (ms := ms) (env := env.map (Ent.mapL (Leaf.absorb m k))) (g := g.absorb m k) hw st' (fun m' hm' => by
      have := hm m' (by simp [hm']); exact ⟨this.1, this.2.1, by rw [litTag_map]; exact this.2.2⟩)
    refine ⟨s1, r.H, r.bx, r.al, fun b hb => r.fz b (absorb_fz hb), fun b t hb ht => ?_, fun b t hb ht => ?_, fun b hb => ?_, fun b hb => ?_, fun b s hb => r.bxk b s (by simp [Gh.absorb, hb]), fun b hb => r.no b (by simp [Gh.absorb, hb])⟩
    · exact r.mu b t (absorb_mu hb (fun q => ht (by simp [q]))) (fun q => ht (by simp [q]))
    · by_cases q : t = m
      · subst q; exact r.fz b (absorb_in hb)
      · exact r.inn b t (absorb_mu hb q) (by simpa [q] using ht)
    · by_cases q : g.own b = m
      · have e : (g.absorb m k).own b = k := by simp [Gh.absorb, q]
        have : k ∉ ms := fun hk' => (hm k (by simp [hk'])).2.1 rfl
        show (Gh.absorbs k ms (g.absorb m k)).own b = k; rw [r.own' b (by rw [e]; exact this), e]
      · have e : (g.absorb m k).own b = g.own b := by simp [Gh.absorb, q]
        exact r.own b (by rw [e]; simpa [q] using hb)
    · have q : g.own b ≠ m := fun q => hb (by simp [q])
      have e : (g.absorb m k).own b = g.own b := by simp [Gh.absorb, q]
      show (Gh.absorbs k ms (g.absorb m k)).own b = g.own b
      rw [r.own' b (by rw [e]; exact fun q => hb (by simp [q])), e]

theorem memN_iff {l : List Nat} {i : Nat} : memN l i = true ↔ i ∈ l := by
  induction l with
  | nil => simp [memN]
  | cons x r ih =>
    simp only [memN, Bool.or_eq_true, ih, List.mem_cons]
    constructor
    · rintro (h | h)
      · exact .inl (Nat.eq_of_beq_eq_true h).symm
      · exact .inr h
    · rintro (h | h)
      · subst h; exact .inl (Nat.beq_refl i)
      · exact .inr h

theorem takeIn_mono {k : Nat} : ∀ {ls : List Leaf} {acc : List Nat} {ok0 : Bool} {ms : List Nat} {ok : Bool}, takeIn k ls acc ok0 = some (ms, ok) → (∀ m ∈ acc, m ∈ ms) ∧ (ok = true → ok0 = true)
  | [], acc, ok0, ms, ok, h => by simp only [takeIn, Option.some.injEq, Prod.mk.injEq] at h; obtain ⟨rfl, rfl⟩ := h; exact ⟨fun _ h => h, fun h => h⟩
  | .fz t reg lin v :: r, acc, ok0, ms, ok, h => by
    simp only [takeIn] at h
    cases hf : t.flat with
    | true => rw [hf] at h; exact takeIn_mono h
    | false =>
      rw [hf] at h; simp only [cond_false] at h
      cases hq : (lin && !(Nat.beq reg 0) && !(Nat.beq reg k) && !(memN acc reg)) with
      | true => rw [hq] at h; obtain ⟨q1, q2⟩ := takeIn_mono h; exact ⟨fun m hm => q1 m (by simp [hm]), q2⟩
      | false => rw [hq] at h; obtain ⟨q1, q2⟩ := takeIn_mono h; exact ⟨q1, fun hh => by have := q2 hh; cases this⟩
  | .rt e t m sub lin st v :: r, acc, ok0, ms, ok, h => by
    simp only [takeIn] at h
    cases hk : Nat.beq m k with
    | true => rw [hk] at h; cases h
    | false =>
      rw [hk] at h; simp only [cond_false] at h
      cases hq : memN acc m with
      | true => rw [hq] at h; obtain ⟨q1, q2⟩ := takeIn_mono h; exact ⟨q1, fun hh => by have := q2 hh; cases this⟩
      | false =>
        rw [hq] at h; obtain ⟨q1, q2⟩ := takeIn_mono h
        exact ⟨fun x hx => q1 x (by simp [hx]), fun hh => by have := q2 hh; simp at this; exact this.1⟩

theorem takeIn_sound {h : Mem} {k : Nat} : ∀ {ls : List Leaf} {acc : List Nat} {ok0 : Bool} {ms : List Nat} {ok : Bool} {cs : List Value} {bs : List Nat}, LeavesB g h ls cs bs → takeIn k ls acc ok0 = some (ms, ok) →
    (∀ b ∈ bs, g.kd b = .fz ∨ ∃ m ∈ ms, g.kd b = .mu m) ∧ (ok = true → bs.Nodup ∧ ∀ b ∈ bs, g.own b ∈ ms ∧ g.own b ∉ acc)
  | [], acc, ok0, ms, ok, cs, bs, ⟨_, h2⟩, _ => by subst h2; exact ⟨by simp, fun _ => ⟨by simp, by simp⟩⟩
  | .fz t reg lin v :: r, acc, ok0, ms, ok, cs, bs, ⟨b1, b2, h1, h2, h3⟩, ht => by
    subst h3
    simp only [takeIn] at ht
    cases hf : t.flat with
    | true =>
      rw [hf] at ht
      have : b1 = [] := h1.1.flat hf
      subst this
      exact takeIn_sound h2 ht
    | false =>
      rw [hf] at ht; simp only [cond_false] at ht
      cases hq : (lin && !(Nat.beq reg 0) && !(Nat.beq reg k) && !(memN acc reg)) with
      | true =>
        rw [hq] at ht; simp only [cond_true] at ht
        simp only [Bool.and_eq_true, Bool.not_eq_true'] at hq
        obtain ⟨⟨⟨c1, c2⟩, c3⟩, c4⟩ := hq
        obtain ⟨q1, q2⟩ := takeIn_sound h2 ht
        have hr : reg ≠ 0 := nbeq_ne c2
        refine ⟨fun b hb => ?_, fun hok => ?_⟩
        · rcases List.mem_append.1 hb with hb | hb
          · exact .inl (h1.2.1 b hb)
          · exact q1 b hb
        · obtain ⟨p1, p2⟩ := q2 hok
          have own1 := h1.2.2.1 hr
          refine ⟨List.nodup_append.2 ⟨h1.2.2.2 c1, p1, fun x hx y hy e => ?_⟩, fun b hb => ?_⟩
          · subst e
            have := (p2 x hy).2
            rw [own1 x hx] at this; exact this (by simp)
          · rcases List.mem_append.1 hb with hb | hb
            · rw [own1 b hb]
              refine ⟨(takeIn_mono ht).1 reg (by simp), fun q => ?_⟩
              rw [memN_iff.2 q] at c4; cases c4
            · obtain ⟨z1, z2⟩ := p2 b hb; exact ⟨z1, fun q => z2 (by simp [q])⟩
      | false =>
        rw [hq] at ht; simp only [cond_false] at ht
        obtain ⟨q1, q2⟩ := takeIn_sound h2 ht
        refine ⟨fun b hb => ?_, fun hok => ?_⟩
        · rcases List.mem_append.1 hb with hb | hb
          · exact .inl (h1.2.1 b hb)
          · exact q1 b hb
        · have := (takeIn_mono ht).2 hok; cases this
  | .rt e t m sub lin st v :: r, acc, ok0, ms, ok, cs, bs, ⟨b1, b2, h1, h2, h3⟩, ht => by
    subst h3
    simp only [takeIn] at ht
    obtain ⟨hd, blk, bs', _, e1, e2, e3, e4, e5, e6, e7⟩ := h1
    subst e1
    cases hk : Nat.beq m k with
    | true => rw [hk] at ht; cases ht
    | false =>
      rw [hk] at ht; simp only [cond_false] at ht
      have mine : m ∈ ms → ∀ b ∈ blk.toList ++ bs', g.kd b = .fz ∨ ∃ m ∈ ms, g.kd b = .mu m := by
        intro hm b hb
        rcases List.mem_append.1 hb with hb | hb
        · exact .inr ⟨m, hm, (e6 b (by simpa using hb)).1⟩
        · exact .inl (e5 b hb)
      cases hq : memN acc m with
      | true =>
        rw [hq] at ht; simp only [cond_true] at ht
        obtain ⟨q1, q2⟩ := takeIn_sound h2 ht
        refine ⟨fun b hb => ?_, fun hok => ?_⟩
        · rcases List.mem_append.1 hb with hb | hb
          · exact mine ((takeIn_mono ht).1 m (memN_iff.1 hq)) b hb
          · exact q1 b hb
        · have := (takeIn_mono ht).2 hok; cases this
      | false =>
        rw [hq] at ht; simp only [cond_false] at ht
        obtain ⟨q1, q2⟩ := takeIn_sound h2 ht
        have hm : m ∈ ms := (takeIn_mono ht).1 m (by simp)
        refine ⟨fun b hb => ?_, fun hok => ?_⟩
        · rcases List.mem_append.1 hb with hb | hb
          · exact mine hm b hb
          · exact q1 b hb
        · obtain ⟨p1, p2⟩ := q2 hok
          have hlin : lin = true := by have := (takeIn_mono ht).2 hok; simp at this; exact this.2
          obtain ⟨z1, z2⟩ := e7 hlin
          have own1 : ∀ b ∈ blk.toList ++ bs', g.own b = m := by
            intro b hb
            rcases List.mem_append.1 hb with hb | hb
            · exact (e6 b (by simpa using hb)).2.1
            · exact z1 b hb
          have nd1 : (blk.toList ++ bs').Nodup := by
            refine List.nodup_append.2 ⟨by cases blk <;> simp, z2, fun x hx y hy e => ?_⟩
            subst e
            have := (e6 x (by simpa using hx)).1
            rw [e5 x hy] at this; cases this
          refine ⟨List.nodup_append.2 ⟨nd1, p1, fun x hx y hy e => ?_⟩, fun b hb => ?_⟩
          · subst e
            have := (p2 x hy).2
            rw [own1 x hx] at this; exact this (by simp)
          · rcases List.mem_append.1 hb with hb | hb
            · rw [own1 b hb]
              exact ⟨hm, fun q => by rw [memN_iff.2 q] at hq; cases hq⟩
            · obtain ⟨y1, y2⟩ := p2 b hb; exact ⟨y1, fun q => y2 (by simp [q])⟩

theorem parts_flat {h : Mem} {m : Nat} : ∀ {pp : List (List Leaf)} {cs : List Value} {bs : List Nat}, (∀ ls ∈ pp, sizes ls = m) → PartsB g h m pp cs bs → LeavesB g h pp.flatten cs bs
  | [], _, _, _, hp => hp
  | ls :: r, cs, bs, hz, ⟨b1, b2, h1, h2, h3⟩ => by
    subst h3
    have ih := parts_flat (fun l hl => hz l (by simp [hl])) h2
    have hm := hz ls (by simp)
    simp only [List.flatten_cons]
    have app : ∀ {ls rest : List Leaf} {cs : List Value} {b1 b2 : List Nat}, LeavesB g h ls (cs.take (sizes ls)) b1 → LeavesB g h rest (cs.drop (sizes ls)) b2 → LeavesB g h (ls ++ rest) cs (b1 ++ b2) := by
      intro ls
      induction ls with
      | nil => rintro rest cs b1 b2 ⟨_, rfl⟩ h; simpa [sizes] using h
      | cons l ls ih =>
        rintro rest cs b1 b2 ⟨c1, c2, k1, k2, rfl⟩ k3
        have hl : ((cs.take (sizes (l :: ls))).take l.ty.size) = cs.take l.ty.size := by rw [List.take_take]; congr 1; simp [sizes]
        rw [hl] at k1
        rw [List.append_assoc]
        refine ⟨c1, c2 ++ b2, k1, ih ?_ ?_, rfl⟩
        · rw [List.drop_take] at k2; simpa [sizes] using k2
        · rw [List.drop_drop]; exact k3
    exact app (by rw [hm]; exact h1) (by rw [hm]; exact ih)

end
end Go.Proofs.YtkoifikjfnbcpaaEv
