/- What functions of the program come to, printed by a program of this work: loops by their steps, calls by what is known of them; each text is checked by the kernel. No condition. -/
import Derived.Test.YtkoifikjfnbcpaaEvFa
set_option linter.unusedVariables false
namespace Go.Proofs.YtkoifikjfnbcpaaEv
open Go Go.RowKit
/-! spec.l01Empty -/
abbrev R97 : Type := Ress [poly]
abbrev G97 : Type := Args [.v i64, .v i64] → Option R97
abbrev kp97 : List (Nat × List Nat) := [(0, [0, 1, 4]), (1, [4])]
abbrev ct97 : CTab := []
abbrev kr97 : Env → Option R97 := endK TT [.cell 4 58] [poly] true false
def fn97 (F : Nat) (x : Args [.v i64, .v i64]) : Option R97 :=
  match x with
  | (x0, x1, _) => (some ((x0, (x1, ([], ()))), ()))
theorem ev97 (F : Nat) (x : Args [.v i64, .v i64]) : fnK TT (ct97 ) kp97 [poly] [] (bodyOf Try.f97) [.cell 4 58] [.v i64, .v i64] true false x = fn97 F x := by
  obtain ⟨x0, x1, _⟩ := x
  kernel_rfl
theorem ok97 (hK : KOK Try.prog (ct97 )) (cf : G97) (h : ∀ x y, cf x = some y → ∃ F, fn97 F x = some y) : KOne Try.prog 97 ⟨[.v i64, .v i64], [poly], true, false, 0, cf⟩ :=
  fn_one rfl (c := bodyOf Try.f97) mixed tt_ok hK Try.func97 (by kernel_rfl) (by kernel_rfl) (Nat.le_of_ble_eq_true (by kernel_rfl)) (by decide) fun x y hxy => by
    obtain ⟨F, hF⟩ := h x y hxy
    exact ⟨[], LTOK_by (l := []) (by kernel_rfl) trivial, (ev97 F x).trans hF⟩
/-! spec.l01At -/
abbrev R146 : Type := Ress [i64]
abbrev G146 : Type := Args [.v poly, .v ex] → Option R146
abbrev kp146 : List (Nat × List Nat) := [(0, [2, 3]), (1, [5, 2, 3]), (2, [10, 3, 2, 5]), (4, [20, 3, 2, 5]), (5, [4]), (3, [5, 2, 3]), (6, [4])]
abbrev ct146 : CTab := []
abbrev kr146 : Env → Option R146 := endK TT [.tmp 4] [i64] false false
abbrev sh146_2 : Shape := [(2, .box false [.fz i64 0 false, .fz i64 0 false, .fz (.slice 135 term) 0 true]), (3, bb ex), (5, vv i64)]
def st146_2 (F : Nat) (s : ShVal sh146_2) (k kx : ShVal sh146_2 → Option R146) : Option R146 :=
  match s with
  | ((t2_0, t2_1, t2_2, _), (t3, _), (t5, _), _) => (bif decide ((List.length t2_2) ≤ 9223372036854775807) then (bif decide (t5 < (Int.ofNat (List.length t2_2))) then (bif ib t5 (Int.ofNat (List.length t2_2)) then (bif (Ty.eqd (.arr 3 (.int .u8)) (List.getD t2_2 (tn t5) (Ty.dflt (.pair (.arr 3 (.int .u8)) (.pair (.int .i64) .unit)))).1 t3) then (bif ib t5 (Int.ofNat (List.length t2_2)) then (some ((List.getD t2_2 (tn t5) (Ty.dflt (.pair (.arr 3 (.int .u8)) (.pair (.int .i64) .unit)))).2.1, ())) else none) else k ((t2_0, (t2_1, (t2_2, ()))), ((t3, ()), (((w6 (t5 + (1 : Int))), ()), ())))) else none) else kx ((t2_0, (t2_1, (t2_2, ()))), ((t3, ()), ((t5, ()), ())))) else none)
def ru146_2 (F : Nat) (s : ShVal sh146_2) (kx : ShVal sh146_2 → Option R146) : Option R146 := iter (fun s k => st146_2 F s k kx) F s
abbrev ls146_2 (F : Nat) : LS R146 := ⟨sh146_2, 0, ru146_2 F⟩
def fn146 (F : Nat) (x : Args [.v poly, .v ex]) : Option R146 :=
  match x with
  | (x0, x1, _) => (ru146_2 F ((x0.1, (x0.2.1, (x0.2.2.1, ()))), ((x1, ()), (((0 : Int), ()), ()))) (fun s' => match s' with | ((t2_0, t2_1, t2_2, _), (t3, _), (t5, _), _) => (some ((0 : Int), ()))))
theorem ev146_2 (F : Nat) (s : ShVal sh146_2) (k kx : ShVal sh146_2 → Option R146) : evL TT (ct146 ) kp146 [] (loopOf Try.f146 2) (envOf sh146_2 s) (fitK sh146_2 k) (fun j e => bif Nat.beq j 0 then fitK sh146_2 kx e else none) kr146 = st146_2 F s k kx := by
  obtain ⟨⟨t2_0, t2_1, t2_2, _⟩, ⟨t3, _⟩, ⟨t5, _⟩, _⟩ := s
  kernel_rfl
theorem ok146_2 (F : Nat) (hK : KOK Try.prog (ct146 )) : LSOK Try.prog ⟨27, false, undef⟩ (ls146_2 F) (loopOf Try.f146 2) kr146 :=
  loop_ok (st146_2 F) mixed tt_ok hK (by kernel_rfl) (LTOK_by (l := []) (by kernel_rfl) trivial) (ev146_2 F)
theorem ev146 (F : Nat) (x : Args [.v poly, .v ex]) : fnK TT (ct146 ) kp146 [i64] [(2, ls146_2 F)] (bodyOf Try.f146) [.tmp 4] [.v poly, .v ex] false false x = fn146 F x := by
  obtain ⟨x0, x1, _⟩ := x
  kernel_rfl
theorem ok146 (hK : KOK Try.prog (ct146 )) (cf : G146) (h : ∀ x y, cf x = some y → ∃ F, fn146 F x = some y) : KOne Try.prog 146 ⟨[.v poly, .v ex], [i64], false, false, 0, cf⟩ :=
  fn_one rfl (c := bodyOf Try.f146) mixed tt_ok hK Try.func146 (by kernel_rfl) (by kernel_rfl) (Nat.le_of_ble_eq_true (by kernel_rfl)) (by decide) fun x y hxy => by
    obtain ⟨F, hF⟩ := h x y hxy
    exact ⟨[(2, ls146_2 F)], LTOK_by (l := [loopOf Try.f146 2]) (by kernel_rfl) ⟨ls_at (by kernel_rfl) (ok146_2 F hK), trivial⟩, (ev146 F x).trans hF⟩
/-! spec.l01Sum -/
abbrev R158 : Type := Ress [i64]
abbrev G158 : Type := Args [.v ex] → Option R158
abbrev kp158 : List (Nat × List Nat) := [(0, [1]), (1, [2])]
abbrev ct158 : CTab := []
abbrev kr158 : Env → Option R158 := endK TT [.tmp 2] [i64] false false
def fn158 (F : Nat) (x : Args [.v ex]) : Option R158 :=
  match x with
  | (x0, _) => (some ((w6 ((w6 ((w6 (tget (0 : Int) 3 x0 (tn (0 : Int)))) + (w6 (tget (0 : Int) 3 x0 (tn (1 : Int)))))) + (w6 (tget (0 : Int) 3 x0 (tn (2 : Int)))))), ()))
theorem ev158 (F : Nat) (x : Args [.v ex]) : fnK TT (ct158 ) kp158 [i64] [] (bodyOf Try.f158) [.tmp 2] [.v ex] false false x = fn158 F x := by
  obtain ⟨x0, _⟩ := x
  kernel_rfl
theorem ok158 (hK : KOK Try.prog (ct158 )) (cf : G158) (h : ∀ x y, cf x = some y → ∃ F, fn158 F x = some y) : KOne Try.prog 158 ⟨[.v ex], [i64], false, false, 0, cf⟩ :=
  fn_one rfl (c := bodyOf Try.f158) mixed tt_ok hK Try.func158 (by kernel_rfl) (by kernel_rfl) (Nat.le_of_ble_eq_true (by kernel_rfl)) (by decide) fun x y hxy => by
    obtain ⟨F, hF⟩ := h x y hxy
    exact ⟨[], LTOK_by (l := []) (by kernel_rfl) trivial, (ev158 F x).trans hF⟩
/-! spec.l01Degree -/
abbrev R115 : Type := Ress [i64]
abbrev G115 : Type := Args [.v poly] → Option R115
abbrev kp115 : List (Nat × List Nat) := [(0, [1]), (1, [6, 1]), (2, [2]), (3, [2])]
abbrev ct115 (g158 : G158) : CTab := [(158, ⟨[.v ex], [i64], false, false, 0, g158⟩)]
abbrev kr115 : Env → Option R115 := endK TT [.tmp 2] [i64] false false
def fn115 (g158 : G158) (F : Nat) (x : Args [.v poly]) : Option R115 :=
  match x with
  | (x0, _) => (bif decide ((List.length x0.2.2.1) ≤ 9223372036854775807) then (bif decide ((Int.ofNat (List.length x0.2.2.1)) = (0 : Int)) then (some ((-(1 : Int)), ())) else (bif decide ((List.length x0.2.2.1) ≤ 9223372036854775807) then (bif ib (w6 ((Int.ofNat (List.length x0.2.2.1)) - (1 : Int))) (Int.ofNat (List.length x0.2.2.1)) then (match (g158 ((List.getD x0.2.2.1 (tn (w6 ((Int.ofNat (List.length x0.2.2.1)) - (1 : Int)))) (Ty.dflt (.pair (.arr 3 (.int .u8)) (.pair (.int .i64) .unit)))).1, ())) with | some r5 => (some (r5.1, ())) | none => none) else none) else none)) else none)
theorem ev115 (g158 : G158) (F : Nat) (x : Args [.v poly]) : fnK TT (ct115 g158 ) kp115 [i64] [] (bodyOf Try.f115) [.tmp 2] [.v poly] false false x = fn115 g158 F x := by
  obtain ⟨x0, _⟩ := x
  kernel_rfl
theorem ok115 (g158 : G158) (hK : KOK Try.prog (ct115 g158 )) (cf : G115) (h : ∀ x y, cf x = some y → ∃ F, fn115 g158 F x = some y) : KOne Try.prog 115 ⟨[.v poly], [i64], false, false, 0, cf⟩ :=
  fn_one rfl (c := bodyOf Try.f115) mixed tt_ok hK Try.func115 (by kernel_rfl) (by kernel_rfl) (Nat.le_of_ble_eq_true (by kernel_rfl)) (by decide) fun x y hxy => by
    obtain ⟨F, hF⟩ := h x y hxy
    exact ⟨[], LTOK_by (l := []) (by kernel_rfl) trivial, (ev115 g158 F x).trans hF⟩
/-! spec.l01Exps -/
abbrev R143 : Type := Ress [.bool]
abbrev G143 : Type := Args [.v i64, .v ex] → Option R143
abbrev kp143 : List (Nat × List Nat) := [(0, [0, 3]), (1, [5, 3]), (2, [8, 3, 5]), (4, [14, 3, 5]), (5, [4]), (3, [5, 3]), (6, [4])]
abbrev ct143 (g158 : G158) : CTab := [(158, ⟨[.v ex], [i64], false, false, 0, g158⟩)]
abbrev kr143 : Env → Option R143 := endK TT [.tmp 4] [.bool] false false
abbrev sh143_2 : Shape := [(3, bb ex), (5, vv i64)]
def st143_2 (g158 : G158) (F : Nat) (s : ShVal sh143_2) (k kx : ShVal sh143_2 → Option R143) : Option R143 :=
  match s with
  | ((t3, _), (t5, _), _) => (bif decide (t5 < (3 : Int)) then (bif ib t5 (Int.ofNat 3) then (bif (!decide ((tget (0 : Int) 3 t3 (tn t5)) = (0 : Int))) then (some (false, ())) else k ((t3, ()), (((w6 (t5 + (1 : Int))), ()), ()))) else none) else kx ((t3, ()), ((t5, ()), ())))
def ru143_2 (g158 : G158) (F : Nat) (s : ShVal sh143_2) (kx : ShVal sh143_2 → Option R143) : Option R143 := iter (fun s k => st143_2 g158 F s k kx) F s
abbrev ls143_2 (g158 : G158) (F : Nat) : LS R143 := ⟨sh143_2, 0, ru143_2 g158 F⟩
def fn143 (g158 : G158) (F : Nat) (x : Args [.v i64, .v ex]) : Option R143 :=
  match x with
  | (x0, x1, _) => (ru143_2 g158 F ((x1, ()), ((x0, ()), ())) (fun s' => match s' with | ((t3, _), (t5, _), _) => (match (g158 (t3, ())) with | some r8 => (some (decide (r8.1 ≤ (12 : Int)), ())) | none => none)))
theorem ev143_2 (g158 : G158) (F : Nat) (s : ShVal sh143_2) (k kx : ShVal sh143_2 → Option R143) : evL TT (ct143 g158 ) kp143 [] (loopOf Try.f143 2) (envOf sh143_2 s) (fitK sh143_2 k) (fun j e => bif Nat.beq j 0 then fitK sh143_2 kx e else none) kr143 = st143_2 g158 F s k kx := by
  obtain ⟨⟨t3, _⟩, ⟨t5, _⟩, _⟩ := s
  kernel_rfl
theorem ok143_2 (g158 : G158) (F : Nat) (hK : KOK Try.prog (ct143 g158 )) : LSOK Try.prog ⟨18, false, undef⟩ (ls143_2 g158 F) (loopOf Try.f143 2) kr143 :=
  loop_ok (st143_2 g158 F) mixed tt_ok hK (by kernel_rfl) (LTOK_by (l := []) (by kernel_rfl) trivial) (ev143_2 g158 F)
theorem ev143 (g158 : G158) (F : Nat) (x : Args [.v i64, .v ex]) : fnK TT (ct143 g158 ) kp143 [.bool] [(2, ls143_2 g158 F)] (bodyOf Try.f143) [.tmp 4] [.v i64, .v ex] false false x = fn143 g158 F x := by
  obtain ⟨x0, x1, _⟩ := x
  kernel_rfl
theorem ok143 (g158 : G158) (hK : KOK Try.prog (ct143 g158 )) (cf : G143) (h : ∀ x y, cf x = some y → ∃ F, fn143 g158 F x = some y) : KOne Try.prog 143 ⟨[.v i64, .v ex], [.bool], false, false, 0, cf⟩ :=
  fn_one rfl (c := bodyOf Try.f143) mixed tt_ok hK Try.func143 (by kernel_rfl) (by kernel_rfl) (Nat.le_of_ble_eq_true (by kernel_rfl)) (by decide) fun x y hxy => by
    obtain ⟨F, hF⟩ := h x y hxy
    exact ⟨[(2, ls143_2 g158 F)], LTOK_by (l := [loopOf Try.f143 2]) (by kernel_rfl) ⟨ls_at (by kernel_rfl) (ok143_2 g158 F hK), trivial⟩, (ev143 g158 F x).trans hF⟩
/-! spec.l01Even -/
abbrev R167 : Type := Ress [.bool]
abbrev G167 : Type := Args [.v poly] → Option R167
abbrev kp167 : List (Nat × List Nat) := [(0, [1]), (1, [2])]
abbrev ct167 (g158 : G158) (g115 : G115) : CTab := [(158, ⟨[.v ex], [i64], false, false, 0, g158⟩), (115, ⟨[.v poly], [i64], false, false, 0, g115⟩)]
abbrev kr167 : Env → Option R167 := endK TT [.tmp 2] [.bool] false false
def fn167 (g158 : G158) (g115 : G115) (F : Nat) (x : Args [.v poly]) : Option R167 :=
  match x with
  | (x0, _) => (bif decide ((List.length x0.2.2.1) ≤ 9223372036854775807) then (bif decide ((Int.ofNat (List.length x0.2.2.1)) = (0 : Int)) then (some (true, ())) else (bif ib (0 : Int) (Int.ofNat (List.length x0.2.2.1)) then (match (g158 ((List.getD x0.2.2.1 (tn (0 : Int)) (Ty.dflt (.pair (.arr 3 (.int .u8)) (.pair (.int .i64) .unit)))).1, ())) with | some r5 => (match (g115 ((x0.1, (x0.2.1, (x0.2.2.1, ()))), ())) with | some r6 => (some ((bif false then true else decide (r5.1 = r6.1)), ())) | none => none) | none => none) else none)) else none)
theorem ev167 (g158 : G158) (g115 : G115) (F : Nat) (x : Args [.v poly]) : fnK TT (ct167 g158 g115 ) kp167 [.bool] [] (bodyOf Try.f167) [.tmp 2] [.v poly] false false x = fn167 g158 g115 F x := by
  obtain ⟨x0, _⟩ := x
  kernel_rfl
theorem ok167 (g158 : G158) (g115 : G115) (hK : KOK Try.prog (ct167 g158 g115 )) (cf : G167) (h : ∀ x y, cf x = some y → ∃ F, fn167 g158 g115 F x = some y) : KOne Try.prog 167 ⟨[.v poly], [.bool], false, false, 0, cf⟩ :=
  fn_one rfl (c := bodyOf Try.f167) mixed tt_ok hK Try.func167 (by kernel_rfl) (by kernel_rfl) (Nat.le_of_ble_eq_true (by kernel_rfl)) (by decide) fun x y hxy => by
    obtain ⟨F, hF⟩ := h x y hxy
    exact ⟨[], LTOK_by (l := []) (by kernel_rfl) trivial, (ev167 g158 g115 F x).trans hF⟩
/-! spec.l01Before -/
abbrev R147 : Type := Ress [.bool]
abbrev G147 : Type := Args [.v ex, .v ex] → Option R147
abbrev kp147 : List (Nat × List Nat) := [(0, [2, 3]), (1, [9, 2, 3]), (2, [4]), (3, [19, 2, 3]), (4, [4]), (5, [4])]
abbrev ct147 (g158 : G158) : CTab := [(158, ⟨[.v ex], [i64], false, false, 0, g158⟩)]
abbrev kr147 : Env → Option R147 := endK TT [.tmp 4] [.bool] false false
def fn147 (g158 : G158) (F : Nat) (x : Args [.v ex, .v ex]) : Option R147 :=
  match x with
  | (x0, x1, _) => (match (g158 (x0, ())) with | some r5 => (match (g158 (x1, ())) with | some r6 => (bif (!decide (r5.1 = r6.1)) then (match (g158 (x0, ())) with | some r8 => (match (g158 (x1, ())) with | some r9 => (some (decide (r8.1 < r9.1), ())) | none => none) | none => none) else (bif (!decide ((tget (0 : Int) 3 x0 (tn (0 : Int))) = (tget (0 : Int) 3 x1 (tn (0 : Int))))) then (some (decide ((tget (0 : Int) 3 x1 (tn (0 : Int))) < (tget (0 : Int) 3 x0 (tn (0 : Int)))), ())) else (some (decide ((tget (0 : Int) 3 x1 (tn (1 : Int))) < (tget (0 : Int) 3 x0 (tn (1 : Int)))), ())))) | none => none) | none => none)
theorem ev147 (g158 : G158) (F : Nat) (x : Args [.v ex, .v ex]) : fnK TT (ct147 g158 ) kp147 [.bool] [] (bodyOf Try.f147) [.tmp 4] [.v ex, .v ex] false false x = fn147 g158 F x := by
  obtain ⟨x0, x1, _⟩ := x
  kernel_rfl
theorem ok147 (g158 : G158) (hK : KOK Try.prog (ct147 g158 )) (cf : G147) (h : ∀ x y, cf x = some y → ∃ F, fn147 g158 F x = some y) : KOne Try.prog 147 ⟨[.v ex, .v ex], [.bool], false, false, 0, cf⟩ :=
  fn_one rfl (c := bodyOf Try.f147) mixed tt_ok hK Try.func147 (by kernel_rfl) (by kernel_rfl) (Nat.le_of_ble_eq_true (by kernel_rfl)) (by decide) fun x y hxy => by
    obtain ⟨F, hF⟩ := h x y hxy
    exact ⟨[], LTOK_by (l := []) (by kernel_rfl) trivial, (ev147 g158 F x).trans hF⟩
/-! spec.l01Put -/
abbrev R98 : Type := Ress [poly]
abbrev G98 : Type := Args [.v poly, .v ex, .v i64] → Option R98
abbrev kp98 : List (Nat × List Nat) := [(0, [2, 4, 3, 6]), (1, [2, 7, 4, 3, 6]), (2, [7, 4, 2, 3, 6]), (3, [7, 4, 2, 8, 3, 6]), (4, [9, 7, 4, 2, 8, 3, 6]), (5, [30, 8, 9, 7, 4, 2, 3, 6]), (7, [8, 10, 9, 7, 4, 2, 3, 6]), (8, [45, 8, 10, 9, 7, 4, 2, 3, 6]), (9, [10, 9, 7, 4, 2, 3, 6]), (10, [10, 9, 7, 4, 2, 8, 3, 6]), (11, [57, 10, 9, 7, 4, 2, 8, 3, 6]), (12, [9, 7, 4, 2, 8, 3, 6]), (6, [9, 7, 4, 2, 8, 3, 6]), (13, [65, 4, 2, 7, 6]), (14, [7, 6]), (15, [6])]
abbrev ct98 (g97 : G97) (g147 : G147) (g74 : G74) (g146 : G146) : CTab := [(97, ⟨[.v i64, .v i64], [poly], true, false, 0, g97⟩), (147, ⟨[.v ex, .v ex], [.bool], false, false, 0, g147⟩), (74, ⟨[.v i64, .v i64], [i64], false, false, 0, g74⟩), (146, ⟨[.v poly, .v ex], [i64], false, false, 0, g146⟩)]
abbrev kr98 : Env → Option R98 := endK TT [.cell 6 58] [poly] true false
abbrev sh98_5 : Shape := [(2, vv i64), (3, .box false [.fz i64 0 false, .fz i64 0 false, .fz (.slice 135 term) 0 true]), (4, bb ex), (6, .box false [.fz i64 0 false, .fz i64 0 false, .rt 135 term 99 false true true]), (7, .box false [.fz i64 0 false, .fz i64 0 false, .rt 135 term 115 false true false]), (8, vv .bool), (9, vv i64)]
def st98_5 (g97 : G97) (g147 : G147) (g74 : G74) (g146 : G146) (F : Nat) (s : ShVal sh98_5) (k kx : ShVal sh98_5 → Option R98) : Option R98 :=
  match s with
  | ((t2, _), (t3_0, t3_1, t3_2, _), (t4, _), (t6_0, t6_1, t6_2, _), (t7_0, t7_1, t7_2, _), (t8, _), (t9, _), _) => (bif decide ((List.length t3_2) ≤ 9223372036854775807) then (bif decide (t9 < (Int.ofNat (List.length t3_2))) then (bif ib t9 (Int.ofNat (List.length t3_2)) then (bif (!t8) then (match (g147 (t4, ((List.getD t3_2 (tn t9) (Ty.dflt (.pair (.arr 3 (.int .u8)) (.pair (.int .i64) .unit)))).1, ()))) with | some r31 => (bif (bif true then r31.1 else false) then (bif (growOk (List.length t7_2) (List.length ((t4, (t2, ())) :: []))) then (bif (!(Ty.eqd (.arr 3 (.int .u8)) (List.getD t3_2 (tn t9) (Ty.dflt (.pair (.arr 3 (.int .u8)) (.pair (.int .i64) .unit)))).1 t4)) then (bif (growOk (List.length (t7_2 ++ ((t4, (t2, ())) :: []))) (List.length (((List.getD t3_2 (tn t9) (Ty.dflt (.pair (.arr 3 (.int .u8)) (.pair (.int .i64) .unit)))).1, ((List.getD t3_2 (tn t9) (Ty.dflt (.pair (.arr 3 (.int .u8)) (.pair (.int .i64) .unit)))).2.1, ())) :: []))) then k ((t2, ()), ((t3_0, (t3_1, (t3_2, ()))), ((t4, ()), ((t6_0, (t6_1, (t6_2, ()))), ((t7_0, (t7_1, (((t7_2 ++ ((t4, (t2, ())) :: [])) ++ (((List.getD t3_2 (tn t9) (Ty.dflt (.pair (.arr 3 (.int .u8)) (.pair (.int .i64) .unit)))).1, ((List.getD t3_2 (tn t9) (Ty.dflt (.pair (.arr 3 (.int .u8)) (.pair (.int .i64) .unit)))).2.1, ())) :: [])), ()))), ((true, ()), (((w6 (t9 + (1 : Int))), ()), ()))))))) else none) else k ((t2, ()), ((t3_0, (t3_1, (t3_2, ()))), ((t4, ()), ((t6_0, (t6_1, (t6_2, ()))), ((t7_0, (t7_1, ((t7_2 ++ ((t4, (t2, ())) :: [])), ()))), ((true, ()), (((w6 (t9 + (1 : Int))), ()), ())))))))) else none) else (bif (!(Ty.eqd (.arr 3 (.int .u8)) (List.getD t3_2 (tn t9) (Ty.dflt (.pair (.arr 3 (.int .u8)) (.pair (.int .i64) .unit)))).1 t4)) then (bif (growOk (List.length t7_2) (List.length (((List.getD t3_2 (tn t9) (Ty.dflt (.pair (.arr 3 (.int .u8)) (.pair (.int .i64) .unit)))).1, ((List.getD t3_2 (tn t9) (Ty.dflt (.pair (.arr 3 (.int .u8)) (.pair (.int .i64) .unit)))).2.1, ())) :: []))) then k ((t2, ()), ((t3_0, (t3_1, (t3_2, ()))), ((t4, ()), ((t6_0, (t6_1, (t6_2, ()))), ((t7_0, (t7_1, ((t7_2 ++ (((List.getD t3_2 (tn t9) (Ty.dflt (.pair (.arr 3 (.int .u8)) (.pair (.int .i64) .unit)))).1, ((List.getD t3_2 (tn t9) (Ty.dflt (.pair (.arr 3 (.int .u8)) (.pair (.int .i64) .unit)))).2.1, ())) :: [])), ()))), ((t8, ()), (((w6 (t9 + (1 : Int))), ()), ()))))))) else none) else k ((t2, ()), ((t3_0, (t3_1, (t3_2, ()))), ((t4, ()), ((t6_0, (t6_1, (t6_2, ()))), ((t7_0, (t7_1, (t7_2, ()))), ((t8, ()), (((w6 (t9 + (1 : Int))), ()), ()))))))))) | none => none) else (bif (!(Ty.eqd (.arr 3 (.int .u8)) (List.getD t3_2 (tn t9) (Ty.dflt (.pair (.arr 3 (.int .u8)) (.pair (.int .i64) .unit)))).1 t4)) then (bif (growOk (List.length t7_2) (List.length (((List.getD t3_2 (tn t9) (Ty.dflt (.pair (.arr 3 (.int .u8)) (.pair (.int .i64) .unit)))).1, ((List.getD t3_2 (tn t9) (Ty.dflt (.pair (.arr 3 (.int .u8)) (.pair (.int .i64) .unit)))).2.1, ())) :: []))) then k ((t2, ()), ((t3_0, (t3_1, (t3_2, ()))), ((t4, ()), ((t6_0, (t6_1, (t6_2, ()))), ((t7_0, (t7_1, ((t7_2 ++ (((List.getD t3_2 (tn t9) (Ty.dflt (.pair (.arr 3 (.int .u8)) (.pair (.int .i64) .unit)))).1, ((List.getD t3_2 (tn t9) (Ty.dflt (.pair (.arr 3 (.int .u8)) (.pair (.int .i64) .unit)))).2.1, ())) :: [])), ()))), ((t8, ()), (((w6 (t9 + (1 : Int))), ()), ()))))))) else none) else k ((t2, ()), ((t3_0, (t3_1, (t3_2, ()))), ((t4, ()), ((t6_0, (t6_1, (t6_2, ()))), ((t7_0, (t7_1, (t7_2, ()))), ((t8, ()), (((w6 (t9 + (1 : Int))), ()), ()))))))))) else none) else kx ((t2, ()), ((t3_0, (t3_1, (t3_2, ()))), ((t4, ()), ((t6_0, (t6_1, (t6_2, ()))), ((t7_0, (t7_1, (t7_2, ()))), ((t8, ()), ((t9, ()), ())))))))) else none)
def ru98_5 (g97 : G97) (g147 : G147) (g74 : G74) (g146 : G146) (F : Nat) (s : ShVal sh98_5) (kx : ShVal sh98_5 → Option R98) : Option R98 := iter (fun s k => st98_5 g97 g147 g74 g146 F s k kx) F s
abbrev ls98_5 (g97 : G97) (g147 : G147) (g74 : G74) (g146 : G146) (F : Nat) : LS R98 := ⟨sh98_5, 0, ru98_5 g97 g147 g74 g146 F⟩
def fn98 (g97 : G97) (g147 : G147) (g74 : G74) (g146 : G146) (F : Nat) (x : Args [.v poly, .v ex, .v i64]) : Option R98 :=
  match x with
  | (x0, x1, x2, _) => (match (g97 (x0.1, (x0.2.1, ()))) with | some r9 => (match (g146 ((x0.1, (x0.2.1, (x0.2.2.1, ()))), (x1, ()))) with | some r11 => (match (g74 (x0.1, ((w6 (x2 + r11.1)), ()))) with | some r12 => (ru98_5 g97 g147 g74 g146 F ((r12.1, ()), ((x0.1, (x0.2.1, (x0.2.2.1, ()))), ((x1, ()), (((Ty.dflt (.pair (.int .i64) (.pair (.int .i64) (.pair (.slice 135 (.pair (.arr 3 (.int .u8)) (.pair (.int .i64) .unit))) .unit)))).1, ((Ty.dflt (.pair (.int .i64) (.pair (.int .i64) (.pair (.slice 135 (.pair (.arr 3 (.int .u8)) (.pair (.int .i64) .unit))) .unit)))).2.1, ((Ty.dflt (.pair (.int .i64) (.pair (.int .i64) (.pair (.slice 135 (.pair (.arr 3 (.int .u8)) (.pair (.int .i64) .unit))) .unit)))).2.2.1, ()))), ((r9.1.1, (r9.1.2.1, (r9.1.2.2.1, ()))), ((decide (r12.1 = (0 : Int)), ()), (((0 : Int), ()), ()))))))) (fun s' => match s' with | ((t2, _), (t3_0, t3_1, t3_2, _), (t4, _), (t6_0, t6_1, t6_2, _), (t7_0, t7_1, t7_2, _), (t8, _), (t9, _), _) => (bif (!t8) then (bif (growOk (List.length t7_2) (List.length ((t4, (t2, ())) :: []))) then (some ((t7_0, (t7_1, ((t7_2 ++ ((t4, (t2, ())) :: [])), ()))), ())) else none) else (some ((t7_0, (t7_1, (t7_2, ()))), ()))))) | none => none) | none => none) | none => none)
theorem ev98_5 (g97 : G97) (g147 : G147) (g74 : G74) (g146 : G146) (F : Nat) (s : ShVal sh98_5) (k kx : ShVal sh98_5 → Option R98) : evL TT (ct98 g97 g147 g74 g146 ) kp98 [] (loopOf Try.f98 5) (envOf sh98_5 s) (fitK sh98_5 k) (fun j e => bif Nat.beq j 0 then fitK sh98_5 kx e else none) kr98 = st98_5 g97 g147 g74 g146 F s k kx := by
  obtain ⟨⟨t2, _⟩, ⟨t3_0, t3_1, t3_2, _⟩, ⟨t4, _⟩, ⟨t6_0, t6_1, t6_2, _⟩, ⟨t7_0, t7_1, t7_2, _⟩, ⟨t8, _⟩, ⟨t9, _⟩, _⟩ := s
  kernel_rfl
theorem ok98_5 (g97 : G97) (g147 : G147) (g74 : G74) (g146 : G146) (F : Nat) (hK : KOK Try.prog (ct98 g97 g147 g74 g146 )) : LSOK Try.prog ⟨75, false, undef⟩ (ls98_5 g97 g147 g74 g146 F) (loopOf Try.f98 5) kr98 :=
  loop_ok (st98_5 g97 g147 g74 g146 F) mixed tt_ok hK (by kernel_rfl) (LTOK_by (l := []) (by kernel_rfl) trivial) (ev98_5 g97 g147 g74 g146 F)
theorem ev98 (g97 : G97) (g147 : G147) (g74 : G74) (g146 : G146) (F : Nat) (x : Args [.v poly, .v ex, .v i64]) : fnK TT (ct98 g97 g147 g74 g146 ) kp98 [poly] [(5, ls98_5 g97 g147 g74 g146 F)] (bodyOf Try.f98) [.cell 6 58] [.v poly, .v ex, .v i64] true false x = fn98 g97 g147 g74 g146 F x := by
  obtain ⟨x0, x1, x2, _⟩ := x
  kernel_rfl
theorem ok98 (g97 : G97) (g147 : G147) (g74 : G74) (g146 : G146) (hK : KOK Try.prog (ct98 g97 g147 g74 g146 )) (cf : G98) (h : ∀ x y, cf x = some y → ∃ F, fn98 g97 g147 g74 g146 F x = some y) : KOne Try.prog 98 ⟨[.v poly, .v ex, .v i64], [poly], true, false, 0, cf⟩ :=
  fn_one rfl (c := bodyOf Try.f98) mixed tt_ok hK Try.func98 (by kernel_rfl) (by kernel_rfl) (Nat.le_of_ble_eq_true (by kernel_rfl)) (by decide) fun x y hxy => by
    obtain ⟨F, hF⟩ := h x y hxy
    exact ⟨[(5, ls98_5 g97 g147 g74 g146 F)], LTOK_by (l := [loopOf Try.f98 5]) (by kernel_rfl) ⟨ls_at (by kernel_rfl) (ok98_5 g97 g147 g74 g146 F hK), trivial⟩, (ev98 g97 g147 g74 g146 F x).trans hF⟩
/-! spec.l01Plus -/
abbrev R100 : Type := Ress [poly]
abbrev G100 : Type := Args [.v poly, .v poly, .v i64] → Option R100
abbrev kp100 : List (Nat × List Nat) := [(0, [3, 4, 2, 6]), (1, [3, 7, 4, 2, 6]), (2, [7, 4, 2, 6]), (3, [8, 7, 4, 2, 6]), (4, [24, 8, 7, 4, 2, 6]), (6, [8, 7, 4, 2, 6]), (5, [8, 7, 4, 2, 6]), (7, [6])]
abbrev ct100 (g97 : G97) (g98 : G98) : CTab := [(97, ⟨[.v i64, .v i64], [poly], true, false, 0, g97⟩), (98, ⟨[.v poly, .v ex, .v i64], [poly], true, false, 0, g98⟩)]
abbrev kr100 : Env → Option R100 := endK TT [.cell 6 58] [poly] true false
abbrev sh100_4 : Shape := [(2, vv i64), (4, .box false [.fz i64 0 false, .fz i64 0 false, .fz (.slice 135 term) 0 true]), (6, .box false [.fz i64 0 false, .fz i64 0 false, .rt 135 term 99 false true true]), (7, .box false [.fz i64 0 false, .fz i64 0 false, .rt 135 term 115 false true false]), (8, vv i64)]
def st100_4 (g97 : G97) (g98 : G98) (F : Nat) (s : ShVal sh100_4) (k kx : ShVal sh100_4 → Option R100) : Option R100 :=
  match s with
  | ((t2, _), (t4_0, t4_1, t4_2, _), (t6_0, t6_1, t6_2, _), (t7_0, t7_1, t7_2, _), (t8, _), _) => (bif decide ((List.length t4_2) ≤ 9223372036854775807) then (bif decide (t8 < (Int.ofNat (List.length t4_2))) then (bif ib t8 (Int.ofNat (List.length t4_2)) then (bif ib t8 (Int.ofNat (List.length t4_2)) then (match (g98 ((t7_0, (t7_1, (t7_2, ()))), ((List.getD t4_2 (tn t8) (Ty.dflt (.pair (.arr 3 (.int .u8)) (.pair (.int .i64) .unit)))).1, ((w6 (t2 * (List.getD t4_2 (tn t8) (Ty.dflt (.pair (.arr 3 (.int .u8)) (.pair (.int .i64) .unit)))).2.1)), ())))) with | some r23 => k ((t2, ()), ((t4_0, (t4_1, (t4_2, ()))), ((t6_0, (t6_1, (t6_2, ()))), ((r23.1.1, (r23.1.2.1, (r23.1.2.2.1, ()))), (((w6 (t8 + (1 : Int))), ()), ()))))) | none => none) else none) else none) else kx ((t2, ()), ((t4_0, (t4_1, (t4_2, ()))), ((t6_0, (t6_1, (t6_2, ()))), ((t7_0, (t7_1, (t7_2, ()))), ((t8, ()), ())))))) else none)
def ru100_4 (g97 : G97) (g98 : G98) (F : Nat) (s : ShVal sh100_4) (kx : ShVal sh100_4 → Option R100) : Option R100 := iter (fun s k => st100_4 g97 g98 F s k kx) F s
abbrev ls100_4 (g97 : G97) (g98 : G98) (F : Nat) : LS R100 := ⟨sh100_4, 0, ru100_4 g97 g98 F⟩
def fn100 (g97 : G97) (g98 : G98) (F : Nat) (x : Args [.v poly, .v poly, .v i64]) : Option R100 :=
  match x with
  | (x0, x1, x2, _) => (match (g97 (x0.1, (x0.2.1, ()))) with | some r7 => (bif (growOk (List.length r7.1.2.2.1) (List.length x0.2.2.1)) then (ru100_4 g97 g98 F ((x2, ()), ((x1.1, (x1.2.1, (x1.2.2.1, ()))), (((Ty.dflt (.pair (.int .i64) (.pair (.int .i64) (.pair (.slice 135 (.pair (.arr 3 (.int .u8)) (.pair (.int .i64) .unit))) .unit)))).1, ((Ty.dflt (.pair (.int .i64) (.pair (.int .i64) (.pair (.slice 135 (.pair (.arr 3 (.int .u8)) (.pair (.int .i64) .unit))) .unit)))).2.1, ((Ty.dflt (.pair (.int .i64) (.pair (.int .i64) (.pair (.slice 135 (.pair (.arr 3 (.int .u8)) (.pair (.int .i64) .unit))) .unit)))).2.2.1, ()))), ((r7.1.1, (r7.1.2.1, ((r7.1.2.2.1 ++ x0.2.2.1), ()))), (((0 : Int), ()), ()))))) (fun s' => match s' with | ((t2, _), (t4_0, t4_1, t4_2, _), (t6_0, t6_1, t6_2, _), (t7_0, t7_1, t7_2, _), (t8, _), _) => (some ((t7_0, (t7_1, (t7_2, ()))), ())))) else none) | none => none)
theorem ev100_4 (g97 : G97) (g98 : G98) (F : Nat) (s : ShVal sh100_4) (k kx : ShVal sh100_4 → Option R100) : evL TT (ct100 g97 g98 ) kp100 [] (loopOf Try.f100 4) (envOf sh100_4 s) (fitK sh100_4 k) (fun j e => bif Nat.beq j 0 then fitK sh100_4 kx e else none) kr100 = st100_4 g97 g98 F s k kx := by
  obtain ⟨⟨t2, _⟩, ⟨t4_0, t4_1, t4_2, _⟩, ⟨t6_0, t6_1, t6_2, _⟩, ⟨t7_0, t7_1, t7_2, _⟩, ⟨t8, _⟩, _⟩ := s
  kernel_rfl
theorem ok100_4 (g97 : G97) (g98 : G98) (F : Nat) (hK : KOK Try.prog (ct100 g97 g98 )) : LSOK Try.prog ⟨44, false, undef⟩ (ls100_4 g97 g98 F) (loopOf Try.f100 4) kr100 :=
  loop_ok (st100_4 g97 g98 F) mixed tt_ok hK (by kernel_rfl) (LTOK_by (l := []) (by kernel_rfl) trivial) (ev100_4 g97 g98 F)
theorem ev100 (g97 : G97) (g98 : G98) (F : Nat) (x : Args [.v poly, .v poly, .v i64]) : fnK TT (ct100 g97 g98 ) kp100 [poly] [(4, ls100_4 g97 g98 F)] (bodyOf Try.f100) [.cell 6 58] [.v poly, .v poly, .v i64] true false x = fn100 g97 g98 F x := by
  obtain ⟨x0, x1, x2, _⟩ := x
  kernel_rfl
theorem ok100 (g97 : G97) (g98 : G98) (hK : KOK Try.prog (ct100 g97 g98 )) (cf : G100) (h : ∀ x y, cf x = some y → ∃ F, fn100 g97 g98 F x = some y) : KOne Try.prog 100 ⟨[.v poly, .v poly, .v i64], [poly], true, false, 0, cf⟩ :=
  fn_one rfl (c := bodyOf Try.f100) mixed tt_ok hK Try.func100 (by kernel_rfl) (by kernel_rfl) (Nat.le_of_ble_eq_true (by kernel_rfl)) (by decide) fun x y hxy => by
    obtain ⟨F, hF⟩ := h x y hxy
    exact ⟨[(4, ls100_4 g97 g98 F)], LTOK_by (l := [loopOf Try.f100 4]) (by kernel_rfl) ⟨ls_at (by kernel_rfl) (ok100_4 g97 g98 F hK), trivial⟩, (ev100 g97 g98 F x).trans hF⟩
/-! spec.l01Times -/
abbrev R99 : Type := Ress [poly, .bool]
abbrev G99 : Type := Args [.v poly, .v poly] → Option R99
abbrev kp99 : List (Nat × List Nat) := [(0, [2, 3, 4]), (1, [2, 3, 6, 4]), (2, [25, 2, 3, 6, 4]), (3, [5, 4]), (4, [32, 3, 2, 6, 4]), (5, [5, 4]), (6, [2, 7, 3, 6, 4]), (7, [38, 6, 3, 7, 2, 4]), (9, [8, 6, 3, 7, 2, 4]), (10, [45, 8, 6, 3, 7, 2, 4]), (12, [9, 10, 8, 6, 3, 7, 2, 4]), (13, [8, 6, 3, 7, 2, 4]), (11, [8, 6, 3, 7, 2, 4]), (8, [2, 7, 3, 6, 4]), (14, [5, 4])]
abbrev ct99 (g97 : G97) (g115 : G115) (g98 : G98) : CTab := [(97, ⟨[.v i64, .v i64], [poly], true, false, 0, g97⟩), (115, ⟨[.v poly], [i64], false, false, 0, g115⟩), (98, ⟨[.v poly, .v ex, .v i64], [poly], true, false, 0, g98⟩)]
abbrev kr99 : Env → Option R99 := endK TT [.cell 4 58, .tmp 5] [poly, .bool] true false
abbrev sh99_10 : Shape := [(2, .box false [.fz i64 0 false, .fz i64 0 false, .fz (.slice 135 term) 0 true]), (3, .box false [.fz i64 0 false, .fz i64 0 false, .fz (.slice 135 term) 0 true]), (4, .box false [.fz i64 0 false, .fz i64 0 false, .rt 135 term 67 false true true]), (6, .box false [.fz i64 0 false, .fz i64 0 false, .rt 135 term 99 false true false]), (7, vv i64), (8, vv i64)]
def st99_10 (g97 : G97) (g115 : G115) (g98 : G98) (F : Nat) (s : ShVal sh99_10) (k kx : ShVal sh99_10 → Option R99) : Option R99 :=
  match s with
  | ((t2_0, t2_1, t2_2, _), (t3_0, t3_1, t3_2, _), (t4_0, t4_1, t4_2, _), (t6_0, t6_1, t6_2, _), (t7, _), (t8, _), _) => (bif decide ((List.length t3_2) ≤ 9223372036854775807) then (bif decide (t8 < (Int.ofNat (List.length t3_2))) then (bif ib t7 (Int.ofNat (List.length t2_2)) then (bif ib t8 (Int.ofNat (List.length t3_2)) then (match (g98 ((t6_0, (t6_1, (t6_2, ()))), ((tset (w8 ((tget (0 : Int) 3 (List.getD t2_2 (tn t7) (Ty.dflt (.pair (.arr 3 (.int .u8)) (.pair (.int .i64) .unit)))).1 (tn (2 : Int))) + (tget (0 : Int) 3 (List.getD t3_2 (tn t8) (Ty.dflt (.pair (.arr 3 (.int .u8)) (.pair (.int .i64) .unit)))).1 (tn (2 : Int))))) 3 (tset (w8 ((tget (0 : Int) 3 (List.getD t2_2 (tn t7) (Ty.dflt (.pair (.arr 3 (.int .u8)) (.pair (.int .i64) .unit)))).1 (tn (1 : Int))) + (tget (0 : Int) 3 (List.getD t3_2 (tn t8) (Ty.dflt (.pair (.arr 3 (.int .u8)) (.pair (.int .i64) .unit)))).1 (tn (1 : Int))))) 3 (tset (w8 ((tget (0 : Int) 3 (List.getD t2_2 (tn t7) (Ty.dflt (.pair (.arr 3 (.int .u8)) (.pair (.int .i64) .unit)))).1 (tn (0 : Int))) + (tget (0 : Int) 3 (List.getD t3_2 (tn t8) (Ty.dflt (.pair (.arr 3 (.int .u8)) (.pair (.int .i64) .unit)))).1 (tn (0 : Int))))) 3 (tup Int (0 : Int) 3) 0) 1) 2), ((w6 ((List.getD t2_2 (tn t7) (Ty.dflt (.pair (.arr 3 (.int .u8)) (.pair (.int .i64) .unit)))).2.1 * (List.getD t3_2 (tn t8) (Ty.dflt (.pair (.arr 3 (.int .u8)) (.pair (.int .i64) .unit)))).2.1)), ())))) with | some r45 => k ((t2_0, (t2_1, (t2_2, ()))), ((t3_0, (t3_1, (t3_2, ()))), ((t4_0, (t4_1, (t4_2, ()))), ((r45.1.1, (r45.1.2.1, (r45.1.2.2.1, ()))), ((t7, ()), (((w6 (t8 + (1 : Int))), ()), ())))))) | none => none) else none) else none) else kx ((t2_0, (t2_1, (t2_2, ()))), ((t3_0, (t3_1, (t3_2, ()))), ((t4_0, (t4_1, (t4_2, ()))), ((t6_0, (t6_1, (t6_2, ()))), ((t7, ()), ((t8, ()), ()))))))) else none)
def ru99_10 (g97 : G97) (g115 : G115) (g98 : G98) (F : Nat) (s : ShVal sh99_10) (kx : ShVal sh99_10 → Option R99) : Option R99 := iter (fun s k => st99_10 g97 g115 g98 F s k kx) F s
abbrev ls99_10 (g97 : G97) (g115 : G115) (g98 : G98) (F : Nat) : LS R99 := ⟨sh99_10, 2, ru99_10 g97 g115 g98 F⟩
abbrev sh99_7 : Shape := [(2, .box false [.fz i64 0 false, .fz i64 0 false, .fz (.slice 135 term) 0 true]), (3, .box false [.fz i64 0 false, .fz i64 0 false, .fz (.slice 135 term) 0 true]), (4, .box false [.fz i64 0 false, .fz i64 0 false, .rt 135 term 67 false true true]), (6, .box false [.fz i64 0 false, .fz i64 0 false, .rt 135 term 99 false true false]), (7, vv i64)]
def st99_7 (g97 : G97) (g115 : G115) (g98 : G98) (F : Nat) (s : ShVal sh99_7) (k kx : ShVal sh99_7 → Option R99) : Option R99 :=
  match s with
  | ((t2_0, t2_1, t2_2, _), (t3_0, t3_1, t3_2, _), (t4_0, t4_1, t4_2, _), (t6_0, t6_1, t6_2, _), (t7, _), _) => (bif decide ((List.length t2_2) ≤ 9223372036854775807) then (bif decide (t7 < (Int.ofNat (List.length t2_2))) then (ru99_10 g97 g115 g98 F ((t2_0, (t2_1, (t2_2, ()))), ((t3_0, (t3_1, (t3_2, ()))), ((t4_0, (t4_1, (t4_2, ()))), ((t6_0, (t6_1, (t6_2, ()))), ((t7, ()), (((0 : Int), ()), ())))))) (fun s' => match s' with | ((t2_0, t2_1, t2_2, _), (t3_0, t3_1, t3_2, _), (t4_0, t4_1, t4_2, _), (t6_0, t6_1, t6_2, _), (t7, _), (t8, _), _) => k ((t2_0, (t2_1, (t2_2, ()))), ((t3_0, (t3_1, (t3_2, ()))), ((t4_0, (t4_1, (t4_2, ()))), ((t6_0, (t6_1, (t6_2, ()))), (((w6 (t7 + (1 : Int))), ()), ()))))))) else kx ((t2_0, (t2_1, (t2_2, ()))), ((t3_0, (t3_1, (t3_2, ()))), ((t4_0, (t4_1, (t4_2, ()))), ((t6_0, (t6_1, (t6_2, ()))), ((t7, ()), ())))))) else none)
def ru99_7 (g97 : G97) (g115 : G115) (g98 : G98) (F : Nat) (s : ShVal sh99_7) (kx : ShVal sh99_7 → Option R99) : Option R99 := iter (fun s k => st99_7 g97 g115 g98 F s k kx) F s
abbrev ls99_7 (g97 : G97) (g115 : G115) (g98 : G98) (F : Nat) : LS R99 := ⟨sh99_7, 0, ru99_7 g97 g115 g98 F⟩
def fn99 (g97 : G97) (g115 : G115) (g98 : G98) (F : Nat) (x : Args [.v poly, .v poly]) : Option R99 :=
  match x with
  | (x0, x1, _) => (match (g97 (x0.1, (x0.2.1, ()))) with | some r7 => (bif decide ((List.length x0.2.2.1) ≤ 9223372036854775807) then (bif decide ((Int.ofNat (List.length x0.2.2.1)) = (0 : Int)) then (some ((r7.1.1, (r7.1.2.1, (r7.1.2.2.1, ()))), (true, ()))) else (bif decide ((List.length x1.2.2.1) ≤ 9223372036854775807) then (bif (bif false then true else decide ((Int.ofNat (List.length x1.2.2.1)) = (0 : Int))) then (some ((r7.1.1, (r7.1.2.1, (r7.1.2.2.1, ()))), (true, ()))) else (match (g115 ((x0.1, (x0.2.1, (x0.2.2.1, ()))), ())) with | some r10 => (match (g115 ((x1.1, (x1.2.1, (x1.2.2.1, ()))), ())) with | some r11 => (bif decide ((12 : Int) < (w6 (r10.1 + r11.1))) then (some ((r7.1.1, (r7.1.2.1, (r7.1.2.2.1, ()))), (false, ()))) else (ru99_7 g97 g115 g98 F ((x0.1, (x0.2.1, (x0.2.2.1, ()))), ((x1.1, (x1.2.1, (x1.2.2.1, ()))), (((Ty.dflt (.pair (.int .i64) (.pair (.int .i64) (.pair (.slice 135 (.pair (.arr 3 (.int .u8)) (.pair (.int .i64) .unit))) .unit)))).1, ((Ty.dflt (.pair (.int .i64) (.pair (.int .i64) (.pair (.slice 135 (.pair (.arr 3 (.int .u8)) (.pair (.int .i64) .unit))) .unit)))).2.1, ((Ty.dflt (.pair (.int .i64) (.pair (.int .i64) (.pair (.slice 135 (.pair (.arr 3 (.int .u8)) (.pair (.int .i64) .unit))) .unit)))).2.2.1, ()))), ((r7.1.1, (r7.1.2.1, (r7.1.2.2.1, ()))), (((0 : Int), ()), ()))))) (fun s' => match s' with | ((t2_0, t2_1, t2_2, _), (t3_0, t3_1, t3_2, _), (t4_0, t4_1, t4_2, _), (t6_0, t6_1, t6_2, _), (t7, _), _) => (some ((t6_0, (t6_1, (t6_2, ()))), (true, ())))))) | none => none) | none => none)) else none)) else none) | none => none)
theorem ev99_10 (g97 : G97) (g115 : G115) (g98 : G98) (F : Nat) (s : ShVal sh99_10) (k kx : ShVal sh99_10 → Option R99) : evL TT (ct99 g97 g115 g98 ) kp99 [] (loopOf Try.f99 10) (envOf sh99_10 s) (fitK sh99_10 k) (fun j e => bif Nat.beq j 2 then fitK sh99_10 kx e else none) kr99 = st99_10 g97 g115 g98 F s k kx := by
  obtain ⟨⟨t2_0, t2_1, t2_2, _⟩, ⟨t3_0, t3_1, t3_2, _⟩, ⟨t4_0, t4_1, t4_2, _⟩, ⟨t6_0, t6_1, t6_2, _⟩, ⟨t7, _⟩, ⟨t8, _⟩, _⟩ := s
  kernel_rfl
theorem ok99_10 (g97 : G97) (g115 : G115) (g98 : G98) (F : Nat) (hK : KOK Try.prog (ct99 g97 g115 g98 )) : LSOK Try.prog ⟨88, false, undef⟩ (ls99_10 g97 g115 g98 F) (loopOf Try.f99 10) kr99 :=
  loop_ok (st99_10 g97 g115 g98 F) mixed tt_ok hK (by kernel_rfl) (LTOK_by (l := []) (by kernel_rfl) trivial) (ev99_10 g97 g115 g98 F)
theorem ev99_7 (g97 : G97) (g115 : G115) (g98 : G98) (F : Nat) (s : ShVal sh99_7) (k kx : ShVal sh99_7 → Option R99) : evL TT (ct99 g97 g115 g98 ) kp99 [(10, ls99_10 g97 g115 g98 F)] (loopOf Try.f99 7) (envOf sh99_7 s) (fitK sh99_7 k) (fun j e => bif Nat.beq j 0 then fitK sh99_7 kx e else none) kr99 = st99_7 g97 g115 g98 F s k kx := by
  obtain ⟨⟨t2_0, t2_1, t2_2, _⟩, ⟨t3_0, t3_1, t3_2, _⟩, ⟨t4_0, t4_1, t4_2, _⟩, ⟨t6_0, t6_1, t6_2, _⟩, ⟨t7, _⟩, _⟩ := s
  kernel_rfl
theorem ok99_7 (g97 : G97) (g115 : G115) (g98 : G98) (F : Nat) (hK : KOK Try.prog (ct99 g97 g115 g98 )) : LSOK Try.prog ⟨88, false, undef⟩ (ls99_7 g97 g115 g98 F) (loopOf Try.f99 7) kr99 :=
  loop_ok (st99_7 g97 g115 g98 F) mixed tt_ok hK (by kernel_rfl) (LTOK_by (l := [loopOf Try.f99 10]) (by kernel_rfl) ⟨ls_at (by kernel_rfl) (ok99_10 g97 g115 g98 F hK), trivial⟩) (ev99_7 g97 g115 g98 F)
theorem ev99 (g97 : G97) (g115 : G115) (g98 : G98) (F : Nat) (x : Args [.v poly, .v poly]) : fnK TT (ct99 g97 g115 g98 ) kp99 [poly, .bool] [(7, ls99_7 g97 g115 g98 F)] (bodyOf Try.f99) [.cell 4 58, .tmp 5] [.v poly, .v poly] true false x = fn99 g97 g115 g98 F x := by
  obtain ⟨x0, x1, _⟩ := x
  kernel_rfl
theorem ok99 (g97 : G97) (g115 : G115) (g98 : G98) (hK : KOK Try.prog (ct99 g97 g115 g98 )) (cf : G99) (h : ∀ x y, cf x = some y → ∃ F, fn99 g97 g115 g98 F x = some y) : KOne Try.prog 99 ⟨[.v poly, .v poly], [poly, .bool], true, false, 0, cf⟩ :=
  fn_one rfl (c := bodyOf Try.f99) mixed tt_ok hK Try.func99 (by kernel_rfl) (by kernel_rfl) (Nat.le_of_ble_eq_true (by kernel_rfl)) (by decide) fun x y hxy => by
    obtain ⟨F, hF⟩ := h x y hxy
    exact ⟨[(7, ls99_7 g97 g115 g98 F)], LTOK_by (l := [loopOf Try.f99 7]) (by kernel_rfl) ⟨ls_at (by kernel_rfl) (ok99_7 g97 g115 g98 F hK), trivial⟩, (ev99 g97 g115 g98 F x).trans hF⟩
/-! spec.l01One -/
abbrev R96 : Type := Ress [poly]
abbrev G96 : Type := Args [.v i64, .v i64, .v ex, .v i64] → Option R96
abbrev kp96 : List (Nat × List Nat) := [(0, [0, 1, 6, 3, 8]), (1, [8])]
abbrev ct96 (g97 : G97) (g98 : G98) : CTab := [(97, ⟨[.v i64, .v i64], [poly], true, false, 0, g97⟩), (98, ⟨[.v poly, .v ex, .v i64], [poly], true, false, 0, g98⟩)]
abbrev kr96 : Env → Option R96 := endK TT [.cell 8 58] [poly] true false
def fn96 (g97 : G97) (g98 : G98) (F : Nat) (x : Args [.v i64, .v i64, .v ex, .v i64]) : Option R96 :=
  match x with
  | (x0, x1, x2, x3, _) => (match (g97 (x0, (x1, ()))) with | some r8 => (match (g98 ((r8.1.1, (r8.1.2.1, (r8.1.2.2.1, ()))), (x2, (x3, ())))) with | some r9 => (some ((r9.1.1, (r9.1.2.1, (r9.1.2.2.1, ()))), ())) | none => none) | none => none)
theorem ev96 (g97 : G97) (g98 : G98) (F : Nat) (x : Args [.v i64, .v i64, .v ex, .v i64]) : fnK TT (ct96 g97 g98 ) kp96 [poly] [] (bodyOf Try.f96) [.cell 8 58] [.v i64, .v i64, .v ex, .v i64] true false x = fn96 g97 g98 F x := by
  obtain ⟨x0, x1, x2, x3, _⟩ := x
  kernel_rfl
theorem ok96 (g97 : G97) (g98 : G98) (hK : KOK Try.prog (ct96 g97 g98 )) (cf : G96) (h : ∀ x y, cf x = some y → ∃ F, fn96 g97 g98 F x = some y) : KOne Try.prog 96 ⟨[.v i64, .v i64, .v ex, .v i64], [poly], true, false, 0, cf⟩ :=
  fn_one rfl (c := bodyOf Try.f96) mixed tt_ok hK Try.func96 (by kernel_rfl) (by kernel_rfl) (Nat.le_of_ble_eq_true (by kernel_rfl)) (by decide) fun x y hxy => by
    obtain ⟨F, hF⟩ := h x y hxy
    exact ⟨[], LTOK_by (l := []) (by kernel_rfl) trivial, (ev96 g97 g98 F x).trans hF⟩
/-! spec.l01Is -/
abbrev R119 : Type := Ress [.bool]
abbrev G119 : Type := Args [.v poly] → Option R119
abbrev kp119 : List (Nat × List Nat) := [(0, [1]), (1, [14, 1]), (2, [2]), (3, [3, 1]), (4, [19, 1, 3]), (6, [4, 1, 3]), (7, [58, 1, 3]), (8, [2]), (5, [3, 1]), (9, [2])]
abbrev ct119 (g82 : G82) (g73 : G73) (g143 : G143) (g147 : G147) : CTab := [(82, ⟨[.v i64], [.bool], false, false, 0, g82⟩), (73, ⟨[.v i64, .v i64, .v i64], [.bool], false, false, 0, g73⟩), (143, ⟨[.v i64, .v ex], [.bool], false, false, 0, g143⟩), (147, ⟨[.v ex, .v ex], [.bool], false, false, 0, g147⟩)]
abbrev kr119 : Env → Option R119 := endK TT [.tmp 2] [.bool] false false
abbrev sh119_4 : Shape := [(1, .box false [.fz i64 0 false, .fz i64 0 false, .fz (.slice 135 term) 0 true]), (3, vv i64)]
def st119_4 (g82 : G82) (g73 : G73) (g143 : G143) (g147 : G147) (F : Nat) (s : ShVal sh119_4) (k kx : ShVal sh119_4 → Option R119) : Option R119 :=
  match s with
  | ((t1_0, t1_1, t1_2, _), (t3, _), _) => (bif decide ((List.length t1_2) ≤ 9223372036854775807) then (bif decide (t3 < (Int.ofNat (List.length t1_2))) then (bif ib t3 (Int.ofNat (List.length t1_2)) then (match (g143 (t1_1, ((List.getD t1_2 (tn t3) (Ty.dflt (.pair (.arr 3 (.int .u8)) (.pair (.int .i64) .unit)))).1, ()))) with | some r17 => (bif (!r17.1) then (some (false, ())) else (match (g73 ((List.getD t1_2 (tn t3) (Ty.dflt (.pair (.arr 3 (.int .u8)) (.pair (.int .i64) .unit)))).2.1, ((1 : Int), ((w6 (t1_0 - (1 : Int))), ())))) with | some r18 => (bif (bif false then true else (!r18.1)) then (some (false, ())) else (bif decide ((0 : Int) < t3) then (bif ib (w6 (t3 - (1 : Int))) (Int.ofNat (List.length t1_2)) then (match (g147 ((List.getD t1_2 (tn (w6 (t3 - (1 : Int)))) (Ty.dflt (.pair (.arr 3 (.int .u8)) (.pair (.int .i64) .unit)))).1, ((List.getD t1_2 (tn t3) (Ty.dflt (.pair (.arr 3 (.int .u8)) (.pair (.int .i64) .unit)))).1, ()))) with | some r19 => (bif (bif false then true else (bif true then (!r19.1) else false)) then (some (false, ())) else k ((t1_0, (t1_1, (t1_2, ()))), (((w6 (t3 + (1 : Int))), ()), ()))) | none => none) else none) else (bif (bif false then true else false) then (some (false, ())) else k ((t1_0, (t1_1, (t1_2, ()))), (((w6 (t3 + (1 : Int))), ()), ()))))) | none => none)) | none => none) else none) else kx ((t1_0, (t1_1, (t1_2, ()))), ((t3, ()), ()))) else none)
def ru119_4 (g82 : G82) (g73 : G73) (g143 : G143) (g147 : G147) (F : Nat) (s : ShVal sh119_4) (kx : ShVal sh119_4 → Option R119) : Option R119 := iter (fun s k => st119_4 g82 g73 g143 g147 F s k kx) F s
abbrev ls119_4 (g82 : G82) (g73 : G73) (g143 : G143) (g147 : G147) (F : Nat) : LS R119 := ⟨sh119_4, 0, ru119_4 g82 g73 g143 g147 F⟩
def fn119 (g82 : G82) (g73 : G73) (g143 : G143) (g147 : G147) (F : Nat) (x : Args [.v poly]) : Option R119 :=
  match x with
  | (x0, _) => (match (g82 (x0.1, ())) with | some r7 => (bif (!r7.1) then (some (false, ())) else (match (g73 (x0.2.1, ((1 : Int), ((3 : Int), ())))) with | some r8 => (bif (bif false then true else (!r8.1)) then (some (false, ())) else (ru119_4 g82 g73 g143 g147 F ((x0.1, (x0.2.1, (x0.2.2.1, ()))), (((0 : Int), ()), ())) (fun s' => match s' with | ((t1_0, t1_1, t1_2, _), (t3, _), _) => (some (true, ()))))) | none => none)) | none => none)
theorem ev119_4 (g82 : G82) (g73 : G73) (g143 : G143) (g147 : G147) (F : Nat) (s : ShVal sh119_4) (k kx : ShVal sh119_4 → Option R119) : evL TT (ct119 g82 g73 g143 g147 ) kp119 [] (loopOf Try.f119 4) (envOf sh119_4 s) (fitK sh119_4 k) (fun j e => bif Nat.beq j 0 then fitK sh119_4 kx e else none) kr119 = st119_4 g82 g73 g143 g147 F s k kx := by
  obtain ⟨⟨t1_0, t1_1, t1_2, _⟩, ⟨t3, _⟩, _⟩ := s
  kernel_rfl
theorem ok119_4 (g82 : G82) (g73 : G73) (g143 : G143) (g147 : G147) (F : Nat) (hK : KOK Try.prog (ct119 g82 g73 g143 g147 )) : LSOK Try.prog ⟨59, false, undef⟩ (ls119_4 g82 g73 g143 g147 F) (loopOf Try.f119 4) kr119 :=
  loop_ok (st119_4 g82 g73 g143 g147 F) mixed tt_ok hK (by kernel_rfl) (LTOK_by (l := []) (by kernel_rfl) trivial) (ev119_4 g82 g73 g143 g147 F)
theorem ev119 (g82 : G82) (g73 : G73) (g143 : G143) (g147 : G147) (F : Nat) (x : Args [.v poly]) : fnK TT (ct119 g82 g73 g143 g147 ) kp119 [.bool] [(4, ls119_4 g82 g73 g143 g147 F)] (bodyOf Try.f119) [.tmp 2] [.v poly] false false x = fn119 g82 g73 g143 g147 F x := by
  obtain ⟨x0, _⟩ := x
  kernel_rfl
theorem ok119 (g82 : G82) (g73 : G73) (g143 : G143) (g147 : G147) (hK : KOK Try.prog (ct119 g82 g73 g143 g147 )) (cf : G119) (h : ∀ x y, cf x = some y → ∃ F, fn119 g82 g73 g143 g147 F x = some y) : KOne Try.prog 119 ⟨[.v poly], [.bool], false, false, 0, cf⟩ :=
  fn_one rfl (c := bodyOf Try.f119) mixed tt_ok hK Try.func119 (by kernel_rfl) (by kernel_rfl) (Nat.le_of_ble_eq_true (by kernel_rfl)) (by decide) fun x y hxy => by
    obtain ⟨F, hF⟩ := h x y hxy
    exact ⟨[(4, ls119_4 g82 g73 g143 g147 F)], LTOK_by (l := [loopOf Try.f119 4]) (by kernel_rfl) ⟨ls_at (by kernel_rfl) (ok119_4 g82 g73 g143 g147 F hK), trivial⟩, (ev119 g82 g73 g143 g147 F x).trans hF⟩
/-! spec.l01Derive -/
abbrev R120 : Type := Ress [poly]
abbrev G120 : Type := Args [.v poly, .v i64] → Option R120
abbrev kp120 : List (Nat × List Nat) := [(0, [1, 2, 4]), (1, [1, 2, 5, 4]), (2, [6, 1, 2, 5, 4]), (3, [18, 6, 1, 2, 5, 4]), (5, [7, 6, 1, 2, 5, 4]), (6, [30, 7, 6, 1, 2, 5, 4]), (7, [7, 8, 6, 1, 2, 5, 4]), (8, [7, 8, 6, 1, 2, 5, 4]), (9, [6, 1, 2, 5, 4]), (4, [6, 1, 2, 5, 4]), (10, [4])]
abbrev ct120 (g97 : G97) (g98 : G98) : CTab := [(97, ⟨[.v i64, .v i64], [poly], true, false, 0, g97⟩), (98, ⟨[.v poly, .v ex, .v i64], [poly], true, false, 0, g98⟩)]
abbrev kr120 : Env → Option R120 := endK TT [.cell 4 58] [poly] true false
abbrev sh120_3 : Shape := [(1, vv i64), (2, .box false [.fz i64 0 false, .fz i64 0 false, .fz (.slice 135 term) 0 true]), (4, .box false [.fz i64 0 false, .fz i64 0 false, .rt 135 term 67 false true true]), (5, .box false [.fz i64 0 false, .fz i64 0 false, .rt 135 term 83 false true false]), (6, vv i64)]
def st120_3 (g97 : G97) (g98 : G98) (F : Nat) (s : ShVal sh120_3) (k kx : ShVal sh120_3 → Option R120) : Option R120 :=
  match s with
  | ((t1, _), (t2_0, t2_1, t2_2, _), (t4_0, t4_1, t4_2, _), (t5_0, t5_1, t5_2, _), (t6, _), _) => (bif decide ((List.length t2_2) ≤ 9223372036854775807) then (bif decide (t6 < (Int.ofNat (List.length t2_2))) then (bif ib t6 (Int.ofNat (List.length t2_2)) then (bif ib t1 (Int.ofNat 3) then (bif decide ((tget (0 : Int) 3 (List.getD t2_2 (tn t6) (Ty.dflt (.pair (.arr 3 (.int .u8)) (.pair (.int .i64) .unit)))).1 (tn t1)) = (0 : Int)) then k ((t1, ()), ((t2_0, (t2_1, (t2_2, ()))), ((t4_0, (t4_1, (t4_2, ()))), ((t5_0, (t5_1, (t5_2, ()))), (((w6 (t6 + (1 : Int))), ()), ()))))) else (bif ib t1 (Int.ofNat 3) then (bif ib t1 (Int.ofNat 3) then (bif ib t1 (Int.ofNat 3) then (bif ib t6 (Int.ofNat (List.length t2_2)) then (match (g98 ((t5_0, (t5_1, (t5_2, ()))), ((tset (w8 ((tget (0 : Int) 3 (List.getD t2_2 (tn t6) (Ty.dflt (.pair (.arr 3 (.int .u8)) (.pair (.int .i64) .unit)))).1 (tn t1)) - (1 : Int))) 3 (List.getD t2_2 (tn t6) (Ty.dflt (.pair (.arr 3 (.int .u8)) (.pair (.int .i64) .unit)))).1 (tn t1)), ((w6 ((w6 (tget (0 : Int) 3 (List.getD t2_2 (tn t6) (Ty.dflt (.pair (.arr 3 (.int .u8)) (.pair (.int .i64) .unit)))).1 (tn t1))) * (List.getD t2_2 (tn t6) (Ty.dflt (.pair (.arr 3 (.int .u8)) (.pair (.int .i64) .unit)))).2.1)), ())))) with | some r25 => k ((t1, ()), ((t2_0, (t2_1, (t2_2, ()))), ((t4_0, (t4_1, (t4_2, ()))), ((r25.1.1, (r25.1.2.1, (r25.1.2.2.1, ()))), (((w6 (t6 + (1 : Int))), ()), ()))))) | none => none) else none) else none) else none) else none)) else none) else none) else kx ((t1, ()), ((t2_0, (t2_1, (t2_2, ()))), ((t4_0, (t4_1, (t4_2, ()))), ((t5_0, (t5_1, (t5_2, ()))), ((t6, ()), ())))))) else none)
def ru120_3 (g97 : G97) (g98 : G98) (F : Nat) (s : ShVal sh120_3) (kx : ShVal sh120_3 → Option R120) : Option R120 := iter (fun s k => st120_3 g97 g98 F s k kx) F s
abbrev ls120_3 (g97 : G97) (g98 : G98) (F : Nat) : LS R120 := ⟨sh120_3, 0, ru120_3 g97 g98 F⟩
def fn120 (g97 : G97) (g98 : G98) (F : Nat) (x : Args [.v poly, .v i64]) : Option R120 :=
  match x with
  | (x0, x1, _) => (match (g97 (x0.1, (x0.2.1, ()))) with | some r6 => (ru120_3 g97 g98 F ((x1, ()), ((x0.1, (x0.2.1, (x0.2.2.1, ()))), (((Ty.dflt (.pair (.int .i64) (.pair (.int .i64) (.pair (.slice 135 (.pair (.arr 3 (.int .u8)) (.pair (.int .i64) .unit))) .unit)))).1, ((Ty.dflt (.pair (.int .i64) (.pair (.int .i64) (.pair (.slice 135 (.pair (.arr 3 (.int .u8)) (.pair (.int .i64) .unit))) .unit)))).2.1, ((Ty.dflt (.pair (.int .i64) (.pair (.int .i64) (.pair (.slice 135 (.pair (.arr 3 (.int .u8)) (.pair (.int .i64) .unit))) .unit)))).2.2.1, ()))), ((r6.1.1, (r6.1.2.1, (r6.1.2.2.1, ()))), (((0 : Int), ()), ()))))) (fun s' => match s' with | ((t1, _), (t2_0, t2_1, t2_2, _), (t4_0, t4_1, t4_2, _), (t5_0, t5_1, t5_2, _), (t6, _), _) => (some ((t5_0, (t5_1, (t5_2, ()))), ())))) | none => none)
theorem ev120_3 (g97 : G97) (g98 : G98) (F : Nat) (s : ShVal sh120_3) (k kx : ShVal sh120_3 → Option R120) : evL TT (ct120 g97 g98 ) kp120 [] (loopOf Try.f120 3) (envOf sh120_3 s) (fitK sh120_3 k) (fun j e => bif Nat.beq j 0 then fitK sh120_3 kx e else none) kr120 = st120_3 g97 g98 F s k kx := by
  obtain ⟨⟨t1, _⟩, ⟨t2_0, t2_1, t2_2, _⟩, ⟨t4_0, t4_1, t4_2, _⟩, ⟨t5_0, t5_1, t5_2, _⟩, ⟨t6, _⟩, _⟩ := s
  kernel_rfl
theorem ok120_3 (g97 : G97) (g98 : G98) (F : Nat) (hK : KOK Try.prog (ct120 g97 g98 )) : LSOK Try.prog ⟨52, false, undef⟩ (ls120_3 g97 g98 F) (loopOf Try.f120 3) kr120 :=
  loop_ok (st120_3 g97 g98 F) mixed tt_ok hK (by kernel_rfl) (LTOK_by (l := []) (by kernel_rfl) trivial) (ev120_3 g97 g98 F)
theorem ev120 (g97 : G97) (g98 : G98) (F : Nat) (x : Args [.v poly, .v i64]) : fnK TT (ct120 g97 g98 ) kp120 [poly] [(3, ls120_3 g97 g98 F)] (bodyOf Try.f120) [.cell 4 58] [.v poly, .v i64] true false x = fn120 g97 g98 F x := by
  obtain ⟨x0, x1, _⟩ := x
  kernel_rfl
theorem ok120 (g97 : G97) (g98 : G98) (hK : KOK Try.prog (ct120 g97 g98 )) (cf : G120) (h : ∀ x y, cf x = some y → ∃ F, fn120 g97 g98 F x = some y) : KOne Try.prog 120 ⟨[.v poly, .v i64], [poly], true, false, 0, cf⟩ :=
  fn_one rfl (c := bodyOf Try.f120) mixed tt_ok hK Try.func120 (by kernel_rfl) (by kernel_rfl) (Nat.le_of_ble_eq_true (by kernel_rfl)) (by decide) fun x y hxy => by
    obtain ⟨F, hF⟩ := h x y hxy
    exact ⟨[(3, ls120_3 g97 g98 F)], LTOK_by (l := [loopOf Try.f120 3]) (by kernel_rfl) ⟨ls_at (by kernel_rfl) (ok120_3 g97 g98 F hK), trivial⟩, (ev120 g97 g98 F x).trans hF⟩
end Go.Proofs.YtkoifikjfnbcpaaEv
