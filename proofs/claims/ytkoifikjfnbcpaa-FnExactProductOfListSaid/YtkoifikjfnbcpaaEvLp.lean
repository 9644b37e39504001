/- What functions of the program come to, printed by a program of this work: loops by their steps, calls by what is known of them; each text is checked by the kernel. No condition. -/
import Derived.Test.YtkoifikjfnbcpaaEvSl
set_option linter.unusedVariables false
namespace Go.Proofs.YtkoifikjfnbcpaaEv
open Go Go.RowKit
/-! laws.toExps -/
abbrev R181 : Type := Ress [ex]
abbrev G181 : Type := Args [.v ex] → Option R181
abbrev kp181 : List (Nat × List Nat) := [(0, [1, 2]), (1, [3, 1, 2]), (2, [4, 3, 1, 2]), (3, [6, 4, 3, 1, 2]), (5, [4, 3, 1, 2]), (4, [4, 3, 1, 2]), (6, [2])]
abbrev ct181 : CTab := []
abbrev kr181 : Env → Option R181 := endK TT [.cell 2 105] [ex] false false
abbrev sh181_3 : Shape := [(1, bb ex), (2, bb ex), (3, bb ex), (4, vv i64)]
def st181_3 (F : Nat) (s : ShVal sh181_3) (k kx : ShVal sh181_3 → Option R181) : Option R181 :=
  match s with
  | ((t1, _), (t2, _), (t3, _), (t4, _), _) => (bif decide (t4 < (3 : Int)) then (bif ib t4 (Int.ofNat 3) then (bif ib t4 (Int.ofNat 3) then k ((t1, ()), ((t2, ()), (((tset (tget (0 : Int) 3 t1 (tn t4)) 3 t3 (tn t4)), ()), (((w6 (t4 + (1 : Int))), ()), ())))) else none) else none) else kx ((t1, ()), ((t2, ()), ((t3, ()), ((t4, ()), ())))))
def ru181_3 (F : Nat) (s : ShVal sh181_3) (kx : ShVal sh181_3 → Option R181) : Option R181 := iter (fun s k => st181_3 F s k kx) F s
abbrev ls181_3 (F : Nat) : LS R181 := ⟨sh181_3, 0, ru181_3 F⟩
def fn181 (F : Nat) (x : Args [.v ex]) : Option R181 :=
  match x with
  | (x0, _) => (ru181_3 F ((x0, ()), (((Ty.dflt (.arr 3 (.int .u8))), ()), (((Ty.dflt (.arr 3 (.int .u8))), ()), (((0 : Int), ()), ())))) (fun s' => match s' with | ((t1, _), (t2, _), (t3, _), (t4, _), _) => (some (t3, ()))))
theorem ev181_3 (F : Nat) (s : ShVal sh181_3) (k kx : ShVal sh181_3 → Option R181) : evL TT (ct181 ) kp181 [] (loopOf Try.f181 3) (envOf sh181_3 s) (fitK sh181_3 k) (fun j e => bif Nat.beq j 0 then fitK sh181_3 kx e else none) kr181 = st181_3 F s k kx := by
  obtain ⟨⟨t1, _⟩, ⟨t2, _⟩, ⟨t3, _⟩, ⟨t4, _⟩, _⟩ := s
  kernel_rfl
theorem ok181_3 (F : Nat) (hK : KOK Try.prog (ct181 )) : LSOK Try.prog ⟨15, false, undef⟩ (ls181_3 F) (loopOf Try.f181 3) kr181 :=
  loop_ok (st181_3 F) mixed tt_ok hK (by kernel_rfl) (LTOK_by (l := []) (by kernel_rfl) trivial) (ev181_3 F)
theorem ev181 (F : Nat) (x : Args [.v ex]) : fnK TT (ct181 ) kp181 [ex] [(3, ls181_3 F)] (bodyOf Try.f181) [.cell 2 105] [.v ex] false false x = fn181 F x := by
  obtain ⟨x0, _⟩ := x
  kernel_rfl
theorem ok181 (hK : KOK Try.prog (ct181 )) (cf : G181) (h : ∀ x y, cf x = some y → ∃ F, fn181 F x = some y) : KOne Try.prog 181 ⟨[.v ex], [ex], false, false, 0, cf⟩ :=
  fn_one rfl (c := bodyOf Try.f181) mixed tt_ok hK Try.func181 (by kernel_rfl) (by kernel_rfl) (Nat.le_of_ble_eq_true (by kernel_rfl)) (by decide) fun x y hxy => by
    obtain ⟨F, hF⟩ := h x y hxy
    exact ⟨[(3, ls181_3 F)], LTOK_by (l := [loopOf Try.f181 3]) (by kernel_rfl) ⟨ls_at (by kernel_rfl) (ok181_3 F hK), trivial⟩, (ev181 F x).trans hF⟩
/-! laws.szTermS -/
abbrev R134 : Type := Ress [i64]
abbrev G134 : Type := Args [.v (.slice 158 term), .v i64] → Option R134
abbrev kp134 : List (Nat × List Nat) := [(0, [1, 0]), (1, [1]), (2, [10, 1]), (3, [4]), (4, [4])]
abbrev ct134 : CTab := []
abbrev kr134 : Env → Option R134 := endK TT [.tmp 4] [i64] false false
def fn134 (F : Nat) (x : Args [.v (.slice 158 term), .v i64]) : Option R134 :=
  match x with
  | (x0, x1, _) => (bif decide ((List.length x0) ≤ 9223372036854775807) then (bif decide ((w6 (x1 - (Int.ofNat (List.length x0)))) < (0 : Int)) then (some ((-(1 : Int)), ())) else (some ((w6 (x1 - (Int.ofNat (List.length x0)))), ()))) else none)
theorem ev134 (F : Nat) (x : Args [.v (.slice 158 term), .v i64]) : fnK TT (ct134 ) kp134 [i64] [] (bodyOf Try.f134) [.tmp 4] [.v (.slice 158 term), .v i64] false false x = fn134 F x := by
  obtain ⟨x0, x1, _⟩ := x
  kernel_rfl
theorem ok134 (hK : KOK Try.prog (ct134 )) (cf : G134) (h : ∀ x y, cf x = some y → ∃ F, fn134 F x = some y) : KOne Try.prog 134 ⟨[.v (.slice 158 term), .v i64], [i64], false, false, 0, cf⟩ :=
  fn_one rfl (c := bodyOf Try.f134) mixed tt_ok hK Try.func134 (by kernel_rfl) (by kernel_rfl) (Nat.le_of_ble_eq_true (by kernel_rfl)) (by decide) fun x y hxy => by
    obtain ⟨F, hF⟩ := h x y hxy
    exact ⟨[], LTOK_by (l := []) (by kernel_rfl) trivial, (ev134 F x).trans hF⟩
/-! laws.szPoly -/
abbrev R63 : Type := Ress [i64]
abbrev G63 : Type := Args [.v lpoly, .v i64] → Option R63
abbrev kp63 : List (Nat × List Nat) := [(0, [2, 1]), (1, [1]), (2, [10, 1]), (3, [4]), (4, [4])]
abbrev ct63 (g134 : G134) : CTab := [(134, ⟨[.v (.slice 158 term), .v i64], [i64], false, false, 0, g134⟩)]
abbrev kr63 : Env → Option R63 := endK TT [.tmp 4] [i64] false false
def fn63 (g134 : G134) (F : Nat) (x : Args [.v lpoly, .v i64]) : Option R63 :=
  match x with
  | (x0, x1, _) => (match (g134 (x0.2.2.1, (x1, ()))) with | some r5 => (bif decide (r5.1 < (0 : Int)) then (some ((-(1 : Int)), ())) else (some (r5.1, ()))) | none => none)
theorem ev63 (g134 : G134) (F : Nat) (x : Args [.v lpoly, .v i64]) : fnK TT (ct63 g134 ) kp63 [i64] [] (bodyOf Try.f63) [.tmp 4] [.v lpoly, .v i64] false false x = fn63 g134 F x := by
  obtain ⟨x0, x1, _⟩ := x
  kernel_rfl
theorem ok63 (g134 : G134) (hK : KOK Try.prog (ct63 g134 )) (cf : G63) (h : ∀ x y, cf x = some y → ∃ F, fn63 g134 F x = some y) : KOne Try.prog 63 ⟨[.v lpoly, .v i64], [i64], false, false, 0, cf⟩ :=
  fn_one rfl (c := bodyOf Try.f63) mixed tt_ok hK Try.func63 (by kernel_rfl) (by kernel_rfl) (Nat.le_of_ble_eq_true (by kernel_rfl)) (by decide) fun x y hxy => by
    obtain ⟨F, hF⟩ := h x y hxy
    exact ⟨[], LTOK_by (l := []) (by kernel_rfl) trivial, (ev63 g134 F x).trans hF⟩
/-! laws.szPolyS -/
abbrev R21 : Type := Ress [i64]
abbrev G21 : Type := Args [.v (.slice 84 lpoly), .v i64] → Option R21
abbrev kp21 : List (Nat × List Nat) := [(0, [1, 0]), (1, [0, 1]), (2, [11, 0, 1]), (3, [4]), (4, [5, 1, 0]), (5, [15, 1, 0, 5]), (7, [0, 1, 5]), (8, [25, 0, 1, 5]), (9, [4]), (6, [5, 1, 0]), (10, [4])]
abbrev ct21 (g63 : G63) : CTab := [(63, ⟨[.v lpoly, .v i64], [i64], false, false, 0, g63⟩)]
abbrev kr21 : Env → Option R21 := endK TT [.tmp 4] [i64] false false
abbrev sh21_5 : Shape := [(0, .val false [.fz (.slice 84 lpoly) 0 true]), (1, vv i64), (5, vv i64)]
def st21_5 (g63 : G63) (F : Nat) (s : ShVal sh21_5) (k kx : ShVal sh21_5 → Option R21) : Option R21 :=
  match s with
  | ((t0, _), (t1, _), (t5, _), _) => (bif decide ((List.length t0) ≤ 9223372036854775807) then (bif decide (t5 < (Int.ofNat (List.length t0))) then (bif ib t5 (Int.ofNat (List.length t0)) then (match (g63 ((List.getD t0 (tn t5) (Ty.dflt (.pair (.int .i64) (.pair (.int .i64) (.pair (.slice 158 (.pair (.arr 3 (.int .u8)) (.pair (.int .i64) .unit))) .unit))))), (t1, ()))) with | some r12 => (bif decide (r12.1 < (0 : Int)) then (some ((-(1 : Int)), ())) else k ((t0, ()), ((r12.1, ()), (((w6 (t5 + (1 : Int))), ()), ())))) | none => none) else none) else kx ((t0, ()), ((t1, ()), ((t5, ()), ())))) else none)
def ru21_5 (g63 : G63) (F : Nat) (s : ShVal sh21_5) (kx : ShVal sh21_5 → Option R21) : Option R21 := iter (fun s k => st21_5 g63 F s k kx) F s
abbrev ls21_5 (g63 : G63) (F : Nat) : LS R21 := ⟨sh21_5, 0, ru21_5 g63 F⟩
def fn21 (g63 : G63) (F : Nat) (x : Args [.v (.slice 84 lpoly), .v i64]) : Option R21 :=
  match x with
  | (x0, x1, _) => (bif decide ((List.length x0) ≤ 9223372036854775807) then (bif decide ((w6 (x1 - (Int.ofNat (List.length x0)))) < (0 : Int)) then (some ((-(1 : Int)), ())) else (ru21_5 g63 F ((x0, ()), (((w6 (x1 - (Int.ofNat (List.length x0)))), ()), (((0 : Int), ()), ()))) (fun s' => match s' with | ((t0, _), (t1, _), (t5, _), _) => (some (t1, ()))))) else none)
theorem ev21_5 (g63 : G63) (F : Nat) (s : ShVal sh21_5) (k kx : ShVal sh21_5 → Option R21) : evL TT (ct21 g63 ) kp21 [] (loopOf Try.f21 5) (envOf sh21_5 s) (fitK sh21_5 k) (fun j e => bif Nat.beq j 0 then fitK sh21_5 kx e else none) kr21 = st21_5 g63 F s k kx := by
  obtain ⟨⟨t0, _⟩, ⟨t1, _⟩, ⟨t5, _⟩, _⟩ := s
  kernel_rfl
theorem ok21_5 (g63 : G63) (F : Nat) (hK : KOK Try.prog (ct21 g63 )) : LSOK Try.prog ⟨27, false, undef⟩ (ls21_5 g63 F) (loopOf Try.f21 5) kr21 :=
  loop_ok (st21_5 g63 F) mixed tt_ok hK (by kernel_rfl) (LTOK_by (l := []) (by kernel_rfl) trivial) (ev21_5 g63 F)
theorem ev21 (g63 : G63) (F : Nat) (x : Args [.v (.slice 84 lpoly), .v i64]) : fnK TT (ct21 g63 ) kp21 [i64] [(5, ls21_5 g63 F)] (bodyOf Try.f21) [.tmp 4] [.v (.slice 84 lpoly), .v i64] false false x = fn21 g63 F x := by
  obtain ⟨x0, x1, _⟩ := x
  kernel_rfl
theorem ok21 (g63 : G63) (hK : KOK Try.prog (ct21 g63 )) (cf : G21) (h : ∀ x y, cf x = some y → ∃ F, fn21 g63 F x = some y) : KOne Try.prog 21 ⟨[.v (.slice 84 lpoly), .v i64], [i64], false, false, 0, cf⟩ :=
  fn_one rfl (c := bodyOf Try.f21) mixed tt_ok hK Try.func21 (by kernel_rfl) (by kernel_rfl) (Nat.le_of_ble_eq_true (by kernel_rfl)) (by decide) fun x y hxy => by
    obtain ⟨F, hF⟩ := h x y hxy
    exact ⟨[(5, ls21_5 g63 F)], LTOK_by (l := [loopOf Try.f21 5]) (by kernel_rfl) ⟨ls_at (by kernel_rfl) (ok21_5 g63 F hK), trivial⟩, (ev21 g63 F x).trans hF⟩
/-! laws.toTerm -/
abbrev R168 : Type := Ress [term]
abbrev G168 : Type := Args [.v term] → Option R168
abbrev kp168 : List (Nat × List Nat) := [(0, [1, 2]), (1, [1, 3, 2]), (2, [1, 3, 2]), (3, [3, 2]), (4, [2])]
abbrev ct168 (g181 : G181) : CTab := [(181, ⟨[.v ex], [ex], false, false, 0, g181⟩)]
abbrev kr168 : Env → Option R168 := endK TT [.cell 2 135] [term] false false
def fn168 (g181 : G181) (F : Nat) (x : Args [.v term]) : Option R168 :=
  match x with
  | (x0, _) => (match (g181 (x0.1, ())) with | some r5 => (some ((r5.1, (x0.2.1, ())), ())) | none => none)
theorem ev168 (g181 : G181) (F : Nat) (x : Args [.v term]) : fnK TT (ct168 g181 ) kp168 [term] [] (bodyOf Try.f168) [.cell 2 135] [.v term] false false x = fn168 g181 F x := by
  obtain ⟨x0, _⟩ := x
  kernel_rfl
theorem ok168 (g181 : G181) (hK : KOK Try.prog (ct168 g181 )) (cf : G168) (h : ∀ x y, cf x = some y → ∃ F, fn168 g181 F x = some y) : KOne Try.prog 168 ⟨[.v term], [term], false, false, 0, cf⟩ :=
  fn_one rfl (c := bodyOf Try.f168) mixed tt_ok hK Try.func168 (by kernel_rfl) (by kernel_rfl) (Nat.le_of_ble_eq_true (by kernel_rfl)) (by decide) fun x y hxy => by
    obtain ⟨F, hF⟩ := h x y hxy
    exact ⟨[], LTOK_by (l := []) (by kernel_rfl) trivial, (ev168 g181 F x).trans hF⟩
/-! laws.toTermS -/
abbrev R136 : Type := Ress [(.slice 135 term)]
abbrev G136 : Type := Args [.v (.slice 158 term)] → Option R136
abbrev kp136 : List (Nat × List Nat) := [(0, [0]), (1, [0, 3]), (2, [4, 0, 3]), (3, [11, 4, 0, 3]), (5, [4, 0, 3]), (4, [4, 0, 3]), (6, [2])]
abbrev ct136 (g168 : G168) : CTab := [(168, ⟨[.v term], [term], false, false, 0, g168⟩)]
abbrev kr136 : Env → Option R136 := endK TT [.tmp 2] [(.slice 135 term)] true false
abbrev sh136_3 : Shape := [(0, .val false [.fz (.slice 158 term) 0 true]), (3, vr 135 term 49 false), (4, vv i64)]
def st136_3 (g168 : G168) (F : Nat) (s : ShVal sh136_3) (k kx : ShVal sh136_3 → Option R136) : Option R136 :=
  match s with
  | ((t0, _), (t3, _), (t4, _), _) => (bif decide ((List.length t0) ≤ 9223372036854775807) then (bif decide (t4 < (Int.ofNat (List.length t0))) then (bif ib t4 (Int.ofNat (List.length t0)) then (match (g168 ((List.getD t0 (tn t4) (Ty.dflt (.pair (.arr 3 (.int .u8)) (.pair (.int .i64) .unit)))), ())) with | some r10 => (bif ib t4 (Int.ofNat (List.length t3)) then k ((t0, ()), (((List.set t3 (tn t4) r10.1), ()), (((w6 (t4 + (1 : Int))), ()), ()))) else none) | none => none) else none) else kx ((t0, ()), ((t3, ()), ((t4, ()), ())))) else none)
def ru136_3 (g168 : G168) (F : Nat) (s : ShVal sh136_3) (kx : ShVal sh136_3 → Option R136) : Option R136 := iter (fun s k => st136_3 g168 F s k kx) F s
abbrev ls136_3 (g168 : G168) (F : Nat) : LS R136 := ⟨sh136_3, 0, ru136_3 g168 F⟩
def fn136 (g168 : G168) (F : Nat) (x : Args [.v (.slice 158 term)]) : Option R136 :=
  match x with
  | (x0, _) => (bif decide ((List.length x0) ≤ 9223372036854775807) then (bif ((decide ((0 : Int) ≤ (Int.ofNat (List.length x0))) && decide ((Int.ofNat (List.length x0)) ≤ (1099511627776 : Int))) && decide ((Int.ofNat (List.length x0)) = (Int.ofNat (List.length x0)))) then (ru136_3 g168 F ((x0, ()), (((List.replicate (tn (Int.ofNat (List.length x0))) (Ty.dflt (.pair (.arr 3 (.int .u8)) (.pair (.int .i64) .unit)))), ()), (((0 : Int), ()), ()))) (fun s' => match s' with | ((t0, _), (t3, _), (t4, _), _) => (some (t3, ())))) else none) else none)
theorem ev136_3 (g168 : G168) (F : Nat) (s : ShVal sh136_3) (k kx : ShVal sh136_3 → Option R136) : evL TT (ct136 g168 ) kp136 [] (loopOf Try.f136 3) (envOf sh136_3 s) (fitK sh136_3 k) (fun j e => bif Nat.beq j 0 then fitK sh136_3 kx e else none) kr136 = st136_3 g168 F s k kx := by
  obtain ⟨⟨t0, _⟩, ⟨t3, _⟩, ⟨t4, _⟩, _⟩ := s
  kernel_rfl
theorem ok136_3 (g168 : G168) (F : Nat) (hK : KOK Try.prog (ct136 g168 )) : LSOK Try.prog ⟨23, false, undef⟩ (ls136_3 g168 F) (loopOf Try.f136 3) kr136 :=
  loop_ok (st136_3 g168 F) mixed tt_ok hK (by kernel_rfl) (LTOK_by (l := []) (by kernel_rfl) trivial) (ev136_3 g168 F)
theorem ev136 (g168 : G168) (F : Nat) (x : Args [.v (.slice 158 term)]) : fnK TT (ct136 g168 ) kp136 [(.slice 135 term)] [(3, ls136_3 g168 F)] (bodyOf Try.f136) [.tmp 2] [.v (.slice 158 term)] true false x = fn136 g168 F x := by
  obtain ⟨x0, _⟩ := x
  kernel_rfl
theorem ok136 (g168 : G168) (hK : KOK Try.prog (ct136 g168 )) (cf : G136) (h : ∀ x y, cf x = some y → ∃ F, fn136 g168 F x = some y) : KOne Try.prog 136 ⟨[.v (.slice 158 term)], [(.slice 135 term)], true, false, 0, cf⟩ :=
  fn_one rfl (c := bodyOf Try.f136) mixed tt_ok hK Try.func136 (by kernel_rfl) (by kernel_rfl) (Nat.le_of_ble_eq_true (by kernel_rfl)) (by decide) fun x y hxy => by
    obtain ⟨F, hF⟩ := h x y hxy
    exact ⟨[(3, ls136_3 g168 F)], LTOK_by (l := [loopOf Try.f136 3]) (by kernel_rfl) ⟨ls_at (by kernel_rfl) (ok136_3 g168 F hK), trivial⟩, (ev136 g168 F x).trans hF⟩
/-! laws.toPoly -/
abbrev R66 : Type := Ress [poly]
abbrev G66 : Type := Args [.v lpoly] → Option R66
abbrev kp66 : List (Nat × List Nat) := [(0, [1, 2]), (1, [1, 3, 2]), (2, [1, 3, 2]), (3, [1, 3, 2]), (4, [3, 2]), (5, [2])]
abbrev ct66 (g136 : G136) : CTab := [(136, ⟨[.v (.slice 158 term)], [(.slice 135 term)], true, false, 0, g136⟩)]
abbrev kr66 : Env → Option R66 := endK TT [.cell 2 58] [poly] true false
def fn66 (g136 : G136) (F : Nat) (x : Args [.v lpoly]) : Option R66 :=
  match x with
  | (x0, _) => (match (g136 (x0.2.2.1, ())) with | some r7 => (some ((x0.1, (x0.2.1, (r7.1, ()))), ())) | none => none)
theorem ev66 (g136 : G136) (F : Nat) (x : Args [.v lpoly]) : fnK TT (ct66 g136 ) kp66 [poly] [] (bodyOf Try.f66) [.cell 2 58] [.v lpoly] true false x = fn66 g136 F x := by
  obtain ⟨x0, _⟩ := x
  kernel_rfl
theorem ok66 (g136 : G136) (hK : KOK Try.prog (ct66 g136 )) (cf : G66) (h : ∀ x y, cf x = some y → ∃ F, fn66 g136 F x = some y) : KOne Try.prog 66 ⟨[.v lpoly], [poly], true, false, 0, cf⟩ :=
  fn_one rfl (c := bodyOf Try.f66) mixed tt_ok hK Try.func66 (by kernel_rfl) (by kernel_rfl) (Nat.le_of_ble_eq_true (by kernel_rfl)) (by decide) fun x y hxy => by
    obtain ⟨F, hF⟩ := h x y hxy
    exact ⟨[], LTOK_by (l := []) (by kernel_rfl) trivial, (ev66 g136 F x).trans hF⟩
/-! laws.toPolyS -/
abbrev R23 : Type := Ress [(.slice 58 poly)]
abbrev G23 : Type := Args [.v (.slice 84 lpoly)] → Option R23
abbrev kp23 : List (Nat × List Nat) := [(0, [0]), (1, [0, 3]), (2, [4, 0, 3]), (3, [11, 4, 0, 3]), (5, [4, 0, 3]), (4, [4, 0, 3]), (6, [2])]
abbrev ct23 (g66 : G66) : CTab := [(66, ⟨[.v lpoly], [poly], true, false, 0, g66⟩)]
abbrev kr23 : Env → Option R23 := endK TT [.tmp 2] [(.slice 58 poly)] true false
abbrev sh23_3 : Shape := [(0, .val false [.fz (.slice 84 lpoly) 0 true]), (3, vr 58 poly 49 false), (4, vv i64)]
def st23_3 (g66 : G66) (F : Nat) (s : ShVal sh23_3) (k kx : ShVal sh23_3 → Option R23) : Option R23 :=
  match s with
  | ((t0, _), (t3, _), (t4, _), _) => (bif decide ((List.length t0) ≤ 9223372036854775807) then (bif decide (t4 < (Int.ofNat (List.length t0))) then (bif ib t4 (Int.ofNat (List.length t0)) then (match (g66 ((List.getD t0 (tn t4) (Ty.dflt (.pair (.int .i64) (.pair (.int .i64) (.pair (.slice 158 (.pair (.arr 3 (.int .u8)) (.pair (.int .i64) .unit))) .unit))))), ())) with | some r10 => (bif ib t4 (Int.ofNat (List.length t3)) then k ((t0, ()), (((List.set t3 (tn t4) (r10.1.1, (r10.1.2.1, (r10.1.2.2.1, ())))), ()), (((w6 (t4 + (1 : Int))), ()), ()))) else none) | none => none) else none) else kx ((t0, ()), ((t3, ()), ((t4, ()), ())))) else none)
def ru23_3 (g66 : G66) (F : Nat) (s : ShVal sh23_3) (kx : ShVal sh23_3 → Option R23) : Option R23 := iter (fun s k => st23_3 g66 F s k kx) F s
abbrev ls23_3 (g66 : G66) (F : Nat) : LS R23 := ⟨sh23_3, 0, ru23_3 g66 F⟩
def fn23 (g66 : G66) (F : Nat) (x : Args [.v (.slice 84 lpoly)]) : Option R23 :=
  match x with
  | (x0, _) => (bif decide ((List.length x0) ≤ 9223372036854775807) then (bif ((decide ((0 : Int) ≤ (Int.ofNat (List.length x0))) && decide ((Int.ofNat (List.length x0)) ≤ (1099511627776 : Int))) && decide ((Int.ofNat (List.length x0)) = (Int.ofNat (List.length x0)))) then (ru23_3 g66 F ((x0, ()), (((List.replicate (tn (Int.ofNat (List.length x0))) (Ty.dflt (.pair (.int .i64) (.pair (.int .i64) (.pair (.slice 135 (.pair (.arr 3 (.int .u8)) (.pair (.int .i64) .unit))) .unit))))), ()), (((0 : Int), ()), ()))) (fun s' => match s' with | ((t0, _), (t3, _), (t4, _), _) => (some (t3, ())))) else none) else none)
theorem ev23_3 (g66 : G66) (F : Nat) (s : ShVal sh23_3) (k kx : ShVal sh23_3 → Option R23) : evL TT (ct23 g66 ) kp23 [] (loopOf Try.f23 3) (envOf sh23_3 s) (fitK sh23_3 k) (fun j e => bif Nat.beq j 0 then fitK sh23_3 kx e else none) kr23 = st23_3 g66 F s k kx := by
  obtain ⟨⟨t0, _⟩, ⟨t3, _⟩, ⟨t4, _⟩, _⟩ := s
  kernel_rfl
theorem ok23_3 (g66 : G66) (F : Nat) (hK : KOK Try.prog (ct23 g66 )) : LSOK Try.prog ⟨23, false, undef⟩ (ls23_3 g66 F) (loopOf Try.f23 3) kr23 :=
  loop_ok (st23_3 g66 F) mixed tt_ok hK (by kernel_rfl) (LTOK_by (l := []) (by kernel_rfl) trivial) (ev23_3 g66 F)
theorem ev23 (g66 : G66) (F : Nat) (x : Args [.v (.slice 84 lpoly)]) : fnK TT (ct23 g66 ) kp23 [(.slice 58 poly)] [(3, ls23_3 g66 F)] (bodyOf Try.f23) [.tmp 2] [.v (.slice 84 lpoly)] true false x = fn23 g66 F x := by
  obtain ⟨x0, _⟩ := x
  kernel_rfl
theorem ok23 (g66 : G66) (hK : KOK Try.prog (ct23 g66 )) (cf : G23) (h : ∀ x y, cf x = some y → ∃ F, fn23 g66 F x = some y) : KOne Try.prog 23 ⟨[.v (.slice 84 lpoly)], [(.slice 58 poly)], true, false, 0, cf⟩ :=
  fn_one rfl (c := bodyOf Try.f23) mixed tt_ok hK Try.func23 (by kernel_rfl) (by kernel_rfl) (Nat.le_of_ble_eq_true (by kernel_rfl)) (by decide) fun x y hxy => by
    obtain ⟨F, hF⟩ := h x y hxy
    exact ⟨[(3, ls23_3 g66 F)], LTOK_by (l := [loopOf Try.f23 3]) (by kernel_rfl) ⟨ls_at (by kernel_rfl) (ok23_3 g66 F hK), trivial⟩, (ev23 g66 F x).trans hF⟩
/-! laws.eqPolyS -/
abbrev R26 : Type := Ress [.bool]
abbrev G26 : Type := Args [.v (.slice 58 poly), .v (.slice 58 poly)] → Option R26
abbrev kp26 : List (Nat × List Nat) := [(0, [0, 1]), (1, [10, 0, 1]), (2, [4]), (3, [5, 1, 0]), (4, [14, 0, 1, 5]), (6, [26, 0, 1, 5]), (7, [4]), (5, [5, 1, 0]), (8, [4])]
abbrev ct26 (g39 : G39) : CTab := [(39, ⟨[.v poly, .v poly], [.bool], false, false, 0, g39⟩)]
abbrev kr26 : Env → Option R26 := endK TT [.tmp 4] [.bool] false false
abbrev sh26_4 : Shape := [(0, .val false [.fz (.slice 58 poly) 0 true]), (1, .val false [.fz (.slice 58 poly) 0 true]), (5, vv i64)]
def st26_4 (g39 : G39) (F : Nat) (s : ShVal sh26_4) (k kx : ShVal sh26_4 → Option R26) : Option R26 :=
  match s with
  | ((t0, _), (t1, _), (t5, _), _) => (bif decide ((List.length t0) ≤ 9223372036854775807) then (bif decide (t5 < (Int.ofNat (List.length t0))) then (bif ib t5 (Int.ofNat (List.length t0)) then (bif ib t5 (Int.ofNat (List.length t1)) then (match (g39 ((List.getD t0 (tn t5) (Ty.dflt (.pair (.int .i64) (.pair (.int .i64) (.pair (.slice 135 (.pair (.arr 3 (.int .u8)) (.pair (.int .i64) .unit))) .unit))))), ((List.getD t1 (tn t5) (Ty.dflt (.pair (.int .i64) (.pair (.int .i64) (.pair (.slice 135 (.pair (.arr 3 (.int .u8)) (.pair (.int .i64) .unit))) .unit))))), ()))) with | some r11 => (bif (!r11.1) then (some (false, ())) else k ((t0, ()), ((t1, ()), (((w6 (t5 + (1 : Int))), ()), ())))) | none => none) else none) else none) else kx ((t0, ()), ((t1, ()), ((t5, ()), ())))) else none)
def ru26_4 (g39 : G39) (F : Nat) (s : ShVal sh26_4) (kx : ShVal sh26_4 → Option R26) : Option R26 := iter (fun s k => st26_4 g39 F s k kx) F s
abbrev ls26_4 (g39 : G39) (F : Nat) : LS R26 := ⟨sh26_4, 0, ru26_4 g39 F⟩
def fn26 (g39 : G39) (F : Nat) (x : Args [.v (.slice 58 poly), .v (.slice 58 poly)]) : Option R26 :=
  match x with
  | (x0, x1, _) => (bif decide ((List.length x0) ≤ 9223372036854775807) then (bif decide ((List.length x1) ≤ 9223372036854775807) then (bif (!decide ((Int.ofNat (List.length x0)) = (Int.ofNat (List.length x1)))) then (some (false, ())) else (ru26_4 g39 F ((x0, ()), ((x1, ()), (((0 : Int), ()), ()))) (fun s' => match s' with | ((t0, _), (t1, _), (t5, _), _) => (some (true, ()))))) else none) else none)
theorem ev26_4 (g39 : G39) (F : Nat) (s : ShVal sh26_4) (k kx : ShVal sh26_4 → Option R26) : evL TT (ct26 g39 ) kp26 [] (loopOf Try.f26 4) (envOf sh26_4 s) (fitK sh26_4 k) (fun j e => bif Nat.beq j 0 then fitK sh26_4 kx e else none) kr26 = st26_4 g39 F s k kx := by
  obtain ⟨⟨t0, _⟩, ⟨t1, _⟩, ⟨t5, _⟩, _⟩ := s
  kernel_rfl
theorem ok26_4 (g39 : G39) (F : Nat) (hK : KOK Try.prog (ct26 g39 )) : LSOK Try.prog ⟨27, false, undef⟩ (ls26_4 g39 F) (loopOf Try.f26 4) kr26 :=
  loop_ok (st26_4 g39 F) mixed tt_ok hK (by kernel_rfl) (LTOK_by (l := []) (by kernel_rfl) trivial) (ev26_4 g39 F)
theorem ev26 (g39 : G39) (F : Nat) (x : Args [.v (.slice 58 poly), .v (.slice 58 poly)]) : fnK TT (ct26 g39 ) kp26 [.bool] [(4, ls26_4 g39 F)] (bodyOf Try.f26) [.tmp 4] [.v (.slice 58 poly), .v (.slice 58 poly)] false false x = fn26 g39 F x := by
  obtain ⟨x0, x1, _⟩ := x
  kernel_rfl
theorem ok26 (g39 : G39) (hK : KOK Try.prog (ct26 g39 )) (cf : G26) (h : ∀ x y, cf x = some y → ∃ F, fn26 g39 F x = some y) : KOne Try.prog 26 ⟨[.v (.slice 58 poly), .v (.slice 58 poly)], [.bool], false, false, 0, cf⟩ :=
  fn_one rfl (c := bodyOf Try.f26) mixed tt_ok hK Try.func26 (by kernel_rfl) (by kernel_rfl) (Nat.le_of_ble_eq_true (by kernel_rfl)) (by decide) fun x y hxy => by
    obtain ⟨F, hF⟩ := h x y hxy
    exact ⟨[(4, ls26_4 g39 F)], LTOK_by (l := [loopOf Try.f26 4]) (by kernel_rfl) ⟨ls_at (by kernel_rfl) (ok26_4 g39 F hK), trivial⟩, (ev26 g39 F x).trans hF⟩
end Go.Proofs.YtkoifikjfnbcpaaEv
