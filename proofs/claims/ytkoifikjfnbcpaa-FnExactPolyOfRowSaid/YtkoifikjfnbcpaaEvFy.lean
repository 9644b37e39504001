/- What functions of the program come to, printed by a program of this work: loops by their steps, calls by what is known of them; each text is checked by the kernel. No condition. -/
import Derived.Test.YtkoifikjfnbcpaaEvFp
import Derived.Test.YtkoifikjfnbcpaaEvSp
set_option linter.unusedVariables false
namespace Go.Proofs.YtkoifikjfnbcpaaEv
open Go Go.RowKit
/-! spec.l01Monomials -/
abbrev R84 : Type := Ress [(.slice 105 ex)]
abbrev G84 : Type := Args [.v i64, .v i64] → Option R84
abbrev kp84 : List (Nat × List Nat) := [(0, [1, 0]), (1, [1, 0, 5]), (2, [1, 6, 0, 5]), (3, [12, 5, 0, 6, 1]), (5, [7, 5, 0, 6, 1]), (6, [19, 5, 7, 0, 6, 1]), (8, [5, 8, 7, 0, 6, 1]), (9, [35, 5, 8, 7, 0, 6, 1]), (10, [7, 5, 0, 6, 1]), (7, [7, 5, 0, 6, 1]), (4, [1, 6, 0, 5]), (11, [4])]
abbrev ct84 (g143 : G143) : CTab := [(143, ⟨[.v i64, .v ex], [.bool], false, false, 0, g143⟩)]
abbrev kr84 : Env → Option R84 := endK TT [.tmp 4] [(.slice 105 ex)] true false
abbrev sh84_6 : Shape := [(0, vv i64), (1, vv i64), (5, vr 105 ex 81 false), (6, vv i64), (7, vv i64)]
def st84_6 (g143 : G143) (F : Nat) (s : ShVal sh84_6) (k kx : ShVal sh84_6 → Option R84) : Option R84 :=
  match s with
  | ((t0, _), (t1, _), (t5, _), (t6, _), (t7, _), _) => (bif decide ((0 : Int) ≤ t7) then (match (g143 (t0, ((tset (w8 (w6 ((w6 (t1 - t6)) - t7))) 3 (tset (w8 t7) 3 (tset (w8 t6) 3 (tup Int (0 : Int) 3) 0) 1) 2), ()))) with | some r20 => (bif r20.1 then (bif (growOk (List.length t5) (List.length ((tset (w8 (w6 ((w6 (t1 - t6)) - t7))) 3 (tset (w8 t7) 3 (tset (w8 t6) 3 (tup Int (0 : Int) 3) 0) 1) 2) :: []))) then k ((t0, ()), ((t1, ()), (((t5 ++ ((tset (w8 (w6 ((w6 (t1 - t6)) - t7))) 3 (tset (w8 t7) 3 (tset (w8 t6) 3 (tup Int (0 : Int) 3) 0) 1) 2) :: [])), ()), ((t6, ()), (((w6 (t7 - (1 : Int))), ()), ()))))) else none) else k ((t0, ()), ((t1, ()), ((t5, ()), ((t6, ()), (((w6 (t7 - (1 : Int))), ()), ())))))) | none => none) else kx ((t0, ()), ((t1, ()), ((t5, ()), ((t6, ()), ((t7, ()), ()))))))
def ru84_6 (g143 : G143) (F : Nat) (s : ShVal sh84_6) (kx : ShVal sh84_6 → Option R84) : Option R84 := iter (fun s k => st84_6 g143 F s k kx) F s
abbrev ls84_6 (g143 : G143) (F : Nat) : LS R84 := ⟨sh84_6, 2, ru84_6 g143 F⟩
abbrev sh84_3 : Shape := [(0, vv i64), (1, vv i64), (5, vr 105 ex 81 false), (6, vv i64)]
def st84_3 (g143 : G143) (F : Nat) (s : ShVal sh84_3) (k kx : ShVal sh84_3 → Option R84) : Option R84 :=
  match s with
  | ((t0, _), (t1, _), (t5, _), (t6, _), _) => (bif decide ((0 : Int) ≤ t6) then (ru84_6 g143 F ((t0, ()), ((t1, ()), ((t5, ()), ((t6, ()), (((w6 (t1 - t6)), ()), ()))))) (fun s' => match s' with | ((t0, _), (t1, _), (t5, _), (t6, _), (t7, _), _) => k ((t0, ()), ((t1, ()), ((t5, ()), (((w6 (t6 - (1 : Int))), ()), ())))))) else kx ((t0, ()), ((t1, ()), ((t5, ()), ((t6, ()), ())))))
def ru84_3 (g143 : G143) (F : Nat) (s : ShVal sh84_3) (kx : ShVal sh84_3 → Option R84) : Option R84 := iter (fun s k => st84_3 g143 F s k kx) F s
abbrev ls84_3 (g143 : G143) (F : Nat) : LS R84 := ⟨sh84_3, 0, ru84_3 g143 F⟩
def fn84 (g143 : G143) (F : Nat) (x : Args [.v i64, .v i64]) : Option R84 :=
  match x with
  | (x0, x1, _) => (ru84_3 g143 F ((x0, ()), ((x1, ()), (([], ()), ((x1, ()), ())))) (fun s' => match s' with | ((t0, _), (t1, _), (t5, _), (t6, _), _) => (some (t5, ()))))
theorem ev84_6 (g143 : G143) (F : Nat) (s : ShVal sh84_6) (k kx : ShVal sh84_6 → Option R84) : evL TT (ct84 g143 ) kp84 [] (loopOf Try.f84 6) (envOf sh84_6 s) (fitK sh84_6 k) (fun j e => bif Nat.beq j 2 then fitK sh84_6 kx e else none) kr84 = st84_6 g143 F s k kx := by
  obtain ⟨⟨t0, _⟩, ⟨t1, _⟩, ⟨t5, _⟩, ⟨t6, _⟩, ⟨t7, _⟩, _⟩ := s
  kernel_rfl
theorem ok84_6 (g143 : G143) (F : Nat) (hK : KOK Try.prog (ct84 g143 )) : LSOK Try.prog ⟨41, false, undef⟩ (ls84_6 g143 F) (loopOf Try.f84 6) kr84 :=
  loop_ok (st84_6 g143 F) mixed tt_ok hK (by kernel_rfl) (LTOK_by (l := []) (by kernel_rfl) trivial) (ev84_6 g143 F)
theorem ev84_3 (g143 : G143) (F : Nat) (s : ShVal sh84_3) (k kx : ShVal sh84_3 → Option R84) : evL TT (ct84 g143 ) kp84 [(6, ls84_6 g143 F)] (loopOf Try.f84 3) (envOf sh84_3 s) (fitK sh84_3 k) (fun j e => bif Nat.beq j 0 then fitK sh84_3 kx e else none) kr84 = st84_3 g143 F s k kx := by
  obtain ⟨⟨t0, _⟩, ⟨t1, _⟩, ⟨t5, _⟩, ⟨t6, _⟩, _⟩ := s
  kernel_rfl
theorem ok84_3 (g143 : G143) (F : Nat) (hK : KOK Try.prog (ct84 g143 )) : LSOK Try.prog ⟨41, false, undef⟩ (ls84_3 g143 F) (loopOf Try.f84 3) kr84 :=
  loop_ok (st84_3 g143 F) mixed tt_ok hK (by kernel_rfl) (LTOK_by (l := [loopOf Try.f84 6]) (by kernel_rfl) ⟨ls_at (by kernel_rfl) (ok84_6 g143 F hK), trivial⟩) (ev84_3 g143 F)
theorem ev84 (g143 : G143) (F : Nat) (x : Args [.v i64, .v i64]) : fnK TT (ct84 g143 ) kp84 [(.slice 105 ex)] [(3, ls84_3 g143 F)] (bodyOf Try.f84) [.tmp 4] [.v i64, .v i64] true false x = fn84 g143 F x := by
  obtain ⟨x0, x1, _⟩ := x
  kernel_rfl
theorem ok84 (g143 : G143) (hK : KOK Try.prog (ct84 g143 )) (cf : G84) (h : ∀ x y, cf x = some y → ∃ F, fn84 g143 F x = some y) : KOne Try.prog 84 ⟨[.v i64, .v i64], [(.slice 105 ex)], true, false, 0, cf⟩ :=
  fn_one rfl (c := bodyOf Try.f84) mixed tt_ok hK Try.func84 (by kernel_rfl) (by kernel_rfl) (Nat.le_of_ble_eq_true (by kernel_rfl)) (by decide) fun x y hxy => by
    obtain ⟨F, hF⟩ := h x y hxy
    exact ⟨[(3, ls84_3 g143 F)], LTOK_by (l := [loopOf Try.f84 3]) (by kernel_rfl) ⟨ls_at (by kernel_rfl) (ok84_3 g143 F hK), trivial⟩, (ev84 g143 F x).trans hF⟩
/-! spec.l01OfRow -/
abbrev R85 : Type := Ress [poly]
abbrev G85 : Type := Args [.v i64, .v i64, .v i64, .v (.slice 2 i64)] → Option R85
abbrev kp85 : List (Nat × List Nat) := [(0, [2, 0, 1, 3, 8]), (1, [10, 3, 9, 8]), (2, [11, 10, 3, 9, 8]), (3, [21, 11, 10, 3, 9, 8]), (5, [28, 11, 10, 3, 9, 8]), (6, [11, 10, 3, 9, 8]), (4, [11, 10, 3, 9, 8]), (7, [8])]
abbrev ct85 (g84 : G84) (g97 : G97) : CTab := [(84, ⟨[.v i64, .v i64], [(.slice 105 ex)], true, false, 0, g84⟩), (97, ⟨[.v i64, .v i64], [poly], true, false, 0, g97⟩)]
abbrev kr85 : Env → Option R85 := endK TT [.cell 8 58] [poly] true false
abbrev sh85_3 : Shape := [(3, .val false [.fz (.slice 2 i64) 0 true]), (8, .box false [.fz i64 0 false, .fz i64 0 false, .rt 135 term 131 false true true]), (9, vr 105 ex 145 false), (10, .box false [.fz i64 0 false, .fz i64 0 false, .rt 135 term 163 false true false]), (11, vv i64)]
def st85_3 (g84 : G84) (g97 : G97) (F : Nat) (s : ShVal sh85_3) (k kx : ShVal sh85_3 → Option R85) : Option R85 :=
  match s with
  | ((t3, _), (t8_0, t8_1, t8_2, _), (t9, _), (t10_0, t10_1, t10_2, _), (t11, _), _) => (bif decide ((List.length t9) ≤ 9223372036854775807) then (bif decide (t11 < (Int.ofNat (List.length t9))) then (bif ib t11 (Int.ofNat (List.length t3)) then (bif (!decide ((List.getD t3 (tn t11) (0 : Int)) = (0 : Int))) then (bif ib t11 (Int.ofNat (List.length t9)) then (bif ib t11 (Int.ofNat (List.length t3)) then (bif (growOk (List.length t10_2) (List.length (((List.getD t9 (tn t11) (Ty.dflt (.arr 3 (.int .u8)))), ((List.getD t3 (tn t11) (0 : Int)), ())) :: []))) then k ((t3, ()), ((t8_0, (t8_1, (t8_2, ()))), ((t9, ()), ((t10_0, (t10_1, ((t10_2 ++ (((List.getD t9 (tn t11) (Ty.dflt (.arr 3 (.int .u8)))), ((List.getD t3 (tn t11) (0 : Int)), ())) :: [])), ()))), (((w6 (t11 + (1 : Int))), ()), ()))))) else none) else none) else none) else k ((t3, ()), ((t8_0, (t8_1, (t8_2, ()))), ((t9, ()), ((t10_0, (t10_1, (t10_2, ()))), (((w6 (t11 + (1 : Int))), ()), ())))))) else none) else kx ((t3, ()), ((t8_0, (t8_1, (t8_2, ()))), ((t9, ()), ((t10_0, (t10_1, (t10_2, ()))), ((t11, ()), ())))))) else none)
def ru85_3 (g84 : G84) (g97 : G97) (F : Nat) (s : ShVal sh85_3) (kx : ShVal sh85_3 → Option R85) : Option R85 := iter (fun s k => st85_3 g84 g97 F s k kx) F s
abbrev ls85_3 (g84 : G84) (g97 : G97) (F : Nat) : LS R85 := ⟨sh85_3, 0, ru85_3 g84 g97 F⟩
def fn85 (g84 : G84) (g97 : G97) (F : Nat) (x : Args [.v i64, .v i64, .v i64, .v (.slice 2 i64)]) : Option R85 :=
  match x with
  | (x0, x1, x2, x3, _) => (match (g84 (x1, (x2, ()))) with | some r8 => (match (g97 (x0, (x1, ()))) with | some r9 => (ru85_3 g84 g97 F ((x3, ()), (((Ty.dflt (.pair (.int .i64) (.pair (.int .i64) (.pair (.slice 135 (.pair (.arr 3 (.int .u8)) (.pair (.int .i64) .unit))) .unit)))).1, ((Ty.dflt (.pair (.int .i64) (.pair (.int .i64) (.pair (.slice 135 (.pair (.arr 3 (.int .u8)) (.pair (.int .i64) .unit))) .unit)))).2.1, ((Ty.dflt (.pair (.int .i64) (.pair (.int .i64) (.pair (.slice 135 (.pair (.arr 3 (.int .u8)) (.pair (.int .i64) .unit))) .unit)))).2.2.1, ()))), ((r8.1, ()), ((r9.1.1, (r9.1.2.1, (r9.1.2.2.1, ()))), (((0 : Int), ()), ()))))) (fun s' => match s' with | ((t3, _), (t8_0, t8_1, t8_2, _), (t9, _), (t10_0, t10_1, t10_2, _), (t11, _), _) => (some ((t10_0, (t10_1, (t10_2, ()))), ())))) | none => none) | none => none)
theorem ev85_3 (g84 : G84) (g97 : G97) (F : Nat) (s : ShVal sh85_3) (k kx : ShVal sh85_3 → Option R85) : evL TT (ct85 g84 g97 ) kp85 [] (loopOf Try.f85 3) (envOf sh85_3 s) (fitK sh85_3 k) (fun j e => bif Nat.beq j 0 then fitK sh85_3 kx e else none) kr85 = st85_3 g84 g97 F s k kx := by
  obtain ⟨⟨t3, _⟩, ⟨t8_0, t8_1, t8_2, _⟩, ⟨t9, _⟩, ⟨t10_0, t10_1, t10_2, _⟩, ⟨t11, _⟩, _⟩ := s
  kernel_rfl
theorem ok85_3 (g84 : G84) (g97 : G97) (F : Nat) (hK : KOK Try.prog (ct85 g84 g97 )) : LSOK Try.prog ⟨44, false, undef⟩ (ls85_3 g84 g97 F) (loopOf Try.f85 3) kr85 :=
  loop_ok (st85_3 g84 g97 F) mixed tt_ok hK (by kernel_rfl) (LTOK_by (l := []) (by kernel_rfl) trivial) (ev85_3 g84 g97 F)
theorem ev85 (g84 : G84) (g97 : G97) (F : Nat) (x : Args [.v i64, .v i64, .v i64, .v (.slice 2 i64)]) : fnK TT (ct85 g84 g97 ) kp85 [poly] [(3, ls85_3 g84 g97 F)] (bodyOf Try.f85) [.cell 8 58] [.v i64, .v i64, .v i64, .v (.slice 2 i64)] true false x = fn85 g84 g97 F x := by
  obtain ⟨x0, x1, x2, x3, _⟩ := x
  kernel_rfl
theorem ok85 (g84 : G84) (g97 : G97) (hK : KOK Try.prog (ct85 g84 g97 )) (cf : G85) (h : ∀ x y, cf x = some y → ∃ F, fn85 g84 g97 F x = some y) : KOne Try.prog 85 ⟨[.v i64, .v i64, .v i64, .v (.slice 2 i64)], [poly], true, false, 0, cf⟩ :=
  fn_one rfl (c := bodyOf Try.f85) mixed tt_ok hK Try.func85 (by kernel_rfl) (by kernel_rfl) (Nat.le_of_ble_eq_true (by kernel_rfl)) (by decide) fun x y hxy => by
    obtain ⟨F, hF⟩ := h x y hxy
    exact ⟨[(3, ls85_3 g84 g97 F)], LTOK_by (l := [loopOf Try.f85 3]) (by kernel_rfl) ⟨ls_at (by kernel_rfl) (ok85_3 g84 g97 F hK), trivial⟩, (ev85 g84 g97 F x).trans hF⟩
/-! spec.l01Point -/
abbrev R83 : Type := Ress [.bool]
abbrev G83 : Type := Args [.v i64, .v i64, .v (.slice 2 i64)] → Option R83
abbrev kp83 : List (Nat × List Nat) := [(0, [0, 2, 1]), (1, [7, 0, 2, 1]), (2, [11, 1, 2, 0, 7]), (4, [21, 1, 2, 0, 7]), (5, [6]), (3, [7, 0, 2, 1]), (6, [6])]
abbrev ct83 (g73 : G73) : CTab := [(73, ⟨[.v i64, .v i64, .v i64], [.bool], false, false, 0, g73⟩)]
abbrev kr83 : Env → Option R83 := endK TT [.tmp 6] [.bool] false false
abbrev sh83_2 : Shape := [(0, vv i64), (1, vv i64), (2, .val false [.fz (.slice 2 i64) 0 true]), (7, vv i64)]
def st83_2 (g73 : G73) (F : Nat) (s : ShVal sh83_2) (k kx : ShVal sh83_2 → Option R83) : Option R83 :=
  match s with
  | ((t0, _), (t1, _), (t2, _), (t7, _), _) => (bif decide ((List.length t2) ≤ 9223372036854775807) then (bif decide (t7 < (Int.ofNat (List.length t2))) then (bif ib t7 (Int.ofNat (List.length t2)) then (match (g73 ((List.getD t2 (tn t7) (0 : Int)), ((0 : Int), ((w6 (t0 - (1 : Int))), ())))) with | some r12 => (bif (!r12.1) then (some (false, ())) else k ((t0, ()), ((t1, ()), ((t2, ()), (((w6 (t7 + (1 : Int))), ()), ()))))) | none => none) else none) else kx ((t0, ()), ((t1, ()), ((t2, ()), ((t7, ()), ()))))) else none)
def ru83_2 (g73 : G73) (F : Nat) (s : ShVal sh83_2) (kx : ShVal sh83_2 → Option R83) : Option R83 := iter (fun s k => st83_2 g73 F s k kx) F s
abbrev ls83_2 (g73 : G73) (F : Nat) : LS R83 := ⟨sh83_2, 0, ru83_2 g73 F⟩
def fn83 (g73 : G73) (F : Nat) (x : Args [.v i64, .v i64, .v (.slice 2 i64)]) : Option R83 :=
  match x with
  | (x0, x1, x2, _) => (ru83_2 g73 F ((x0, ()), ((x1, ()), ((x2, ()), (((0 : Int), ()), ())))) (fun s' => match s' with | ((t0, _), (t1, _), (t2, _), (t7, _), _) => (bif decide ((List.length t2) ≤ 9223372036854775807) then (some (decide ((Int.ofNat (List.length t2)) = t1), ())) else none)))
theorem ev83_2 (g73 : G73) (F : Nat) (s : ShVal sh83_2) (k kx : ShVal sh83_2 → Option R83) : evL TT (ct83 g73 ) kp83 [] (loopOf Try.f83 2) (envOf sh83_2 s) (fitK sh83_2 k) (fun j e => bif Nat.beq j 0 then fitK sh83_2 kx e else none) kr83 = st83_2 g73 F s k kx := by
  obtain ⟨⟨t0, _⟩, ⟨t1, _⟩, ⟨t2, _⟩, ⟨t7, _⟩, _⟩ := s
  kernel_rfl
theorem ok83_2 (g73 : G73) (F : Nat) (hK : KOK Try.prog (ct83 g73 )) : LSOK Try.prog ⟨26, false, undef⟩ (ls83_2 g73 F) (loopOf Try.f83 2) kr83 :=
  loop_ok (st83_2 g73 F) mixed tt_ok hK (by kernel_rfl) (LTOK_by (l := []) (by kernel_rfl) trivial) (ev83_2 g73 F)
theorem ev83 (g73 : G73) (F : Nat) (x : Args [.v i64, .v i64, .v (.slice 2 i64)]) : fnK TT (ct83 g73 ) kp83 [.bool] [(2, ls83_2 g73 F)] (bodyOf Try.f83) [.tmp 6] [.v i64, .v i64, .v (.slice 2 i64)] false false x = fn83 g73 F x := by
  obtain ⟨x0, x1, x2, _⟩ := x
  kernel_rfl
theorem ok83 (g73 : G73) (hK : KOK Try.prog (ct83 g73 )) (cf : G83) (h : ∀ x y, cf x = some y → ∃ F, fn83 g73 F x = some y) : KOne Try.prog 83 ⟨[.v i64, .v i64, .v (.slice 2 i64)], [.bool], false, false, 0, cf⟩ :=
  fn_one rfl (c := bodyOf Try.f83) mixed tt_ok hK Try.func83 (by kernel_rfl) (by kernel_rfl) (Nat.le_of_ble_eq_true (by kernel_rfl)) (by decide) fun x y hxy => by
    obtain ⟨F, hF⟩ := h x y hxy
    exact ⟨[(2, ls83_2 g73 F)], LTOK_by (l := [loopOf Try.f83 2]) (by kernel_rfl) ⟨ls_at (by kernel_rfl) (ok83_2 g73 F hK), trivial⟩, (ev83 g73 F x).trans hF⟩
/-! spec.PolyOfRow -/
abbrev R36 : Type := Ress [poly, i64]
abbrev G36 : Type := Args [.v i64, .v i64, .v i64, .v (.slice 2 i64)] → Option R36
abbrev kp36 : List (Nat × List Nat) := [(0, [3, 2, 1, 0, 8]), (1, [32, 3, 2, 1, 0, 8]), (2, [9, 8]), (3, [9, 8])]
abbrev ct36 (g82 : G82) (g73 : G73) (g84 : G84) (g83 : G83) (g85 : G85) : CTab := [(82, ⟨[.v i64], [.bool], false, false, 0, g82⟩), (73, ⟨[.v i64, .v i64, .v i64], [.bool], false, false, 0, g73⟩), (84, ⟨[.v i64, .v i64], [(.slice 105 ex)], true, false, 0, g84⟩), (83, ⟨[.v i64, .v i64, .v (.slice 2 i64)], [.bool], false, false, 0, g83⟩), (85, ⟨[.v i64, .v i64, .v i64, .v (.slice 2 i64)], [poly], true, false, 0, g85⟩)]
abbrev kr36 : Env → Option R36 := endK TT [.cell 8 58, .tmp 9] [poly, i64] true false
def fn36 (g82 : G82) (g73 : G73) (g84 : G84) (g83 : G83) (g85 : G85) (F : Nat) (x : Args [.v i64, .v i64, .v i64, .v (.slice 2 i64)]) : Option R36 :=
  match x with
  | (x0, x1, x2, x3, _) => (match (g82 (x0, ())) with | some r11 => (bif (!r11.1) then (some (((Ty.dflt (.pair (.int .i64) (.pair (.int .i64) (.pair (.slice 135 (.pair (.arr 3 (.int .u8)) (.pair (.int .i64) .unit))) .unit)))).1, ((Ty.dflt (.pair (.int .i64) (.pair (.int .i64) (.pair (.slice 135 (.pair (.arr 3 (.int .u8)) (.pair (.int .i64) .unit))) .unit)))).2.1, ((Ty.dflt (.pair (.int .i64) (.pair (.int .i64) (.pair (.slice 135 (.pair (.arr 3 (.int .u8)) (.pair (.int .i64) .unit))) .unit)))).2.2.1, ()))), ((2 : Int), ()))) else (match (g73 (x1, ((1 : Int), ((3 : Int), ())))) with | some r12 => (bif (bif false then true else (!r12.1)) then (some (((Ty.dflt (.pair (.int .i64) (.pair (.int .i64) (.pair (.slice 135 (.pair (.arr 3 (.int .u8)) (.pair (.int .i64) .unit))) .unit)))).1, ((Ty.dflt (.pair (.int .i64) (.pair (.int .i64) (.pair (.slice 135 (.pair (.arr 3 (.int .u8)) (.pair (.int .i64) .unit))) .unit)))).2.1, ((Ty.dflt (.pair (.int .i64) (.pair (.int .i64) (.pair (.slice 135 (.pair (.arr 3 (.int .u8)) (.pair (.int .i64) .unit))) .unit)))).2.2.1, ()))), ((2 : Int), ()))) else (match (g73 (x2, ((0 : Int), ((12 : Int), ())))) with | some r13 => (bif (bif false then true else (!r13.1)) then (some (((Ty.dflt (.pair (.int .i64) (.pair (.int .i64) (.pair (.slice 135 (.pair (.arr 3 (.int .u8)) (.pair (.int .i64) .unit))) .unit)))).1, ((Ty.dflt (.pair (.int .i64) (.pair (.int .i64) (.pair (.slice 135 (.pair (.arr 3 (.int .u8)) (.pair (.int .i64) .unit))) .unit)))).2.1, ((Ty.dflt (.pair (.int .i64) (.pair (.int .i64) (.pair (.slice 135 (.pair (.arr 3 (.int .u8)) (.pair (.int .i64) .unit))) .unit)))).2.2.1, ()))), ((2 : Int), ()))) else (match (g84 (x1, (x2, ()))) with | some r14 => (bif decide ((List.length r14.1) ≤ 9223372036854775807) then (match (g83 (x0, ((Int.ofNat (List.length r14.1)), (x3, ())))) with | some r15 => (bif (bif false then true else (!r15.1)) then (some (((Ty.dflt (.pair (.int .i64) (.pair (.int .i64) (.pair (.slice 135 (.pair (.arr 3 (.int .u8)) (.pair (.int .i64) .unit))) .unit)))).1, ((Ty.dflt (.pair (.int .i64) (.pair (.int .i64) (.pair (.slice 135 (.pair (.arr 3 (.int .u8)) (.pair (.int .i64) .unit))) .unit)))).2.1, ((Ty.dflt (.pair (.int .i64) (.pair (.int .i64) (.pair (.slice 135 (.pair (.arr 3 (.int .u8)) (.pair (.int .i64) .unit))) .unit)))).2.2.1, ()))), ((2 : Int), ()))) else (match (g85 (x0, (x1, (x2, (x3, ()))))) with | some r17 => (some ((r17.1.1, (r17.1.2.1, (r17.1.2.2.1, ()))), ((0 : Int), ()))) | none => none)) | none => none) else none) | none => none)) | none => none)) | none => none)) | none => none)
theorem ev36 (g82 : G82) (g73 : G73) (g84 : G84) (g83 : G83) (g85 : G85) (F : Nat) (x : Args [.v i64, .v i64, .v i64, .v (.slice 2 i64)]) : fnK TT (ct36 g82 g73 g84 g83 g85 ) kp36 [poly, i64] [] (bodyOf Try.f36) [.cell 8 58, .tmp 9] [.v i64, .v i64, .v i64, .v (.slice 2 i64)] true false x = fn36 g82 g73 g84 g83 g85 F x := by
  obtain ⟨x0, x1, x2, x3, _⟩ := x
  kernel_rfl
theorem ok36 (g82 : G82) (g73 : G73) (g84 : G84) (g83 : G83) (g85 : G85) (hK : KOK Try.prog (ct36 g82 g73 g84 g83 g85 )) (cf : G36) (h : ∀ x y, cf x = some y → ∃ F, fn36 g82 g73 g84 g83 g85 F x = some y) : KOne Try.prog 36 ⟨[.v i64, .v i64, .v i64, .v (.slice 2 i64)], [poly, i64], true, false, 0, cf⟩ :=
  fn_one rfl (c := bodyOf Try.f36) mixed tt_ok hK Try.func36 (by kernel_rfl) (by kernel_rfl) (Nat.le_of_ble_eq_true (by kernel_rfl)) (by decide) fun x y hxy => by
    obtain ⟨F, hF⟩ := h x y hxy
    exact ⟨[], LTOK_by (l := []) (by kernel_rfl) trivial, (ev36 g82 g73 g84 g83 g85 F x).trans hF⟩
/-! impl.monomials -/
abbrev R88 : Type := Ress [(.slice 105 ex)]
abbrev G88 : Type := Args [.v i64, .v i64] → Option R88
abbrev kp88 : List (Nat × List Nat) := [(0, [1, 0]), (1, [1, 0, 5]), (2, [1, 0, 6, 5]), (3, [12, 5, 6, 0, 1]), (5, [7, 5, 6, 0, 1]), (6, [19, 7, 5, 6, 0, 1]), (8, [8, 7, 5, 6, 0, 1]), (9, [40, 8, 7, 5, 6, 0, 1]), (10, [7, 5, 6, 0, 1]), (7, [7, 5, 6, 0, 1]), (4, [1, 0, 6, 5]), (11, [4])]
abbrev ct88 : CTab := []
abbrev kr88 : Env → Option R88 := endK TT [.tmp 4] [(.slice 105 ex)] true false
abbrev sh88_6 : Shape := [(0, vv i64), (1, vv i64), (5, vr 105 ex 81 false), (6, vv i64), (7, vv i64)]
def st88_6 (F : Nat) (s : ShVal sh88_6) (k kx : ShVal sh88_6 → Option R88) : Option R88 :=
  match s with
  | ((t0, _), (t1, _), (t5, _), (t6, _), (t7, _), _) => (bif decide ((0 : Int) ≤ t7) then (bif decide (t0 < (2 : Int)) then (bif (bif true then decide ((0 : Int) < t7) else false) then k ((t0, ()), ((t1, ()), ((t5, ()), ((t6, ()), (((w6 (t7 - (1 : Int))), ()), ()))))) else (bif decide (t0 < (3 : Int)) then (bif (bif false then true else (bif true then decide ((0 : Int) < (w6 ((w6 (t1 - t6)) - t7))) else false)) then k ((t0, ()), ((t1, ()), ((t5, ()), ((t6, ()), (((w6 (t7 - (1 : Int))), ()), ()))))) else (bif (growOk (List.length t5) (List.length ((tset (w8 (w6 ((w6 (t1 - t6)) - t7))) 3 (tset (w8 t7) 3 (tset (w8 t6) 3 (tup Int (0 : Int) 3) 0) 1) 2) :: []))) then k ((t0, ()), ((t1, ()), (((t5 ++ ((tset (w8 (w6 ((w6 (t1 - t6)) - t7))) 3 (tset (w8 t7) 3 (tset (w8 t6) 3 (tup Int (0 : Int) 3) 0) 1) 2) :: [])), ()), ((t6, ()), (((w6 (t7 - (1 : Int))), ()), ()))))) else none)) else (bif (bif false then true else false) then k ((t0, ()), ((t1, ()), ((t5, ()), ((t6, ()), (((w6 (t7 - (1 : Int))), ()), ()))))) else (bif (growOk (List.length t5) (List.length ((tset (w8 (w6 ((w6 (t1 - t6)) - t7))) 3 (tset (w8 t7) 3 (tset (w8 t6) 3 (tup Int (0 : Int) 3) 0) 1) 2) :: []))) then k ((t0, ()), ((t1, ()), (((t5 ++ ((tset (w8 (w6 ((w6 (t1 - t6)) - t7))) 3 (tset (w8 t7) 3 (tset (w8 t6) 3 (tup Int (0 : Int) 3) 0) 1) 2) :: [])), ()), ((t6, ()), (((w6 (t7 - (1 : Int))), ()), ()))))) else none)))) else (bif decide (t0 < (3 : Int)) then (bif (bif false then true else (bif true then decide ((0 : Int) < (w6 ((w6 (t1 - t6)) - t7))) else false)) then k ((t0, ()), ((t1, ()), ((t5, ()), ((t6, ()), (((w6 (t7 - (1 : Int))), ()), ()))))) else (bif (growOk (List.length t5) (List.length ((tset (w8 (w6 ((w6 (t1 - t6)) - t7))) 3 (tset (w8 t7) 3 (tset (w8 t6) 3 (tup Int (0 : Int) 3) 0) 1) 2) :: []))) then k ((t0, ()), ((t1, ()), (((t5 ++ ((tset (w8 (w6 ((w6 (t1 - t6)) - t7))) 3 (tset (w8 t7) 3 (tset (w8 t6) 3 (tup Int (0 : Int) 3) 0) 1) 2) :: [])), ()), ((t6, ()), (((w6 (t7 - (1 : Int))), ()), ()))))) else none)) else (bif (bif false then true else false) then k ((t0, ()), ((t1, ()), ((t5, ()), ((t6, ()), (((w6 (t7 - (1 : Int))), ()), ()))))) else (bif (growOk (List.length t5) (List.length ((tset (w8 (w6 ((w6 (t1 - t6)) - t7))) 3 (tset (w8 t7) 3 (tset (w8 t6) 3 (tup Int (0 : Int) 3) 0) 1) 2) :: []))) then k ((t0, ()), ((t1, ()), (((t5 ++ ((tset (w8 (w6 ((w6 (t1 - t6)) - t7))) 3 (tset (w8 t7) 3 (tset (w8 t6) 3 (tup Int (0 : Int) 3) 0) 1) 2) :: [])), ()), ((t6, ()), (((w6 (t7 - (1 : Int))), ()), ()))))) else none)))) else kx ((t0, ()), ((t1, ()), ((t5, ()), ((t6, ()), ((t7, ()), ()))))))
def ru88_6 (F : Nat) (s : ShVal sh88_6) (kx : ShVal sh88_6 → Option R88) : Option R88 := iter (fun s k => st88_6 F s k kx) F s
abbrev ls88_6 (F : Nat) : LS R88 := ⟨sh88_6, 2, ru88_6 F⟩
abbrev sh88_3 : Shape := [(0, vv i64), (1, vv i64), (5, vr 105 ex 81 false), (6, vv i64)]
def st88_3 (F : Nat) (s : ShVal sh88_3) (k kx : ShVal sh88_3 → Option R88) : Option R88 :=
  match s with
  | ((t0, _), (t1, _), (t5, _), (t6, _), _) => (bif decide ((0 : Int) ≤ t6) then (ru88_6 F ((t0, ()), ((t1, ()), ((t5, ()), ((t6, ()), (((w6 (t1 - t6)), ()), ()))))) (fun s' => match s' with | ((t0, _), (t1, _), (t5, _), (t6, _), (t7, _), _) => k ((t0, ()), ((t1, ()), ((t5, ()), (((w6 (t6 - (1 : Int))), ()), ())))))) else kx ((t0, ()), ((t1, ()), ((t5, ()), ((t6, ()), ())))))
def ru88_3 (F : Nat) (s : ShVal sh88_3) (kx : ShVal sh88_3 → Option R88) : Option R88 := iter (fun s k => st88_3 F s k kx) F s
abbrev ls88_3 (F : Nat) : LS R88 := ⟨sh88_3, 0, ru88_3 F⟩
def fn88 (F : Nat) (x : Args [.v i64, .v i64]) : Option R88 :=
  match x with
  | (x0, x1, _) => (ru88_3 F ((x0, ()), ((x1, ()), (([], ()), ((x1, ()), ())))) (fun s' => match s' with | ((t0, _), (t1, _), (t5, _), (t6, _), _) => (some (t5, ()))))
theorem ev88_6 (F : Nat) (s : ShVal sh88_6) (k kx : ShVal sh88_6 → Option R88) : evL TT (ct88 ) kp88 [] (loopOf Try.f88 6) (envOf sh88_6 s) (fitK sh88_6 k) (fun j e => bif Nat.beq j 2 then fitK sh88_6 kx e else none) kr88 = st88_6 F s k kx := by
  obtain ⟨⟨t0, _⟩, ⟨t1, _⟩, ⟨t5, _⟩, ⟨t6, _⟩, ⟨t7, _⟩, _⟩ := s
  kernel_rfl
theorem ok88_6 (F : Nat) (hK : KOK Try.prog (ct88 )) : LSOK Try.prog ⟨52, false, undef⟩ (ls88_6 F) (loopOf Try.f88 6) kr88 :=
  loop_ok (st88_6 F) mixed tt_ok hK (by kernel_rfl) (LTOK_by (l := []) (by kernel_rfl) trivial) (ev88_6 F)
theorem ev88_3 (F : Nat) (s : ShVal sh88_3) (k kx : ShVal sh88_3 → Option R88) : evL TT (ct88 ) kp88 [(6, ls88_6 F)] (loopOf Try.f88 3) (envOf sh88_3 s) (fitK sh88_3 k) (fun j e => bif Nat.beq j 0 then fitK sh88_3 kx e else none) kr88 = st88_3 F s k kx := by
  obtain ⟨⟨t0, _⟩, ⟨t1, _⟩, ⟨t5, _⟩, ⟨t6, _⟩, _⟩ := s
  kernel_rfl
theorem ok88_3 (F : Nat) (hK : KOK Try.prog (ct88 )) : LSOK Try.prog ⟨52, false, undef⟩ (ls88_3 F) (loopOf Try.f88 3) kr88 :=
  loop_ok (st88_3 F) mixed tt_ok hK (by kernel_rfl) (LTOK_by (l := [loopOf Try.f88 6]) (by kernel_rfl) ⟨ls_at (by kernel_rfl) (ok88_6 F hK), trivial⟩) (ev88_3 F)
theorem ev88 (F : Nat) (x : Args [.v i64, .v i64]) : fnK TT (ct88 ) kp88 [(.slice 105 ex)] [(3, ls88_3 F)] (bodyOf Try.f88) [.tmp 4] [.v i64, .v i64] true false x = fn88 F x := by
  obtain ⟨x0, x1, _⟩ := x
  kernel_rfl
theorem ok88 (hK : KOK Try.prog (ct88 )) (cf : G88) (h : ∀ x y, cf x = some y → ∃ F, fn88 F x = some y) : KOne Try.prog 88 ⟨[.v i64, .v i64], [(.slice 105 ex)], true, false, 0, cf⟩ :=
  fn_one rfl (c := bodyOf Try.f88) mixed tt_ok hK Try.func88 (by kernel_rfl) (by kernel_rfl) (Nat.le_of_ble_eq_true (by kernel_rfl)) (by decide) fun x y hxy => by
    obtain ⟨F, hF⟩ := h x y hxy
    exact ⟨[(3, ls88_3 F)], LTOK_by (l := [loopOf Try.f88 3]) (by kernel_rfl) ⟨ls_at (by kernel_rfl) (ok88_3 F hK), trivial⟩, (ev88 F x).trans hF⟩
/-! impl.field -/
abbrev R89 : Type := Ress [.bool]
abbrev G89 : Type := Args [.v i64, .v (.slice 2 i64)] → Option R89
abbrev kp89 : List (Nat × List Nat) := [(0, [1, 0]), (1, [9, 0, 7, 8]), (2, [10, 8, 7, 0, 9]), (3, [6, 8, 7, 0, 9]), (4, [19, 8, 7, 0, 9]), (5, [4]), (6, [9, 0, 7, 8]), (7, [4])]
abbrev ct89 : CTab := []
abbrev kr89 : Env → Option R89 := endK TT [.tmp 4] [.bool] false false
abbrev sh89_2 : Shape := [(0, vv i64), (7, .val false [.fz (.slice 2 i64) 0 true]), (8, vv i64), (9, vv i64)]
def st89_2 (F : Nat) (s : ShVal sh89_2) (k kx : ShVal sh89_2 → Option R89) : Option R89 :=
  match s with
  | ((t0, _), (t7, _), (t8, _), (t9, _), _) => (bif decide (t9 < t8) then (bif ib t9 (Int.ofNat (List.length t7)) then (bif decide ((List.getD t7 (tn t9) (0 : Int)) < (0 : Int)) then (some (false, ())) else (bif (bif false then true else decide (t0 ≤ (List.getD t7 (tn t9) (0 : Int)))) then (some (false, ())) else k ((t0, ()), ((t7, ()), ((t8, ()), (((w6 (t9 + (1 : Int))), ()), ())))))) else none) else kx ((t0, ()), ((t7, ()), ((t8, ()), ((t9, ()), ())))))
def ru89_2 (F : Nat) (s : ShVal sh89_2) (kx : ShVal sh89_2 → Option R89) : Option R89 := iter (fun s k => st89_2 F s k kx) F s
abbrev ls89_2 (F : Nat) : LS R89 := ⟨sh89_2, 0, ru89_2 F⟩
def fn89 (F : Nat) (x : Args [.v i64, .v (.slice 2 i64)]) : Option R89 :=
  match x with
  | (x0, x1, _) => (bif decide ((List.length x1) ≤ 9223372036854775807) then (ru89_2 F ((x0, ()), ((x1, ()), (((Int.ofNat (List.length x1)), ()), (((0 : Int), ()), ())))) (fun s' => match s' with | ((t0, _), (t7, _), (t8, _), (t9, _), _) => (some (true, ())))) else none)
theorem ev89_2 (F : Nat) (s : ShVal sh89_2) (k kx : ShVal sh89_2 → Option R89) : evL TT (ct89 ) kp89 [] (loopOf Try.f89 2) (envOf sh89_2 s) (fitK sh89_2 k) (fun j e => bif Nat.beq j 0 then fitK sh89_2 kx e else none) kr89 = st89_2 F s k kx := by
  obtain ⟨⟨t0, _⟩, ⟨t7, _⟩, ⟨t8, _⟩, ⟨t9, _⟩, _⟩ := s
  kernel_rfl
theorem ok89_2 (F : Nat) (hK : KOK Try.prog (ct89 )) : LSOK Try.prog ⟨21, false, undef⟩ (ls89_2 F) (loopOf Try.f89 2) kr89 :=
  loop_ok (st89_2 F) mixed tt_ok hK (by kernel_rfl) (LTOK_by (l := []) (by kernel_rfl) trivial) (ev89_2 F)
theorem ev89 (F : Nat) (x : Args [.v i64, .v (.slice 2 i64)]) : fnK TT (ct89 ) kp89 [.bool] [(2, ls89_2 F)] (bodyOf Try.f89) [.tmp 4] [.v i64, .v (.slice 2 i64)] false false x = fn89 F x := by
  obtain ⟨x0, x1, _⟩ := x
  kernel_rfl
theorem ok89 (hK : KOK Try.prog (ct89 )) (cf : G89) (h : ∀ x y, cf x = some y → ∃ F, fn89 F x = some y) : KOne Try.prog 89 ⟨[.v i64, .v (.slice 2 i64)], [.bool], false, false, 0, cf⟩ :=
  fn_one rfl (c := bodyOf Try.f89) mixed tt_ok hK Try.func89 (by kernel_rfl) (by kernel_rfl) (Nat.le_of_ble_eq_true (by kernel_rfl)) (by decide) fun x y hxy => by
    obtain ⟨F, hF⟩ := h x y hxy
    exact ⟨[(2, ls89_2 F)], LTOK_by (l := [loopOf Try.f89 2]) (by kernel_rfl) ⟨ls_at (by kernel_rfl) (ok89_2 F hK), trivial⟩, (ev89 F x).trans hF⟩
/-! impl.polyOfRow -/
abbrev R90 : Type := Ress [poly]
abbrev G90 : Type := Args [.v i64, .v i64, .v i64, .v (.slice 2 i64)] → Option R90
abbrev kp90 : List (Nat × List Nat) := [(0, [2, 3, 0, 1, 8]), (1, [2, 3, 9, 0, 1, 8]), (2, [17, 3, 9, 15, 0, 1, 8, 16]), (3, [18, 17, 3, 9, 15, 0, 1, 8, 16]), (4, [11, 10, 17, 3, 9, 15, 0, 1, 8, 16]), (5, [17, 3, 9, 15, 0, 1, 8, 16]), (6, [17, 3, 9, 15, 0, 1, 8, 16]), (7, [8])]
abbrev ct90 (g103 : G103) (g88 : G88) : CTab := [(103, ⟨[.m ex i64, .v i64, .v i64], [poly], true, false, 0, g103⟩), (88, ⟨[.v i64, .v i64], [(.slice 105 ex)], true, false, 0, g88⟩)]
abbrev kr90 : Env → Option R90 := endK TT [.cell 8 58] [poly] true false
abbrev sh90_3 : Shape := [(0, vv i64), (1, vv i64), (3, .val false [.fz (.slice 2 i64) 0 true]), (8, .box false [.fz i64 0 false, .fz i64 0 false, .rt 135 term 131 false true true]), (9, .mp 12 ex i64), (15, vr 105 ex 241 false), (16, vv i64), (17, vv i64)]
def st90_3 (g103 : G103) (g88 : G88) (F : Nat) (s : ShVal sh90_3) (k kx : ShVal sh90_3 → Option R90) : Option R90 :=
  match s with
  | ((t0, _), (t1, _), (t3, _), (t8_0, t8_1, t8_2, _), t9, (t15, _), (t16, _), (t17, _), _) => (bif decide (t17 < t16) then (bif ib t17 (Int.ofNat (List.length t15)) then (bif ib t17 (Int.ofNat (List.length t3)) then k ((t0, ()), ((t1, ()), ((t3, ()), ((t8_0, (t8_1, (t8_2, ()))), ((((List.getD t15 (tn t17) (Ty.dflt (.arr 3 (.int .u8)))), (List.getD t3 (tn t17) (0 : Int))) :: t9), ((t15, ()), ((t16, ()), (((w6 (t17 + (1 : Int))), ()), ())))))))) else none) else none) else kx ((t0, ()), ((t1, ()), ((t3, ()), ((t8_0, (t8_1, (t8_2, ()))), (t9, ((t15, ()), ((t16, ()), ((t17, ()), ())))))))))
def ru90_3 (g103 : G103) (g88 : G88) (F : Nat) (s : ShVal sh90_3) (kx : ShVal sh90_3 → Option R90) : Option R90 := iter (fun s k => st90_3 g103 g88 F s k kx) F s
abbrev ls90_3 (g103 : G103) (g88 : G88) (F : Nat) : LS R90 := ⟨sh90_3, 0, ru90_3 g103 g88 F⟩
def fn90 (g103 : G103) (g88 : G88) (F : Nat) (x : Args [.v i64, .v i64, .v i64, .v (.slice 2 i64)]) : Option R90 :=
  match x with
  | (x0, x1, x2, x3, _) => (match (g88 (x1, (x2, ()))) with | some r9 => (bif decide ((List.length r9.1) ≤ 9223372036854775807) then (ru90_3 g103 g88 F ((x0, ()), ((x1, ()), ((x3, ()), (((Ty.dflt (.pair (.int .i64) (.pair (.int .i64) (.pair (.slice 135 (.pair (.arr 3 (.int .u8)) (.pair (.int .i64) .unit))) .unit)))).1, ((Ty.dflt (.pair (.int .i64) (.pair (.int .i64) (.pair (.slice 135 (.pair (.arr 3 (.int .u8)) (.pair (.int .i64) .unit))) .unit)))).2.1, ((Ty.dflt (.pair (.int .i64) (.pair (.int .i64) (.pair (.slice 135 (.pair (.arr 3 (.int .u8)) (.pair (.int .i64) .unit))) .unit)))).2.2.1, ()))), ([], ((r9.1, ()), (((Int.ofNat (List.length r9.1)), ()), (((0 : Int), ()), ())))))))) (fun s' => match s' with | ((t0, _), (t1, _), (t3, _), (t8_0, t8_1, t8_2, _), t9, (t15, _), (t16, _), (t17, _), _) => (match (g103 (t9, (t0, (t1, ())))) with | some r21 => (some ((r21.1.1, (r21.1.2.1, (r21.1.2.2.1, ()))), ())) | none => none))) else none) | none => none)
theorem ev90_3 (g103 : G103) (g88 : G88) (F : Nat) (s : ShVal sh90_3) (k kx : ShVal sh90_3 → Option R90) : evL TT (ct90 g103 g88 ) kp90 [] (loopOf Try.f90 3) (envOf sh90_3 s) (fitK sh90_3 k) (fun j e => bif Nat.beq j 0 then fitK sh90_3 kx e else none) kr90 = st90_3 g103 g88 F s k kx := by
  obtain ⟨⟨t0, _⟩, ⟨t1, _⟩, ⟨t3, _⟩, ⟨t8_0, t8_1, t8_2, _⟩, t9, ⟨t15, _⟩, ⟨t16, _⟩, ⟨t17, _⟩, _⟩ := s
  kernel_rfl
theorem ok90_3 (g103 : G103) (g88 : G88) (F : Nat) (hK : KOK Try.prog (ct90 g103 g88 )) : LSOK Try.prog ⟨33, false, undef⟩ (ls90_3 g103 g88 F) (loopOf Try.f90 3) kr90 :=
  loop_ok (st90_3 g103 g88 F) mixed tt_ok hK (by kernel_rfl) (LTOK_by (l := []) (by kernel_rfl) trivial) (ev90_3 g103 g88 F)
theorem ev90 (g103 : G103) (g88 : G88) (F : Nat) (x : Args [.v i64, .v i64, .v i64, .v (.slice 2 i64)]) : fnK TT (ct90 g103 g88 ) kp90 [poly] [(3, ls90_3 g103 g88 F)] (bodyOf Try.f90) [.cell 8 58] [.v i64, .v i64, .v i64, .v (.slice 2 i64)] true false x = fn90 g103 g88 F x := by
  obtain ⟨x0, x1, x2, x3, _⟩ := x
  kernel_rfl
theorem ok90 (g103 : G103) (g88 : G88) (hK : KOK Try.prog (ct90 g103 g88 )) (cf : G90) (h : ∀ x y, cf x = some y → ∃ F, fn90 g103 g88 F x = some y) : KOne Try.prog 90 ⟨[.v i64, .v i64, .v i64, .v (.slice 2 i64)], [poly], true, false, 0, cf⟩ :=
  fn_one rfl (c := bodyOf Try.f90) mixed tt_ok hK Try.func90 (by kernel_rfl) (by kernel_rfl) (Nat.le_of_ble_eq_true (by kernel_rfl)) (by decide) fun x y hxy => by
    obtain ⟨F, hF⟩ := h x y hxy
    exact ⟨[(3, ls90_3 g103 g88 F)], LTOK_by (l := [loopOf Try.f90 3]) (by kernel_rfl) ⟨ls_at (by kernel_rfl) (ok90_3 g103 g88 F hK), trivial⟩, (ev90 g103 g88 F x).trans hF⟩
/-! impl.isDegree -/
abbrev R68 : Type := Ress [.bool]
abbrev G68 : Type := Args [.v i64] → Option R68
abbrev kp68 : List (Nat × List Nat) := [(0, [0]), (1, [2])]
abbrev ct68 : CTab := []
abbrev kr68 : Env → Option R68 := endK TT [.tmp 2] [.bool] false false
def fn68 (F : Nat) (x : Args [.v i64]) : Option R68 :=
  match x with
  | (x0, _) => (bif decide ((0 : Int) ≤ x0) then (some ((bif true then decide (x0 ≤ (12 : Int)) else false), ())) else (some (false, ())))
theorem ev68 (F : Nat) (x : Args [.v i64]) : fnK TT (ct68 ) kp68 [.bool] [] (bodyOf Try.f68) [.tmp 2] [.v i64] false false x = fn68 F x := by
  obtain ⟨x0, _⟩ := x
  kernel_rfl
theorem ok68 (hK : KOK Try.prog (ct68 )) (cf : G68) (h : ∀ x y, cf x = some y → ∃ F, fn68 F x = some y) : KOne Try.prog 68 ⟨[.v i64], [.bool], false, false, 0, cf⟩ :=
  fn_one rfl (c := bodyOf Try.f68) mixed tt_ok hK Try.func68 (by kernel_rfl) (by kernel_rfl) (Nat.le_of_ble_eq_true (by kernel_rfl)) (by decide) fun x y hxy => by
    obtain ⟨F, hF⟩ := h x y hxy
    exact ⟨[], LTOK_by (l := []) (by kernel_rfl) trivial, (ev68 F x).trans hF⟩
/-! impl.PolyOfRow -/
abbrev R38 : Type := Ress [poly, i64]
abbrev G38 : Type := Args [.v i64, .v i64, .v i64, .v (.slice 2 i64)] → Option R38
abbrev kp38 : List (Nat × List Nat) := [(0, [3, 2, 1, 0, 8]), (1, [37, 3, 2, 1, 0, 8]), (2, [9, 8]), (3, [9, 8])]
abbrev ct38 (g86 : G86) (g87 : G87) (g68 : G68) (g88 : G88) (g89 : G89) (g90 : G90) (g91 : G91) : CTab := [(86, ⟨[.v i64], [.bool], false, false, 0, g86⟩), (87, ⟨[.v i64], [.bool], false, false, 0, g87⟩), (68, ⟨[.v i64], [.bool], false, false, 0, g68⟩), (88, ⟨[.v i64, .v i64], [(.slice 105 ex)], true, false, 0, g88⟩), (89, ⟨[.v i64, .v (.slice 2 i64)], [.bool], false, false, 0, g89⟩), (90, ⟨[.v i64, .v i64, .v i64, .v (.slice 2 i64)], [poly], true, false, 0, g90⟩), (91, ⟨[.v (.slice 2 i64)], [(.slice 2 i64)], true, false, 0, g91⟩)]
abbrev kr38 : Env → Option R38 := endK TT [.cell 8 58, .tmp 9] [poly, i64] true false
def fn38 (g86 : G86) (g87 : G87) (g68 : G68) (g88 : G88) (g89 : G89) (g90 : G90) (g91 : G91) (F : Nat) (x : Args [.v i64, .v i64, .v i64, .v (.slice 2 i64)]) : Option R38 :=
  match x with
  | (x0, x1, x2, x3, _) => (match (g86 (x0, ())) with | some r13 => (bif (!r13.1) then (some (((Ty.dflt (.pair (.int .i64) (.pair (.int .i64) (.pair (.slice 135 (.pair (.arr 3 (.int .u8)) (.pair (.int .i64) .unit))) .unit)))).1, ((Ty.dflt (.pair (.int .i64) (.pair (.int .i64) (.pair (.slice 135 (.pair (.arr 3 (.int .u8)) (.pair (.int .i64) .unit))) .unit)))).2.1, ((Ty.dflt (.pair (.int .i64) (.pair (.int .i64) (.pair (.slice 135 (.pair (.arr 3 (.int .u8)) (.pair (.int .i64) .unit))) .unit)))).2.2.1, ()))), ((2 : Int), ()))) else (match (g87 (x1, ())) with | some r14 => (bif (bif false then true else (!r14.1)) then (some (((Ty.dflt (.pair (.int .i64) (.pair (.int .i64) (.pair (.slice 135 (.pair (.arr 3 (.int .u8)) (.pair (.int .i64) .unit))) .unit)))).1, ((Ty.dflt (.pair (.int .i64) (.pair (.int .i64) (.pair (.slice 135 (.pair (.arr 3 (.int .u8)) (.pair (.int .i64) .unit))) .unit)))).2.1, ((Ty.dflt (.pair (.int .i64) (.pair (.int .i64) (.pair (.slice 135 (.pair (.arr 3 (.int .u8)) (.pair (.int .i64) .unit))) .unit)))).2.2.1, ()))), ((2 : Int), ()))) else (match (g68 (x2, ())) with | some r15 => (bif (bif false then true else (!r15.1)) then (some (((Ty.dflt (.pair (.int .i64) (.pair (.int .i64) (.pair (.slice 135 (.pair (.arr 3 (.int .u8)) (.pair (.int .i64) .unit))) .unit)))).1, ((Ty.dflt (.pair (.int .i64) (.pair (.int .i64) (.pair (.slice 135 (.pair (.arr 3 (.int .u8)) (.pair (.int .i64) .unit))) .unit)))).2.1, ((Ty.dflt (.pair (.int .i64) (.pair (.int .i64) (.pair (.slice 135 (.pair (.arr 3 (.int .u8)) (.pair (.int .i64) .unit))) .unit)))).2.2.1, ()))), ((2 : Int), ()))) else (bif decide ((List.length x3) ≤ 9223372036854775807) then (match (g88 (x1, (x2, ()))) with | some r16 => (bif decide ((List.length r16.1) ≤ 9223372036854775807) then (bif (bif false then true else (!decide ((Int.ofNat (List.length x3)) = (Int.ofNat (List.length r16.1))))) then (some (((Ty.dflt (.pair (.int .i64) (.pair (.int .i64) (.pair (.slice 135 (.pair (.arr 3 (.int .u8)) (.pair (.int .i64) .unit))) .unit)))).1, ((Ty.dflt (.pair (.int .i64) (.pair (.int .i64) (.pair (.slice 135 (.pair (.arr 3 (.int .u8)) (.pair (.int .i64) .unit))) .unit)))).2.1, ((Ty.dflt (.pair (.int .i64) (.pair (.int .i64) (.pair (.slice 135 (.pair (.arr 3 (.int .u8)) (.pair (.int .i64) .unit))) .unit)))).2.2.1, ()))), ((2 : Int), ()))) else (match (g89 (x0, (x3, ()))) with | some r17 => (bif (bif false then true else (!r17.1)) then (some (((Ty.dflt (.pair (.int .i64) (.pair (.int .i64) (.pair (.slice 135 (.pair (.arr 3 (.int .u8)) (.pair (.int .i64) .unit))) .unit)))).1, ((Ty.dflt (.pair (.int .i64) (.pair (.int .i64) (.pair (.slice 135 (.pair (.arr 3 (.int .u8)) (.pair (.int .i64) .unit))) .unit)))).2.1, ((Ty.dflt (.pair (.int .i64) (.pair (.int .i64) (.pair (.slice 135 (.pair (.arr 3 (.int .u8)) (.pair (.int .i64) .unit))) .unit)))).2.2.1, ()))), ((2 : Int), ()))) else (match (g91 (x3, ())) with | some r19 => (match (g90 (x0, (x1, (x2, (r19.1, ()))))) with | some r20 => (some ((r20.1.1, (r20.1.2.1, (r20.1.2.2.1, ()))), ((0 : Int), ()))) | none => none) | none => none)) | none => none)) else none) | none => none) else none)) | none => none)) | none => none)) | none => none)
theorem ev38 (g86 : G86) (g87 : G87) (g68 : G68) (g88 : G88) (g89 : G89) (g90 : G90) (g91 : G91) (F : Nat) (x : Args [.v i64, .v i64, .v i64, .v (.slice 2 i64)]) : fnK TT (ct38 g86 g87 g68 g88 g89 g90 g91 ) kp38 [poly, i64] [] (bodyOf Try.f38) [.cell 8 58, .tmp 9] [.v i64, .v i64, .v i64, .v (.slice 2 i64)] true false x = fn38 g86 g87 g68 g88 g89 g90 g91 F x := by
  obtain ⟨x0, x1, x2, x3, _⟩ := x
  kernel_rfl
theorem ok38 (g86 : G86) (g87 : G87) (g68 : G68) (g88 : G88) (g89 : G89) (g90 : G90) (g91 : G91) (hK : KOK Try.prog (ct38 g86 g87 g68 g88 g89 g90 g91 )) (cf : G38) (h : ∀ x y, cf x = some y → ∃ F, fn38 g86 g87 g68 g88 g89 g90 g91 F x = some y) : KOne Try.prog 38 ⟨[.v i64, .v i64, .v i64, .v (.slice 2 i64)], [poly, i64], true, false, 0, cf⟩ :=
  fn_one rfl (c := bodyOf Try.f38) mixed tt_ok hK Try.func38 (by kernel_rfl) (by kernel_rfl) (Nat.le_of_ble_eq_true (by kernel_rfl)) (by decide) fun x y hxy => by
    obtain ⟨F, hF⟩ := h x y hxy
    exact ⟨[], LTOK_by (l := []) (by kernel_rfl) trivial, (ev38 g86 g87 g68 g88 g89 g90 g91 F x).trans hF⟩
end Go.Proofs.YtkoifikjfnbcpaaEv
