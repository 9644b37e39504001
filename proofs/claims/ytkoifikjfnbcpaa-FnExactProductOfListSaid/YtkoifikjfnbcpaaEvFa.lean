/- What functions of the program come to, printed by a program of this work: loops by their steps, calls by what is known of them; each text is checked by the kernel. No condition. -/
import Derived.Test.YtkoifikjfnbcpaaEvCl
set_option linter.unusedVariables false
namespace Go.Proofs.YtkoifikjfnbcpaaEv
open Go Go.RowKit
/-! spec.l01Mod -/
abbrev R74 : Type := Ress [i64]
abbrev G74 : Type := Args [.v i64, .v i64] → Option R74
abbrev kp74 : List (Nat × List Nat) := [(0, [1, 0]), (1, [4])]
abbrev ct74 : CTab := []
abbrev kr74 : Env → Option R74 := endK TT [.tmp 4] [i64] false false
def fn74 (F : Nat) (x : Args [.v i64, .v i64]) : Option R74 :=
  match x with
  | (x0, x1, _) => (bif (!decide (x0 = (0 : Int))) then (bif (!decide (x0 = (0 : Int))) then (some ((Int.tmod (w6 ((Int.tmod x1 x0) + x0)) x0), ())) else none) else none)
theorem ev74 (F : Nat) (x : Args [.v i64, .v i64]) : fnK TT (ct74 ) kp74 [i64] [] (bodyOf Try.f74) [.tmp 4] [.v i64, .v i64] false false x = fn74 F x := by
  obtain ⟨x0, x1, _⟩ := x
  kernel_rfl
theorem ok74 (hK : KOK Try.prog (ct74 )) (cf : G74) (h : ∀ x y, cf x = some y → ∃ F, fn74 F x = some y) : KOne Try.prog 74 ⟨[.v i64, .v i64], [i64], false, false, 0, cf⟩ :=
  fn_one rfl (c := bodyOf Try.f74) mixed tt_ok hK Try.func74 (by kernel_rfl) (by kernel_rfl) (Nat.le_of_ble_eq_true (by kernel_rfl)) (by decide) fun x y hxy => by
    obtain ⟨F, hF⟩ := h x y hxy
    exact ⟨[], LTOK_by (l := []) (by kernel_rfl) trivial, (ev74 F x).trans hF⟩
/-! spec.l01Inverse -/
abbrev R75 : Type := Ress [i64]
abbrev G75 : Type := Args [.v i64, .v i64] → Option R75
abbrev kp75 : List (Nat × List Nat) := [(0, [0, 1]), (1, [5, 0, 1]), (2, [8, 1, 0, 5]), (4, [18, 1, 0, 5]), (5, [4]), (3, [5, 0, 1]), (6, [4])]
abbrev ct75 (g74 : G74) : CTab := [(74, ⟨[.v i64, .v i64], [i64], false, false, 0, g74⟩)]
abbrev kr75 : Env → Option R75 := endK TT [.tmp 4] [i64] false false
abbrev sh75_2 : Shape := [(0, vv i64), (1, vv i64), (5, vv i64)]
def st75_2 (g74 : G74) (F : Nat) (s : ShVal sh75_2) (k kx : ShVal sh75_2 → Option R75) : Option R75 :=
  match s with
  | ((t0, _), (t1, _), (t5, _), _) => (bif decide (t5 < t0) then (match (g74 (t0, (t1, ()))) with | some r10 => (bif (!decide (t0 = (0 : Int))) then (bif decide ((Int.tmod (w6 (t5 * r10.1)) t0) = (1 : Int)) then (some (t5, ())) else k ((t0, ()), ((t1, ()), (((w6 (t5 + (1 : Int))), ()), ())))) else none) | none => none) else kx ((t0, ()), ((t1, ()), ((t5, ()), ()))))
def ru75_2 (g74 : G74) (F : Nat) (s : ShVal sh75_2) (kx : ShVal sh75_2 → Option R75) : Option R75 := iter (fun s k => st75_2 g74 F s k kx) F s
abbrev ls75_2 (g74 : G74) (F : Nat) : LS R75 := ⟨sh75_2, 0, ru75_2 g74 F⟩
def fn75 (g74 : G74) (F : Nat) (x : Args [.v i64, .v i64]) : Option R75 :=
  match x with
  | (x0, x1, _) => (ru75_2 g74 F ((x0, ()), ((x1, ()), (((1 : Int), ()), ()))) (fun s' => match s' with | ((t0, _), (t1, _), (t5, _), _) => (some ((0 : Int), ()))))
theorem ev75_2 (g74 : G74) (F : Nat) (s : ShVal sh75_2) (k kx : ShVal sh75_2 → Option R75) : evL TT (ct75 g74 ) kp75 [] (loopOf Try.f75 2) (envOf sh75_2 s) (fitK sh75_2 k) (fun j e => bif Nat.beq j 0 then fitK sh75_2 kx e else none) kr75 = st75_2 g74 F s k kx := by
  obtain ⟨⟨t0, _⟩, ⟨t1, _⟩, ⟨t5, _⟩, _⟩ := s
  kernel_rfl
theorem ok75_2 (g74 : G74) (F : Nat) (hK : KOK Try.prog (ct75 g74 )) : LSOK Try.prog ⟨20, false, undef⟩ (ls75_2 g74 F) (loopOf Try.f75 2) kr75 :=
  loop_ok (st75_2 g74 F) mixed tt_ok hK (by kernel_rfl) (LTOK_by (l := []) (by kernel_rfl) trivial) (ev75_2 g74 F)
theorem ev75 (g74 : G74) (F : Nat) (x : Args [.v i64, .v i64]) : fnK TT (ct75 g74 ) kp75 [i64] [(2, ls75_2 g74 F)] (bodyOf Try.f75) [.tmp 4] [.v i64, .v i64] false false x = fn75 g74 F x := by
  obtain ⟨x0, x1, _⟩ := x
  kernel_rfl
theorem ok75 (g74 : G74) (hK : KOK Try.prog (ct75 g74 )) (cf : G75) (h : ∀ x y, cf x = some y → ∃ F, fn75 g74 F x = some y) : KOne Try.prog 75 ⟨[.v i64, .v i64], [i64], false, false, 0, cf⟩ :=
  fn_one rfl (c := bodyOf Try.f75) mixed tt_ok hK Try.func75 (by kernel_rfl) (by kernel_rfl) (Nat.le_of_ble_eq_true (by kernel_rfl)) (by decide) fun x y hxy => by
    obtain ⟨F, hF⟩ := h x y hxy
    exact ⟨[(2, ls75_2 g74 F)], LTOK_by (l := [loopOf Try.f75 2]) (by kernel_rfl) ⟨ls_at (by kernel_rfl) (ok75_2 g74 F hK), trivial⟩, (ev75 g74 F x).trans hF⟩
/-! spec.l01In -/
abbrev R73 : Type := Ress [.bool]
abbrev G73 : Type := Args [.v i64, .v i64, .v i64] → Option R73
abbrev kp73 : List (Nat × List Nat) := [(0, [1, 0, 2]), (1, [6])]
abbrev ct73 : CTab := []
abbrev kr73 : Env → Option R73 := endK TT [.tmp 6] [.bool] false false
def fn73 (F : Nat) (x : Args [.v i64, .v i64, .v i64]) : Option R73 :=
  match x with
  | (x0, x1, x2, _) => (bif decide (x1 ≤ x0) then (some ((bif true then decide (x0 ≤ x2) else false), ())) else (some (false, ())))
theorem ev73 (F : Nat) (x : Args [.v i64, .v i64, .v i64]) : fnK TT (ct73 ) kp73 [.bool] [] (bodyOf Try.f73) [.tmp 6] [.v i64, .v i64, .v i64] false false x = fn73 F x := by
  obtain ⟨x0, x1, x2, _⟩ := x
  kernel_rfl
theorem ok73 (hK : KOK Try.prog (ct73 )) (cf : G73) (h : ∀ x y, cf x = some y → ∃ F, fn73 F x = some y) : KOne Try.prog 73 ⟨[.v i64, .v i64, .v i64], [.bool], false, false, 0, cf⟩ :=
  fn_one rfl (c := bodyOf Try.f73) mixed tt_ok hK Try.func73 (by kernel_rfl) (by kernel_rfl) (Nat.le_of_ble_eq_true (by kernel_rfl)) (by decide) fun x y hxy => by
    obtain ⟨F, hF⟩ := h x y hxy
    exact ⟨[], LTOK_by (l := []) (by kernel_rfl) trivial, (ev73 F x).trans hF⟩
/-! spec.l01Prime -/
abbrev R82 : Type := Ress [.bool]
abbrev G82 : Type := Args [.v i64] → Option R82
abbrev kp82 : List (Nat × List Nat) := [(0, [0]), (1, [2])]
abbrev ct82 : CTab := []
abbrev kr82 : Env → Option R82 := endK TT [.tmp 2] [.bool] false false
def fn82 (F : Nat) (x : Args [.v i64]) : Option R82 :=
  match x with
  | (x0, _) => (bif decide (x0 = (2 : Int)) then (some (true, ())) else (bif (bif false then true else decide (x0 = (3 : Int))) then (some (true, ())) else (bif (bif false then true else decide (x0 = (5 : Int))) then (some (true, ())) else (bif (bif false then true else decide (x0 = (7 : Int))) then (some (true, ())) else (bif (bif false then true else decide (x0 = (11 : Int))) then (some (true, ())) else (some ((bif false then true else decide (x0 = (13 : Int))), ())))))))
theorem ev82 (F : Nat) (x : Args [.v i64]) : fnK TT (ct82 ) kp82 [.bool] [] (bodyOf Try.f82) [.tmp 2] [.v i64] false false x = fn82 F x := by
  obtain ⟨x0, _⟩ := x
  kernel_rfl
theorem ok82 (hK : KOK Try.prog (ct82 )) (cf : G82) (h : ∀ x y, cf x = some y → ∃ F, fn82 F x = some y) : KOne Try.prog 82 ⟨[.v i64], [.bool], false, false, 0, cf⟩ :=
  fn_one rfl (c := bodyOf Try.f82) mixed tt_ok hK Try.func82 (by kernel_rfl) (by kernel_rfl) (Nat.le_of_ble_eq_true (by kernel_rfl)) (by decide) fun x y hxy => by
    obtain ⟨F, hF⟩ := h x y hxy
    exact ⟨[], LTOK_by (l := []) (by kernel_rfl) trivial, (ev82 F x).trans hF⟩
/-! impl.isPrime -/
abbrev R86 : Type := Ress [.bool]
abbrev G86 : Type := Args [.v i64] → Option R86
abbrev kp86 : List (Nat × List Nat) := [(0, [0]), (1, [2])]
abbrev ct86 : CTab := []
abbrev kr86 : Env → Option R86 := endK TT [.tmp 2] [.bool] false false
def fn86 (F : Nat) (x : Args [.v i64]) : Option R86 :=
  match x with
  | (x0, _) => (bif decide (x0 = (2 : Int)) then (some (true, ())) else (bif (bif false then true else decide (x0 = (3 : Int))) then (some (true, ())) else (bif (bif false then true else decide (x0 = (5 : Int))) then (some (true, ())) else (bif (bif false then true else decide (x0 = (7 : Int))) then (some (true, ())) else (bif (bif false then true else decide (x0 = (11 : Int))) then (some (true, ())) else (some ((bif false then true else decide (x0 = (13 : Int))), ())))))))
theorem ev86 (F : Nat) (x : Args [.v i64]) : fnK TT (ct86 ) kp86 [.bool] [] (bodyOf Try.f86) [.tmp 2] [.v i64] false false x = fn86 F x := by
  obtain ⟨x0, _⟩ := x
  kernel_rfl
theorem ok86 (hK : KOK Try.prog (ct86 )) (cf : G86) (h : ∀ x y, cf x = some y → ∃ F, fn86 F x = some y) : KOne Try.prog 86 ⟨[.v i64], [.bool], false, false, 0, cf⟩ :=
  fn_one rfl (c := bodyOf Try.f86) mixed tt_ok hK Try.func86 (by kernel_rfl) (by kernel_rfl) (Nat.le_of_ble_eq_true (by kernel_rfl)) (by decide) fun x y hxy => by
    obtain ⟨F, hF⟩ := h x y hxy
    exact ⟨[], LTOK_by (l := []) (by kernel_rfl) trivial, (ev86 F x).trans hF⟩
/-! impl.isVars -/
abbrev R87 : Type := Ress [.bool]
abbrev G87 : Type := Args [.v i64] → Option R87
abbrev kp87 : List (Nat × List Nat) := [(0, [0]), (1, [2])]
abbrev ct87 : CTab := []
abbrev kr87 : Env → Option R87 := endK TT [.tmp 2] [.bool] false false
def fn87 (F : Nat) (x : Args [.v i64]) : Option R87 :=
  match x with
  | (x0, _) => (bif decide ((1 : Int) ≤ x0) then (some ((bif true then decide (x0 ≤ (3 : Int)) else false), ())) else (some (false, ())))
theorem ev87 (F : Nat) (x : Args [.v i64]) : fnK TT (ct87 ) kp87 [.bool] [] (bodyOf Try.f87) [.tmp 2] [.v i64] false false x = fn87 F x := by
  obtain ⟨x0, _⟩ := x
  kernel_rfl
theorem ok87 (hK : KOK Try.prog (ct87 )) (cf : G87) (h : ∀ x y, cf x = some y → ∃ F, fn87 F x = some y) : KOne Try.prog 87 ⟨[.v i64], [.bool], false, false, 0, cf⟩ :=
  fn_one rfl (c := bodyOf Try.f87) mixed tt_ok hK Try.func87 (by kernel_rfl) (by kernel_rfl) (Nat.le_of_ble_eq_true (by kernel_rfl)) (by decide) fun x y hxy => by
    obtain ⟨F, hF⟩ := h x y hxy
    exact ⟨[], LTOK_by (l := []) (by kernel_rfl) trivial, (ev87 F x).trans hF⟩
/-! spec.l01Own -/
abbrev R155 : Type := Ress [(.slice 2 i64)]
abbrev G155 : Type := Args [.v (.slice 2 i64)] → Option R155
abbrev kp155 : List (Nat × List Nat) := [(0, [0]), (1, [2])]
abbrev ct155 : CTab := []
abbrev kr155 : Env → Option R155 := endK TT [.tmp 2] [(.slice 2 i64)] true false
def fn155 (F : Nat) (x : Args [.v (.slice 2 i64)]) : Option R155 :=
  match x with
  | (x0, _) => (bif (growOk (0 : Nat) (List.length x0)) then (some (([] ++ x0), ())) else none)
theorem ev155 (F : Nat) (x : Args [.v (.slice 2 i64)]) : fnK TT (ct155 ) kp155 [(.slice 2 i64)] [] (bodyOf Try.f155) [.tmp 2] [.v (.slice 2 i64)] true false x = fn155 F x := by
  obtain ⟨x0, _⟩ := x
  kernel_rfl
theorem ok155 (hK : KOK Try.prog (ct155 )) (cf : G155) (h : ∀ x y, cf x = some y → ∃ F, fn155 F x = some y) : KOne Try.prog 155 ⟨[.v (.slice 2 i64)], [(.slice 2 i64)], true, false, 0, cf⟩ :=
  fn_one rfl (c := bodyOf Try.f155) mixed tt_ok hK Try.func155 (by kernel_rfl) (by kernel_rfl) (Nat.le_of_ble_eq_true (by kernel_rfl)) (by decide) fun x y hxy => by
    obtain ⟨F, hF⟩ := h x y hxy
    exact ⟨[], LTOK_by (l := []) (by kernel_rfl) trivial, (ev155 F x).trans hF⟩
/-! spec.l01Lead -/
abbrev R153 : Type := Ress [i64]
abbrev G153 : Type := Args [.v (.slice 2 i64)] → Option R153
abbrev kp153 : List (Nat × List Nat) := [(0, [0]), (1, [3, 0]), (2, [7, 0, 3]), (4, [14, 0, 3]), (5, [2]), (3, [3, 0]), (6, [2])]
abbrev ct153 : CTab := []
abbrev kr153 : Env → Option R153 := endK TT [.tmp 2] [i64] false false
abbrev sh153_2 : Shape := [(0, vv (.slice 2 i64)), (3, vv i64)]
def st153_2 (F : Nat) (s : ShVal sh153_2) (k kx : ShVal sh153_2 → Option R153) : Option R153 :=
  match s with
  | ((t0, _), (t3, _), _) => (bif decide ((List.length t0) ≤ 9223372036854775807) then (bif decide (t3 < (Int.ofNat (List.length t0))) then (bif ib t3 (Int.ofNat (List.length t0)) then (bif (!decide ((List.getD t0 (tn t3) (0 : Int)) = (0 : Int))) then (some (t3, ())) else k ((t0, ()), (((w6 (t3 + (1 : Int))), ()), ()))) else none) else kx ((t0, ()), ((t3, ()), ()))) else none)
def ru153_2 (F : Nat) (s : ShVal sh153_2) (kx : ShVal sh153_2 → Option R153) : Option R153 := iter (fun s k => st153_2 F s k kx) F s
abbrev ls153_2 (F : Nat) : LS R153 := ⟨sh153_2, 0, ru153_2 F⟩
def fn153 (F : Nat) (x : Args [.v (.slice 2 i64)]) : Option R153 :=
  match x with
  | (x0, _) => (ru153_2 F ((x0, ()), (((0 : Int), ()), ())) (fun s' => match s' with | ((t0, _), (t3, _), _) => (some ((-(1 : Int)), ()))))
theorem ev153_2 (F : Nat) (s : ShVal sh153_2) (k kx : ShVal sh153_2 → Option R153) : evL TT (ct153 ) kp153 [] (loopOf Try.f153 2) (envOf sh153_2 s) (fitK sh153_2 k) (fun j e => bif Nat.beq j 0 then fitK sh153_2 kx e else none) kr153 = st153_2 F s k kx := by
  obtain ⟨⟨t0, _⟩, ⟨t3, _⟩, _⟩ := s
  kernel_rfl
theorem ok153_2 (F : Nat) (hK : KOK Try.prog (ct153 )) : LSOK Try.prog ⟨16, false, undef⟩ (ls153_2 F) (loopOf Try.f153 2) kr153 :=
  loop_ok (st153_2 F) mixed tt_ok hK (by kernel_rfl) (LTOK_by (l := []) (by kernel_rfl) trivial) (ev153_2 F)
theorem ev153 (F : Nat) (x : Args [.v (.slice 2 i64)]) : fnK TT (ct153 ) kp153 [i64] [(2, ls153_2 F)] (bodyOf Try.f153) [.tmp 2] [.v (.slice 2 i64)] false false x = fn153 F x := by
  obtain ⟨x0, _⟩ := x
  kernel_rfl
theorem ok153 (hK : KOK Try.prog (ct153 )) (cf : G153) (h : ∀ x y, cf x = some y → ∃ F, fn153 F x = some y) : KOne Try.prog 153 ⟨[.v (.slice 2 i64)], [i64], false, false, 0, cf⟩ :=
  fn_one rfl (c := bodyOf Try.f153) mixed tt_ok hK Try.func153 (by kernel_rfl) (by kernel_rfl) (Nat.le_of_ble_eq_true (by kernel_rfl)) (by decide) fun x y hxy => by
    obtain ⟨F, hF⟩ := h x y hxy
    exact ⟨[(2, ls153_2 F)], LTOK_by (l := [loopOf Try.f153 2]) (by kernel_rfl) ⟨ls_at (by kernel_rfl) (ok153_2 F hK), trivial⟩, (ev153 F x).trans hF⟩
/-! spec.l01Less -/
abbrev R154 : Type := Ress [(.slice 2 i64)]
abbrev G154 : Type := Args [.v i64, .v (.slice 2 i64), .v (.slice 2 i64), .v i64] → Option R154
abbrev kp154 : List (Nat × List Nat) := [(0, [2, 3, 1, 0]), (1, [2, 3, 1, 0, 9]), (2, [10, 2, 3, 1, 0, 9]), (3, [15, 9, 10, 2, 3, 1, 0]), (5, [10, 2, 3, 1, 0, 9]), (4, [10, 2, 3, 1, 0, 9]), (6, [8])]
abbrev ct154 (g74 : G74) : CTab := [(74, ⟨[.v i64, .v i64], [i64], false, false, 0, g74⟩)]
abbrev kr154 : Env → Option R154 := endK TT [.tmp 8] [(.slice 2 i64)] true false
abbrev sh154_3 : Shape := [(0, vv i64), (1, vv (.slice 2 i64)), (2, vv (.slice 2 i64)), (3, vv i64), (9, vr 2 i64 145 false), (10, vv i64)]
def st154_3 (g74 : G74) (F : Nat) (s : ShVal sh154_3) (k kx : ShVal sh154_3 → Option R154) : Option R154 :=
  match s with
  | ((t0, _), (t1, _), (t2, _), (t3, _), (t9, _), (t10, _), _) => (bif decide ((List.length t1) ≤ 9223372036854775807) then (bif decide (t10 < (Int.ofNat (List.length t1))) then (bif ib t10 (Int.ofNat (List.length t1)) then (bif ib t10 (Int.ofNat (List.length t2)) then (match (g74 (t0, ((w6 ((List.getD t1 (tn t10) (0 : Int)) - (w6 (t3 * (List.getD t2 (tn t10) (0 : Int)))))), ()))) with | some r16 => (bif (growOk (List.length t9) (List.length (r16.1 :: []))) then k ((t0, ()), ((t1, ()), ((t2, ()), ((t3, ()), (((t9 ++ (r16.1 :: [])), ()), (((w6 (t10 + (1 : Int))), ()), ())))))) else none) | none => none) else none) else none) else kx ((t0, ()), ((t1, ()), ((t2, ()), ((t3, ()), ((t9, ()), ((t10, ()), ()))))))) else none)
def ru154_3 (g74 : G74) (F : Nat) (s : ShVal sh154_3) (kx : ShVal sh154_3 → Option R154) : Option R154 := iter (fun s k => st154_3 g74 F s k kx) F s
abbrev ls154_3 (g74 : G74) (F : Nat) : LS R154 := ⟨sh154_3, 0, ru154_3 g74 F⟩
def fn154 (g74 : G74) (F : Nat) (x : Args [.v i64, .v (.slice 2 i64), .v (.slice 2 i64), .v i64]) : Option R154 :=
  match x with
  | (x0, x1, x2, x3, _) => (ru154_3 g74 F ((x0, ()), ((x1, ()), ((x2, ()), ((x3, ()), (([], ()), (((0 : Int), ()), ())))))) (fun s' => match s' with | ((t0, _), (t1, _), (t2, _), (t3, _), (t9, _), (t10, _), _) => (some (t9, ()))))
theorem ev154_3 (g74 : G74) (F : Nat) (s : ShVal sh154_3) (k kx : ShVal sh154_3 → Option R154) : evL TT (ct154 g74 ) kp154 [] (loopOf Try.f154 3) (envOf sh154_3 s) (fitK sh154_3 k) (fun j e => bif Nat.beq j 0 then fitK sh154_3 kx e else none) kr154 = st154_3 g74 F s k kx := by
  obtain ⟨⟨t0, _⟩, ⟨t1, _⟩, ⟨t2, _⟩, ⟨t3, _⟩, ⟨t9, _⟩, ⟨t10, _⟩, _⟩ := s
  kernel_rfl
theorem ok154_3 (g74 : G74) (F : Nat) (hK : KOK Try.prog (ct154 g74 )) : LSOK Try.prog ⟨35, false, undef⟩ (ls154_3 g74 F) (loopOf Try.f154 3) kr154 :=
  loop_ok (st154_3 g74 F) mixed tt_ok hK (by kernel_rfl) (LTOK_by (l := []) (by kernel_rfl) trivial) (ev154_3 g74 F)
theorem ev154 (g74 : G74) (F : Nat) (x : Args [.v i64, .v (.slice 2 i64), .v (.slice 2 i64), .v i64]) : fnK TT (ct154 g74 ) kp154 [(.slice 2 i64)] [(3, ls154_3 g74 F)] (bodyOf Try.f154) [.tmp 8] [.v i64, .v (.slice 2 i64), .v (.slice 2 i64), .v i64] true false x = fn154 g74 F x := by
  obtain ⟨x0, x1, x2, x3, _⟩ := x
  kernel_rfl
theorem ok154 (g74 : G74) (hK : KOK Try.prog (ct154 g74 )) (cf : G154) (h : ∀ x y, cf x = some y → ∃ F, fn154 g74 F x = some y) : KOne Try.prog 154 ⟨[.v i64, .v (.slice 2 i64), .v (.slice 2 i64), .v i64], [(.slice 2 i64)], true, false, 0, cf⟩ :=
  fn_one rfl (c := bodyOf Try.f154) mixed tt_ok hK Try.func154 (by kernel_rfl) (by kernel_rfl) (Nat.le_of_ble_eq_true (by kernel_rfl)) (by decide) fun x y hxy => by
    obtain ⟨F, hF⟩ := h x y hxy
    exact ⟨[(3, ls154_3 g74 F)], LTOK_by (l := [loopOf Try.f154 3]) (by kernel_rfl) ⟨ls_at (by kernel_rfl) (ok154_3 g74 F hK), trivial⟩, (ev154 g74 F x).trans hF⟩
/-! spec.l01Rest -/
abbrev R152 : Type := Ress [(.slice 2 i64)]
abbrev G152 : Type := Args [.v i64, .v (.slice 24 (.slice 2 i64)), .v (.slice 2 i64)] → Option R152
abbrev kp152 : List (Nat × List Nat) := [(0, [2, 1, 0]), (1, [1, 7, 0]), (2, [8, 1, 7, 0]), (3, [15, 7, 8, 1, 0]), (5, [7, 9, 8, 1, 0]), (6, [27, 7, 9, 8, 1, 0]), (7, [8, 1, 7, 0]), (4, [8, 1, 7, 0]), (8, [6])]
abbrev ct152 (g155 : G155) (g154 : G154) (g153 : G153) : CTab := [(155, ⟨[.v (.slice 2 i64)], [(.slice 2 i64)], true, false, 0, g155⟩), (154, ⟨[.v i64, .v (.slice 2 i64), .v (.slice 2 i64), .v i64], [(.slice 2 i64)], true, false, 0, g154⟩), (153, ⟨[.v (.slice 2 i64)], [i64], false, false, 0, g153⟩)]
abbrev kr152 : Env → Option R152 := endK TT [.tmp 6] [(.slice 2 i64)] true false
abbrev sh152_3 : Shape := [(0, vv i64), (1, vv (.slice 24 (.slice 2 i64))), (7, vr 2 i64 113 false), (8, vv i64)]
def st152_3 (g155 : G155) (g154 : G154) (g153 : G153) (F : Nat) (s : ShVal sh152_3) (k kx : ShVal sh152_3 → Option R152) : Option R152 :=
  match s with
  | ((t0, _), (t1, _), (t7, _), (t8, _), _) => (bif decide ((List.length t1) ≤ 9223372036854775807) then (bif decide (t8 < (Int.ofNat (List.length t1))) then (bif ib t8 (Int.ofNat (List.length t1)) then (match (g153 ((List.getD t1 (tn t8) []), ())) with | some r16 => (bif ib r16.1 (Int.ofNat (List.length t7)) then (bif (!decide ((List.getD t7 (tn r16.1) (0 : Int)) = (0 : Int))) then (bif ib t8 (Int.ofNat (List.length t1)) then (match (g154 (t0, (t7, ((List.getD t1 (tn t8) []), ((List.getD t7 (tn r16.1) (0 : Int)), ()))))) with | some r19 => k ((t0, ()), ((t1, ()), ((r19.1, ()), (((w6 (t8 + (1 : Int))), ()), ())))) | none => none) else none) else k ((t0, ()), ((t1, ()), ((t7, ()), (((w6 (t8 + (1 : Int))), ()), ()))))) else none) | none => none) else none) else kx ((t0, ()), ((t1, ()), ((t7, ()), ((t8, ()), ()))))) else none)
def ru152_3 (g155 : G155) (g154 : G154) (g153 : G153) (F : Nat) (s : ShVal sh152_3) (kx : ShVal sh152_3 → Option R152) : Option R152 := iter (fun s k => st152_3 g155 g154 g153 F s k kx) F s
abbrev ls152_3 (g155 : G155) (g154 : G154) (g153 : G153) (F : Nat) : LS R152 := ⟨sh152_3, 0, ru152_3 g155 g154 g153 F⟩
def fn152 (g155 : G155) (g154 : G154) (g153 : G153) (F : Nat) (x : Args [.v i64, .v (.slice 24 (.slice 2 i64)), .v (.slice 2 i64)]) : Option R152 :=
  match x with
  | (x0, x1, x2, _) => (match (g155 (x2, ())) with | some r8 => (ru152_3 g155 g154 g153 F ((x0, ()), ((x1, ()), ((r8.1, ()), (((0 : Int), ()), ())))) (fun s' => match s' with | ((t0, _), (t1, _), (t7, _), (t8, _), _) => (some (t7, ())))) | none => none)
theorem ev152_3 (g155 : G155) (g154 : G154) (g153 : G153) (F : Nat) (s : ShVal sh152_3) (k kx : ShVal sh152_3 → Option R152) : evL TT (ct152 g155 g154 g153 ) kp152 [] (loopOf Try.f152 3) (envOf sh152_3 s) (fitK sh152_3 k) (fun j e => bif Nat.beq j 0 then fitK sh152_3 kx e else none) kr152 = st152_3 g155 g154 g153 F s k kx := by
  obtain ⟨⟨t0, _⟩, ⟨t1, _⟩, ⟨t7, _⟩, ⟨t8, _⟩, _⟩ := s
  kernel_rfl
theorem ok152_3 (g155 : G155) (g154 : G154) (g153 : G153) (F : Nat) (hK : KOK Try.prog (ct152 g155 g154 g153 )) : LSOK Try.prog ⟨37, false, undef⟩ (ls152_3 g155 g154 g153 F) (loopOf Try.f152 3) kr152 :=
  loop_ok (st152_3 g155 g154 g153 F) mixed tt_ok hK (by kernel_rfl) (LTOK_by (l := []) (by kernel_rfl) trivial) (ev152_3 g155 g154 g153 F)
theorem ev152 (g155 : G155) (g154 : G154) (g153 : G153) (F : Nat) (x : Args [.v i64, .v (.slice 24 (.slice 2 i64)), .v (.slice 2 i64)]) : fnK TT (ct152 g155 g154 g153 ) kp152 [(.slice 2 i64)] [(3, ls152_3 g155 g154 g153 F)] (bodyOf Try.f152) [.tmp 6] [.v i64, .v (.slice 24 (.slice 2 i64)), .v (.slice 2 i64)] true false x = fn152 g155 g154 g153 F x := by
  obtain ⟨x0, x1, x2, _⟩ := x
  kernel_rfl
theorem ok152 (g155 : G155) (g154 : G154) (g153 : G153) (hK : KOK Try.prog (ct152 g155 g154 g153 )) (cf : G152) (h : ∀ x y, cf x = some y → ∃ F, fn152 g155 g154 g153 F x = some y) : KOne Try.prog 152 ⟨[.v i64, .v (.slice 24 (.slice 2 i64)), .v (.slice 2 i64)], [(.slice 2 i64)], true, false, 0, cf⟩ :=
  fn_one rfl (c := bodyOf Try.f152) mixed tt_ok hK Try.func152 (by kernel_rfl) (by kernel_rfl) (Nat.le_of_ble_eq_true (by kernel_rfl)) (by decide) fun x y hxy => by
    obtain ⟨F, hF⟩ := h x y hxy
    exact ⟨[(3, ls152_3 g155 g154 g153 F)], LTOK_by (l := [loopOf Try.f152 3]) (by kernel_rfl) ⟨ls_at (by kernel_rfl) (ok152_3 g155 g154 g153 F hK), trivial⟩, (ev152 g155 g154 g153 F x).trans hF⟩
/-! spec.l01Echelon -/
abbrev R108 : Type := Ress [(.slice 24 (.slice 2 i64))]
abbrev G108 : Type := Args [.v i64, .v (.slice 24 (.slice 2 i64))] → Option R108
abbrev kp108 : List (Nat × List Nat) := [(0, [0, 1]), (1, [0, 5, 1]), (2, [6, 0, 5, 1]), (3, [18, 6, 0, 5, 1]), (5, [7, 6, 0, 5, 1]), (6, [8, 7, 6, 0, 5, 1]), (7, [31, 8, 7, 6, 0, 5, 1]), (8, [0, 9, 7, 8, 5, 6, 1]), (9, [10, 0, 9, 7, 8, 5, 6, 1]), (10, [41, 10, 0, 9, 7, 8, 5, 6, 1]), (12, [10, 0, 9, 7, 8, 5, 6, 1]), (11, [10, 0, 9, 7, 8, 5, 6, 1]), (13, [8, 5, 7, 0, 11, 12, 6, 1]), (14, [13, 8, 5, 7, 0, 11, 12, 6, 1]), (15, [59, 12, 11, 13, 8, 5, 7, 0, 6, 1]), (17, [72, 12, 11, 13, 8, 5, 7, 0, 6, 1]), (18, [11, 13, 8, 5, 7, 0, 6, 1]), (19, [11, 13, 8, 5, 7, 0, 12, 6, 1]), (20, [13, 8, 5, 7, 0, 11, 12, 6, 1]), (16, [13, 8, 5, 7, 0, 11, 12, 6, 1]), (21, [95, 11, 7, 6, 0, 1]), (22, [11, 6, 0, 1]), (23, [6, 0, 5, 1]), (4, [6, 0, 5, 1]), (24, [4])]
abbrev ct108 (g153 : G153) (g75 : G75) (g154 : G154) (g152 : G152) : CTab := [(153, ⟨[.v (.slice 2 i64)], [i64], false, false, 0, g153⟩), (75, ⟨[.v i64, .v i64], [i64], false, false, 0, g75⟩), (154, ⟨[.v i64, .v (.slice 2 i64), .v (.slice 2 i64), .v i64], [(.slice 2 i64)], true, false, 0, g154⟩), (152, ⟨[.v i64, .v (.slice 24 (.slice 2 i64)), .v (.slice 2 i64)], [(.slice 2 i64)], true, false, 0, g152⟩)]
abbrev kr108 : Env → Option R108 := endK TT [.tmp 4] [(.slice 24 (.slice 2 i64))] false false
abbrev sh108_10 : Shape := [(0, vv i64), (1, vv (.slice 24 (.slice 2 i64))), (5, .val false [.rt 24 (.slice 2 i64) 81 false false false]), (6, vv i64), (7, vr 2 i64 113 false), (8, vv i64), (9, vv i64), (10, vv i64)]
def st108_10 (g153 : G153) (g75 : G75) (g154 : G154) (g152 : G152) (F : Nat) (s : ShVal sh108_10) (k kx : ShVal sh108_10 → Option R108) : Option R108 :=
  match s with
  | ((t0, _), (t1, _), (t5, _), (t6, _), (t7, _), (t8, _), (t9, _), (t10, _), _) => (bif decide ((List.length t7) ≤ 9223372036854775807) then (bif decide (t10 < (Int.ofNat (List.length t7))) then (bif ib t10 (Int.ofNat (List.length t7)) then (bif (!decide (t0 = (0 : Int))) then (bif ib t10 (Int.ofNat (List.length t7)) then k ((t0, ()), ((t1, ()), ((t5, ()), ((t6, ()), (((List.set t7 (tn t10) (Int.tmod (w6 ((List.getD t7 (tn t10) (0 : Int)) * t9)) t0)), ()), ((t8, ()), ((t9, ()), (((w6 (t10 + (1 : Int))), ()), ())))))))) else none) else none) else none) else kx ((t0, ()), ((t1, ()), ((t5, ()), ((t6, ()), ((t7, ()), ((t8, ()), ((t9, ()), ((t10, ()), ()))))))))) else none)
def ru108_10 (g153 : G153) (g75 : G75) (g154 : G154) (g152 : G152) (F : Nat) (s : ShVal sh108_10) (kx : ShVal sh108_10 → Option R108) : Option R108 := iter (fun s k => st108_10 g153 g75 g154 g152 F s k kx) F s
abbrev ls108_10 (g153 : G153) (g75 : G75) (g154 : G154) (g152 : G152) (F : Nat) : LS R108 := ⟨sh108_10, 2, ru108_10 g153 g75 g154 g152 F⟩
abbrev sh108_15 : Shape := [(0, vv i64), (1, vv (.slice 24 (.slice 2 i64))), (5, .val false [.rt 24 (.slice 2 i64) 81 false false false]), (6, vv i64), (7, vv (.slice 2 i64)), (8, vv i64), (11, .val false [.rt 24 (.slice 2 i64) 177 false false false]), (12, vv .bool), (13, vv i64)]
def st108_15 (g153 : G153) (g75 : G75) (g154 : G154) (g152 : G152) (F : Nat) (s : ShVal sh108_15) (k kx : ShVal sh108_15 → Option R108) : Option R108 :=
  match s with
  | ((t0, _), (t1, _), (t5, _), (t6, _), (t7, _), (t8, _), (t11, _), (t12, _), (t13, _), _) => (bif decide ((List.length t5) ≤ 9223372036854775807) then (bif decide (t13 < (Int.ofNat (List.length t5))) then (bif (!t12) then (bif ib t13 (Int.ofNat (List.length t5)) then (match (g153 ((List.getD t5 (tn t13) []), ())) with | some r43 => (bif (bif true then decide (t8 < r43.1) else false) then (bif (growOk (List.length t11) (List.length (t7 :: []))) then (bif ib t13 (Int.ofNat (List.length t5)) then (bif ib t13 (Int.ofNat (List.length t5)) then (bif ib t8 (Int.ofNat (List.length (List.getD t5 (tn t13) []))) then (match (g154 (t0, ((List.getD t5 (tn t13) []), (t7, ((List.getD (List.getD t5 (tn t13) []) (tn t8) (0 : Int)), ()))))) with | some r47 => (bif (growOk (List.length (t11 ++ (t7 :: []))) (List.length (r47.1 :: []))) then k ((t0, ()), ((t1, ()), ((t5, ()), ((t6, ()), ((t7, ()), ((t8, ()), ((((t11 ++ (t7 :: [])) ++ (r47.1 :: [])), ()), ((true, ()), (((w6 (t13 + (1 : Int))), ()), ()))))))))) else none) | none => none) else none) else none) else none) else none) else (bif ib t13 (Int.ofNat (List.length t5)) then (bif ib t13 (Int.ofNat (List.length t5)) then (bif ib t8 (Int.ofNat (List.length (List.getD t5 (tn t13) []))) then (match (g154 (t0, ((List.getD t5 (tn t13) []), (t7, ((List.getD (List.getD t5 (tn t13) []) (tn t8) (0 : Int)), ()))))) with | some r45 => (bif (growOk (List.length t11) (List.length (r45.1 :: []))) then k ((t0, ()), ((t1, ()), ((t5, ()), ((t6, ()), ((t7, ()), ((t8, ()), (((t11 ++ (r45.1 :: [])), ()), ((t12, ()), (((w6 (t13 + (1 : Int))), ()), ()))))))))) else none) | none => none) else none) else none) else none)) | none => none) else none) else (bif ib t13 (Int.ofNat (List.length t5)) then (bif ib t13 (Int.ofNat (List.length t5)) then (bif ib t8 (Int.ofNat (List.length (List.getD t5 (tn t13) []))) then (match (g154 (t0, ((List.getD t5 (tn t13) []), (t7, ((List.getD (List.getD t5 (tn t13) []) (tn t8) (0 : Int)), ()))))) with | some r44 => (bif (growOk (List.length t11) (List.length (r44.1 :: []))) then k ((t0, ()), ((t1, ()), ((t5, ()), ((t6, ()), ((t7, ()), ((t8, ()), (((t11 ++ (r44.1 :: [])), ()), ((t12, ()), (((w6 (t13 + (1 : Int))), ()), ()))))))))) else none) | none => none) else none) else none) else none)) else kx ((t0, ()), ((t1, ()), ((t5, ()), ((t6, ()), ((t7, ()), ((t8, ()), ((t11, ()), ((t12, ()), ((t13, ()), ())))))))))) else none)
def ru108_15 (g153 : G153) (g75 : G75) (g154 : G154) (g152 : G152) (F : Nat) (s : ShVal sh108_15) (kx : ShVal sh108_15 → Option R108) : Option R108 := iter (fun s k => st108_15 g153 g75 g154 g152 F s k kx) F s
abbrev ls108_15 (g153 : G153) (g75 : G75) (g154 : G154) (g152 : G152) (F : Nat) : LS R108 := ⟨sh108_15, 4, ru108_15 g153 g75 g154 g152 F⟩
abbrev sh108_3 : Shape := [(0, vv i64), (1, vv (.slice 24 (.slice 2 i64))), (5, .val false [.rt 24 (.slice 2 i64) 81 false false false]), (6, vv i64)]
def st108_3 (g153 : G153) (g75 : G75) (g154 : G154) (g152 : G152) (F : Nat) (s : ShVal sh108_3) (k kx : ShVal sh108_3 → Option R108) : Option R108 :=
  match s with
  | ((t0, _), (t1, _), (t5, _), (t6, _), _) => (bif decide ((List.length t1) ≤ 9223372036854775807) then (bif decide (t6 < (Int.ofNat (List.length t1))) then (bif ib t6 (Int.ofNat (List.length t1)) then (match (g152 (t0, (t5, ((List.getD t1 (tn t6) []), ())))) with | some r15 => (match (g153 (r15.1, ())) with | some r17 => (bif decide (r17.1 < (0 : Int)) then k ((t0, ()), ((t1, ()), ((t5, ()), (((w6 (t6 + (1 : Int))), ()), ())))) else (bif ib r17.1 (Int.ofNat (List.length r15.1)) then (match (g75 (t0, ((List.getD r15.1 (tn r17.1) (0 : Int)), ()))) with | some r20 => (ru108_10 g153 g75 g154 g152 F ((t0, ()), ((t1, ()), ((t5, ()), ((t6, ()), ((r15.1, ()), ((r17.1, ()), ((r20.1, ()), (((0 : Int), ()), ())))))))) (fun s' => match s' with | ((t0, _), (t1, _), (t5, _), (t6, _), (t7, _), (t8, _), (t9, _), (t10, _), _) => (ru108_15 g153 g75 g154 g152 F ((t0, ()), ((t1, ()), ((t5, ()), ((t6, ()), ((t7, ()), ((t8, ()), (([], ()), ((false, ()), (((0 : Int), ()), ()))))))))) (fun s' => match s' with | ((t0, _), (t1, _), (t5, _), (t6, _), (t7, _), (t8, _), (t11, _), (t12, _), (t13, _), _) => (bif (!t12) then (bif (growOk (List.length t11) (List.length (t7 :: []))) then k ((t0, ()), ((t1, ()), (((t11 ++ (t7 :: [])), ()), (((w6 (t6 + (1 : Int))), ()), ())))) else none) else k ((t0, ()), ((t1, ()), ((t11, ()), (((w6 (t6 + (1 : Int))), ()), ()))))))))) | none => none) else none)) | none => none) | none => none) else none) else kx ((t0, ()), ((t1, ()), ((t5, ()), ((t6, ()), ()))))) else none)
def ru108_3 (g153 : G153) (g75 : G75) (g154 : G154) (g152 : G152) (F : Nat) (s : ShVal sh108_3) (kx : ShVal sh108_3 → Option R108) : Option R108 := iter (fun s k => st108_3 g153 g75 g154 g152 F s k kx) F s
abbrev ls108_3 (g153 : G153) (g75 : G75) (g154 : G154) (g152 : G152) (F : Nat) : LS R108 := ⟨sh108_3, 0, ru108_3 g153 g75 g154 g152 F⟩
def fn108 (g153 : G153) (g75 : G75) (g154 : G154) (g152 : G152) (F : Nat) (x : Args [.v i64, .v (.slice 24 (.slice 2 i64))]) : Option R108 :=
  match x with
  | (x0, x1, _) => (ru108_3 g153 g75 g154 g152 F ((x0, ()), ((x1, ()), (([], ()), (((0 : Int), ()), ())))) (fun s' => match s' with | ((t0, _), (t1, _), (t5, _), (t6, _), _) => (some (t5, ()))))
theorem ev108_10 (g153 : G153) (g75 : G75) (g154 : G154) (g152 : G152) (F : Nat) (s : ShVal sh108_10) (k kx : ShVal sh108_10 → Option R108) : evL TT (ct108 g153 g75 g154 g152 ) kp108 [] (loopOf Try.f108 10) (envOf sh108_10 s) (fitK sh108_10 k) (fun j e => bif Nat.beq j 2 then fitK sh108_10 kx e else none) kr108 = st108_10 g153 g75 g154 g152 F s k kx := by
  obtain ⟨⟨t0, _⟩, ⟨t1, _⟩, ⟨t5, _⟩, ⟨t6, _⟩, ⟨t7, _⟩, ⟨t8, _⟩, ⟨t9, _⟩, ⟨t10, _⟩, _⟩ := s
  kernel_rfl
theorem ok108_10 (g153 : G153) (g75 : G75) (g154 : G154) (g152 : G152) (F : Nat) (hK : KOK Try.prog (ct108 g153 g75 g154 g152 )) : LSOK Try.prog ⟨102, false, undef⟩ (ls108_10 g153 g75 g154 g152 F) (loopOf Try.f108 10) kr108 :=
  loop_ok (st108_10 g153 g75 g154 g152 F) mixed tt_ok hK (by kernel_rfl) (LTOK_by (l := []) (by kernel_rfl) trivial) (ev108_10 g153 g75 g154 g152 F)
theorem ev108_15 (g153 : G153) (g75 : G75) (g154 : G154) (g152 : G152) (F : Nat) (s : ShVal sh108_15) (k kx : ShVal sh108_15 → Option R108) : evL TT (ct108 g153 g75 g154 g152 ) kp108 [] (loopOf Try.f108 15) (envOf sh108_15 s) (fitK sh108_15 k) (fun j e => bif Nat.beq j 4 then fitK sh108_15 kx e else none) kr108 = st108_15 g153 g75 g154 g152 F s k kx := by
  obtain ⟨⟨t0, _⟩, ⟨t1, _⟩, ⟨t5, _⟩, ⟨t6, _⟩, ⟨t7, _⟩, ⟨t8, _⟩, ⟨t11, _⟩, ⟨t12, _⟩, ⟨t13, _⟩, _⟩ := s
  kernel_rfl
theorem ok108_15 (g153 : G153) (g75 : G75) (g154 : G154) (g152 : G152) (F : Nat) (hK : KOK Try.prog (ct108 g153 g75 g154 g152 )) : LSOK Try.prog ⟨102, false, undef⟩ (ls108_15 g153 g75 g154 g152 F) (loopOf Try.f108 15) kr108 :=
  loop_ok (st108_15 g153 g75 g154 g152 F) mixed tt_ok hK (by kernel_rfl) (LTOK_by (l := []) (by kernel_rfl) trivial) (ev108_15 g153 g75 g154 g152 F)
theorem ev108_3 (g153 : G153) (g75 : G75) (g154 : G154) (g152 : G152) (F : Nat) (s : ShVal sh108_3) (k kx : ShVal sh108_3 → Option R108) : evL TT (ct108 g153 g75 g154 g152 ) kp108 [(10, ls108_10 g153 g75 g154 g152 F), (15, ls108_15 g153 g75 g154 g152 F)] (loopOf Try.f108 3) (envOf sh108_3 s) (fitK sh108_3 k) (fun j e => bif Nat.beq j 0 then fitK sh108_3 kx e else none) kr108 = st108_3 g153 g75 g154 g152 F s k kx := by
  obtain ⟨⟨t0, _⟩, ⟨t1, _⟩, ⟨t5, _⟩, ⟨t6, _⟩, _⟩ := s
  kernel_rfl
theorem ok108_3 (g153 : G153) (g75 : G75) (g154 : G154) (g152 : G152) (F : Nat) (hK : KOK Try.prog (ct108 g153 g75 g154 g152 )) : LSOK Try.prog ⟨102, false, undef⟩ (ls108_3 g153 g75 g154 g152 F) (loopOf Try.f108 3) kr108 :=
  loop_ok (st108_3 g153 g75 g154 g152 F) mixed tt_ok hK (by kernel_rfl) (LTOK_by (l := [loopOf Try.f108 10, loopOf Try.f108 15]) (by kernel_rfl) ⟨ls_at (by kernel_rfl) (ok108_10 g153 g75 g154 g152 F hK), ⟨ls_at (by kernel_rfl) (ok108_15 g153 g75 g154 g152 F hK), trivial⟩⟩) (ev108_3 g153 g75 g154 g152 F)
theorem ev108 (g153 : G153) (g75 : G75) (g154 : G154) (g152 : G152) (F : Nat) (x : Args [.v i64, .v (.slice 24 (.slice 2 i64))]) : fnK TT (ct108 g153 g75 g154 g152 ) kp108 [(.slice 24 (.slice 2 i64))] [(3, ls108_3 g153 g75 g154 g152 F)] (bodyOf Try.f108) [.tmp 4] [.v i64, .v (.slice 24 (.slice 2 i64))] false false x = fn108 g153 g75 g154 g152 F x := by
  obtain ⟨x0, x1, _⟩ := x
  kernel_rfl
theorem ok108 (g153 : G153) (g75 : G75) (g154 : G154) (g152 : G152) (hK : KOK Try.prog (ct108 g153 g75 g154 g152 )) (cf : G108) (h : ∀ x y, cf x = some y → ∃ F, fn108 g153 g75 g154 g152 F x = some y) : KOne Try.prog 108 ⟨[.v i64, .v (.slice 24 (.slice 2 i64))], [(.slice 24 (.slice 2 i64))], false, false, 0, cf⟩ :=
  fn_one rfl (c := bodyOf Try.f108) mixed tt_ok hK Try.func108 (by kernel_rfl) (by kernel_rfl) (Nat.le_of_ble_eq_true (by kernel_rfl)) (by decide) fun x y hxy => by
    obtain ⟨F, hF⟩ := h x y hxy
    exact ⟨[(3, ls108_3 g153 g75 g154 g152 F)], LTOK_by (l := [loopOf Try.f108 3]) (by kernel_rfl) ⟨ls_at (by kernel_rfl) (ok108_3 g153 g75 g154 g152 F hK), trivial⟩, (ev108 g153 g75 g154 g152 F x).trans hF⟩
/-! laws.eqInt64S -/
abbrev R18 : Type := Ress [.bool]
abbrev G18 : Type := Args [.v (.slice 2 i64), .v (.slice 2 i64)] → Option R18
abbrev kp18 : List (Nat × List Nat) := [(0, [0, 1]), (1, [10, 0, 1]), (2, [4]), (3, [5, 1, 0]), (4, [14, 0, 1, 5]), (6, [25, 0, 1, 5]), (7, [4]), (5, [5, 1, 0]), (8, [4])]
abbrev ct18 : CTab := []
abbrev kr18 : Env → Option R18 := endK TT [.tmp 4] [.bool] false false
abbrev sh18_4 : Shape := [(0, vv (.slice 2 i64)), (1, vv (.slice 2 i64)), (5, vv i64)]
def st18_4 (F : Nat) (s : ShVal sh18_4) (k kx : ShVal sh18_4 → Option R18) : Option R18 :=
  match s with
  | ((t0, _), (t1, _), (t5, _), _) => (bif decide ((List.length t0) ≤ 9223372036854775807) then (bif decide (t5 < (Int.ofNat (List.length t0))) then (bif ib t5 (Int.ofNat (List.length t0)) then (bif ib t5 (Int.ofNat (List.length t1)) then (bif (!decide ((List.getD t0 (tn t5) (0 : Int)) = (List.getD t1 (tn t5) (0 : Int)))) then (some (false, ())) else k ((t0, ()), ((t1, ()), (((w6 (t5 + (1 : Int))), ()), ())))) else none) else none) else kx ((t0, ()), ((t1, ()), ((t5, ()), ())))) else none)
def ru18_4 (F : Nat) (s : ShVal sh18_4) (kx : ShVal sh18_4 → Option R18) : Option R18 := iter (fun s k => st18_4 F s k kx) F s
abbrev ls18_4 (F : Nat) : LS R18 := ⟨sh18_4, 0, ru18_4 F⟩
def fn18 (F : Nat) (x : Args [.v (.slice 2 i64), .v (.slice 2 i64)]) : Option R18 :=
  match x with
  | (x0, x1, _) => (bif decide ((List.length x0) ≤ 9223372036854775807) then (bif decide ((List.length x1) ≤ 9223372036854775807) then (bif (!decide ((Int.ofNat (List.length x0)) = (Int.ofNat (List.length x1)))) then (some (false, ())) else (ru18_4 F ((x0, ()), ((x1, ()), (((0 : Int), ()), ()))) (fun s' => match s' with | ((t0, _), (t1, _), (t5, _), _) => (some (true, ()))))) else none) else none)
theorem ev18_4 (F : Nat) (s : ShVal sh18_4) (k kx : ShVal sh18_4 → Option R18) : evL TT (ct18 ) kp18 [] (loopOf Try.f18 4) (envOf sh18_4 s) (fitK sh18_4 k) (fun j e => bif Nat.beq j 0 then fitK sh18_4 kx e else none) kr18 = st18_4 F s k kx := by
  obtain ⟨⟨t0, _⟩, ⟨t1, _⟩, ⟨t5, _⟩, _⟩ := s
  kernel_rfl
theorem ok18_4 (F : Nat) (hK : KOK Try.prog (ct18 )) : LSOK Try.prog ⟨26, false, undef⟩ (ls18_4 F) (loopOf Try.f18 4) kr18 :=
  loop_ok (st18_4 F) mixed tt_ok hK (by kernel_rfl) (LTOK_by (l := []) (by kernel_rfl) trivial) (ev18_4 F)
theorem ev18 (F : Nat) (x : Args [.v (.slice 2 i64), .v (.slice 2 i64)]) : fnK TT (ct18 ) kp18 [.bool] [(4, ls18_4 F)] (bodyOf Try.f18) [.tmp 4] [.v (.slice 2 i64), .v (.slice 2 i64)] false false x = fn18 F x := by
  obtain ⟨x0, x1, _⟩ := x
  kernel_rfl
theorem ok18 (hK : KOK Try.prog (ct18 )) (cf : G18) (h : ∀ x y, cf x = some y → ∃ F, fn18 F x = some y) : KOne Try.prog 18 ⟨[.v (.slice 2 i64), .v (.slice 2 i64)], [.bool], false, false, 0, cf⟩ :=
  fn_one rfl (c := bodyOf Try.f18) mixed tt_ok hK Try.func18 (by kernel_rfl) (by kernel_rfl) (Nat.le_of_ble_eq_true (by kernel_rfl)) (by decide) fun x y hxy => by
    obtain ⟨F, hF⟩ := h x y hxy
    exact ⟨[(4, ls18_4 F)], LTOK_by (l := [loopOf Try.f18 4]) (by kernel_rfl) ⟨ls_at (by kernel_rfl) (ok18_4 F hK), trivial⟩, (ev18 F x).trans hF⟩
/-! laws.markInt64S -/
abbrev R19 : Type := Ress [(.slice 2 i64), i64]
abbrev G19 : Type := Args [.v (.slice 2 i64), .v i64] → Option R19
abbrev kp19 : List (Nat × List Nat) := [(0, [1, 0]), (1, [5, 1, 0]), (2, [9, 1, 5, 0]), (4, [1, 5, 0]), (5, [5, 1, 0]), (3, [5, 1, 0]), (6, [4, 0])]
abbrev ct19 : CTab := []
abbrev kr19 : Env → Option R19 := endM 2 i64 [.tmp 4]
abbrev sh19_2 : Shape := [(0, vr 2 i64 1 false), (1, vv i64), (5, vv i64)]
def st19_2 (F : Nat) (s : ShVal sh19_2) (k kx : ShVal sh19_2 → Option R19) : Option R19 :=
  match s with
  | ((t0, _), (t1, _), (t5, _), _) => (bif decide ((List.length t0) ≤ 9223372036854775807) then (bif decide (t5 < (Int.ofNat (List.length t0))) then (bif ib t5 (Int.ofNat (List.length t0)) then k (((List.set t0 (tn t5) t1), ()), (((w6 (t1 + (1 : Int))), ()), (((w6 (t5 + (1 : Int))), ()), ()))) else none) else kx ((t0, ()), ((t1, ()), ((t5, ()), ())))) else none)
def ru19_2 (F : Nat) (s : ShVal sh19_2) (kx : ShVal sh19_2 → Option R19) : Option R19 := iter (fun s k => st19_2 F s k kx) F s
abbrev ls19_2 (F : Nat) : LS R19 := ⟨sh19_2, 0, ru19_2 F⟩
def fn19 (F : Nat) (x : Args [.v (.slice 2 i64), .v i64]) : Option R19 :=
  match x with
  | (x0, x1, _) => (ru19_2 F ((x0, ()), ((x1, ()), (((0 : Int), ()), ()))) (fun s' => match s' with | ((t0, _), (t1, _), (t5, _), _) => (some (t0, (t1, ())))))
theorem ev19_2 (F : Nat) (s : ShVal sh19_2) (k kx : ShVal sh19_2 → Option R19) : evL TT (ct19 ) kp19 [] (loopOf Try.f19 2) (envOf sh19_2 s) (fitK sh19_2 k) (fun j e => bif Nat.beq j 0 then fitK sh19_2 kx e else none) kr19 = st19_2 F s k kx := by
  obtain ⟨⟨t0, _⟩, ⟨t1, _⟩, ⟨t5, _⟩, _⟩ := s
  kernel_rfl
theorem ok19_2 (F : Nat) (hK : KOK Try.prog (ct19 )) (v0 : Value) : LSOK Try.prog ⟨19, true, v0⟩ (ls19_2 F) (loopOf Try.f19 2) kr19 :=
  loop_ok (st19_2 F) mixed tt_ok hK (by kernel_rfl) (LTOK_by (l := []) (by kernel_rfl) trivial) (ev19_2 F)
theorem ev19 (F : Nat) (x : Args [.v (.slice 2 i64), .v i64]) : fnM TT (ct19 ) kp19 2 i64 [(2, ls19_2 F)] (bodyOf Try.f19) [.tmp 4] x = fn19 F x := by
  obtain ⟨x0, x1, _⟩ := x
  kernel_rfl
theorem ok19 (hK : KOK Try.prog (ct19 )) (cf : G19) (h : ∀ x y, cf x = some y → ∃ F, fn19 F x = some y) : KOne Try.prog 19 ⟨[.v (.slice 2 i64), .v i64], [(.slice 2 i64), i64], false, false, 1, cf⟩ :=
  fnM_one rfl (c := bodyOf Try.f19) mixed tt_ok hK Try.func19 (by kernel_rfl) (by kernel_rfl) (Nat.le_of_ble_eq_true (by kernel_rfl)) (by decide) fun x y hxy => by
    obtain ⟨F, hF⟩ := h x y hxy
    exact ⟨[(2, ls19_2 F)], fun v0 => LTOK_by (l := [loopOf Try.f19 2]) (by kernel_rfl) ⟨ls_at (by kernel_rfl) (ok19_2 F hK v0), trivial⟩, (ev19 F x).trans hF⟩
/-! laws.heldInt64S -/
abbrev R20 : Type := Ress [i64]
abbrev G20 : Type := Args [.v (.slice 2 i64), .v i64] → Option R20
abbrev kp20 : List (Nat × List Nat) := [(0, [1, 0]), (1, [1, 5, 0]), (2, [9, 0, 5, 1]), (4, [17, 0, 5, 1]), (5, [4]), (6, [5, 1, 0]), (3, [1, 5, 0]), (7, [4])]
abbrev ct20 : CTab := []
abbrev kr20 : Env → Option R20 := endK TT [.tmp 4] [i64] false false
abbrev sh20_2 : Shape := [(0, vv (.slice 2 i64)), (1, vv i64), (5, vv i64)]
def st20_2 (F : Nat) (s : ShVal sh20_2) (k kx : ShVal sh20_2 → Option R20) : Option R20 :=
  match s with
  | ((t0, _), (t1, _), (t5, _), _) => (bif decide ((List.length t0) ≤ 9223372036854775807) then (bif decide (t5 < (Int.ofNat (List.length t0))) then (bif ib t5 (Int.ofNat (List.length t0)) then (bif (!decide ((List.getD t0 (tn t5) (0 : Int)) = t1)) then (some ((-(1 : Int)), ())) else k ((t0, ()), (((w6 (t1 + (1 : Int))), ()), (((w6 (t5 + (1 : Int))), ()), ())))) else none) else kx ((t0, ()), ((t1, ()), ((t5, ()), ())))) else none)
def ru20_2 (F : Nat) (s : ShVal sh20_2) (kx : ShVal sh20_2 → Option R20) : Option R20 := iter (fun s k => st20_2 F s k kx) F s
abbrev ls20_2 (F : Nat) : LS R20 := ⟨sh20_2, 0, ru20_2 F⟩
def fn20 (F : Nat) (x : Args [.v (.slice 2 i64), .v i64]) : Option R20 :=
  match x with
  | (x0, x1, _) => (ru20_2 F ((x0, ()), ((x1, ()), (((0 : Int), ()), ()))) (fun s' => match s' with | ((t0, _), (t1, _), (t5, _), _) => (some (t1, ()))))
theorem ev20_2 (F : Nat) (s : ShVal sh20_2) (k kx : ShVal sh20_2 → Option R20) : evL TT (ct20 ) kp20 [] (loopOf Try.f20 2) (envOf sh20_2 s) (fitK sh20_2 k) (fun j e => bif Nat.beq j 0 then fitK sh20_2 kx e else none) kr20 = st20_2 F s k kx := by
  obtain ⟨⟨t0, _⟩, ⟨t1, _⟩, ⟨t5, _⟩, _⟩ := s
  kernel_rfl
theorem ok20_2 (F : Nat) (hK : KOK Try.prog (ct20 )) : LSOK Try.prog ⟨21, false, undef⟩ (ls20_2 F) (loopOf Try.f20 2) kr20 :=
  loop_ok (st20_2 F) mixed tt_ok hK (by kernel_rfl) (LTOK_by (l := []) (by kernel_rfl) trivial) (ev20_2 F)
theorem ev20 (F : Nat) (x : Args [.v (.slice 2 i64), .v i64]) : fnK TT (ct20 ) kp20 [i64] [(2, ls20_2 F)] (bodyOf Try.f20) [.tmp 4] [.v (.slice 2 i64), .v i64] false false x = fn20 F x := by
  obtain ⟨x0, x1, _⟩ := x
  kernel_rfl
theorem ok20 (hK : KOK Try.prog (ct20 )) (cf : G20) (h : ∀ x y, cf x = some y → ∃ F, fn20 F x = some y) : KOne Try.prog 20 ⟨[.v (.slice 2 i64), .v i64], [i64], false, false, 0, cf⟩ :=
  fn_one rfl (c := bodyOf Try.f20) mixed tt_ok hK Try.func20 (by kernel_rfl) (by kernel_rfl) (Nat.le_of_ble_eq_true (by kernel_rfl)) (by decide) fun x y hxy => by
    obtain ⟨F, hF⟩ := h x y hxy
    exact ⟨[(2, ls20_2 F)], LTOK_by (l := [loopOf Try.f20 2]) (by kernel_rfl) ⟨ls_at (by kernel_rfl) (ok20_2 F hK), trivial⟩, (ev20 F x).trans hF⟩
end Go.Proofs.YtkoifikjfnbcpaaEv
