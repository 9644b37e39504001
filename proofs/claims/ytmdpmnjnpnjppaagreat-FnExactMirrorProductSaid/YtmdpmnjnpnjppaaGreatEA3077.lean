/- The program's operations on plain typed data, that the machine does the same, what the functions come to, and what they give (part 7). No condition. -/
import Derived.Test.YtmdpmnjnpnjppaaGreatEA3076
set_option linter.unusedVariables false
set_option linter.unusedSimpArgs false
namespace Go.Proofs.YtmdpmnjnpnjppaaGreatEv
open Go Go.RowKit
abbrev R117:Type:=Ress [i64]
abbrev G117:Type:=Args [.v (.slice 111 mat),.v i64]->Option R117
abbrev kp117:List (Nat × List Nat):=[(0,[1,0]),(1,[1]),(2,[10,1]),(3,[4]),(4,[4])]
abbrev ct117:CTab:=[]
def fn117 (F:Nat) (x:Args [.v (.slice 111 mat),.v i64]):Option R117 :=
  match x with
  | (x0,x1,_) => (bif decide ((List.length x0) ≤ 9223372036854775807) then (bif decide ((w6 (x1 - (Int.ofNat (List.length x0)))) < (0:Int)) then (some ((-(1:Int)),())) else (some ((w6 (x1 - (Int.ofNat (List.length x0)))),()))) else none)
theorem ev117 (F:Nat) (x:Args [.v (.slice 111 mat),.v i64]):fnK TT (ct117 ) kp117 [i64] [] (bodyOf Tryz.f117) [.tmp 4] [.v (.slice 111 mat),.v i64] false false x = fn117 F x:=by
  obtain ⟨x0,x1,_⟩:=x
  kernel_rfl
theorem ok117 (hK:KOK Tryz.prog (ct117 )) (cf:G117) (h:∀ x y,cf x = some y->∃ F,fn117 F x = some y):KOne Tryz.prog 117 ⟨[.v (.slice 111 mat),.v i64],[i64],false,false,0,cf⟩ :=
  fn_one rfl (c:=bodyOf Tryz.f117) mixed tt_ok hK Tryz.func117 (by kernel_rfl) (by kernel_rfl) (Nat.le_of_ble_eq_true (by kernel_rfl)) (by decide) fun x y hxy => by
    obtain ⟨F,hF⟩:=h x y hxy
    exact ⟨[],LTOK_by (l:=[]) (by kernel_rfl) trivial,(ev117 F x).trans hF⟩
abbrev R48:Type:=Ress [i64]
abbrev G48:Type:=Args [.v (.pair i64 (.pair i64 (.pair (.slice 111 mat) .unit))),.v i64]->Option R48
abbrev kp48:List (Nat × List Nat):=[(0,[2,1]),(1,[1]),(2,[10,1]),(3,[4]),(4,[4])]
abbrev ct48 (g117:G117):CTab:=[(117,⟨[.v (.slice 111 mat),.v i64],[i64],false,false,0,g117⟩)]
def fn48 (g117:G117) (F:Nat) (x:Args [.v (.pair i64 (.pair i64 (.pair (.slice 111 mat) .unit))),.v i64]):Option R48 :=
  match x with
  | (x0,x1,_) => (match (g117 (x0.2.2.1,(x1,()))) with | some r5 => (bif decide (r5.1 < (0:Int)) then (some ((-(1:Int)),())) else (some (r5.1,()))) | none => none)
theorem ev48 (g117:G117) (F:Nat) (x:Args [.v (.pair i64 (.pair i64 (.pair (.slice 111 mat) .unit))),.v i64]):fnK TT (ct48 g117 ) kp48 [i64] [] (bodyOf Tryz.f48) [.tmp 4] [.v (.pair i64 (.pair i64 (.pair (.slice 111 mat) .unit))),.v i64] false false x = fn48 g117 F x:=by
  obtain ⟨x0,x1,_⟩:=x
  kernel_rfl
theorem ok48 (g117:G117) (hK:KOK Tryz.prog (ct48 g117 )) (cf:G48) (h:∀ x y,cf x = some y->∃ F,fn48 g117 F x = some y):KOne Tryz.prog 48 ⟨[.v (.pair i64 (.pair i64 (.pair (.slice 111 mat) .unit))),.v i64],[i64],false,false,0,cf⟩ :=
  fn_one rfl (c:=bodyOf Tryz.f48) mixed tt_ok hK Tryz.func48 (by kernel_rfl) (by kernel_rfl) (Nat.le_of_ble_eq_true (by kernel_rfl)) (by decide) fun x y hxy => by
    obtain ⟨F,hF⟩:=h x y hxy
    exact ⟨[],LTOK_by (l:=[]) (by kernel_rfl) trivial,(ev48 g117 F x).trans hF⟩
abbrev R123:Type:=Ress [(.slice 112 mat)]
abbrev G123:Type:=Args [.v (.slice 111 mat)]->Option R123
abbrev kp123:List (Nat × List Nat):=[(0,[0]),(1,[0,3]),(2,[4,0,3]),(3,[11,4,0,3]),(5,[4,0,3]),(4,[4,0,3]),(6,[2])]
abbrev ct123 (g192:G192):CTab:=[(192,⟨[.v mat],[mat],false,false,0,g192⟩)]
abbrev kr123:Env->Option R123:=endK TT [.tmp 2] [(.slice 112 mat)] true false
abbrev sh123_3:Shape:=[(0,.val false [.fz (.slice 111 mat) 0 true]),(3,vr 112 mat 49 false),(4,vv i64)]
def st123_3 (g192:G192) (F:Nat) (s:ShVal sh123_3) (k kx:ShVal sh123_3->Option R123):Option R123 :=
  match s with
  | ((t0,_),(t3,_),(t4,_),_) => (bif decide ((List.length t0) ≤ 9223372036854775807) then (bif decide (t4 < (Int.ofNat (List.length t0))) then (bif ib t4 (Int.ofNat (List.length t0)) then (match (g192 ((List.getD t0 (tn t4) (Ty.dflt (.arr 3 (.arr 3 (.int .u8))))),())) with | some r10 => (bif ib t4 (Int.ofNat (List.length t3)) then k ((t0,()),(((List.set t3 (tn t4) r10.1),()),(((w6 (t4 + (1:Int))),()),()))) else none) | none => none) else none) else kx ((t0,()),((t3,()),((t4,()),())))) else none)
def ru123_3 (g192:G192) (F:Nat) (s:ShVal sh123_3) (kx:ShVal sh123_3->Option R123):Option R123:=iter (fun s k => st123_3 g192 F s k kx) F s
abbrev ls123_3 (g192:G192) (F:Nat):LS R123:=⟨sh123_3,0,ru123_3 g192 F⟩
def fn123 (g192:G192) (F:Nat) (x:Args [.v (.slice 111 mat)]):Option R123 :=
  match x with
  | (x0,_) => (bif decide ((List.length x0) ≤ 9223372036854775807) then (bif ((decide ((0:Int) ≤ (Int.ofNat (List.length x0))) && decide ((Int.ofNat (List.length x0)) ≤ (1099511627776:Int))) && decide ((Int.ofNat (List.length x0)) = (Int.ofNat (List.length x0)))) then (ru123_3 g192 F ((x0,()),(((List.replicate (tn (Int.ofNat (List.length x0))) (Ty.dflt (.arr 3 (.arr 3 (.int .u8))))),()),(((0:Int),()),()))) (fun s' => match s' with | ((t0,_),(t3,_),(t4,_),_) => (some (t3,())))) else none) else none)
theorem ev123_3 (g192:G192) (F:Nat) (s:ShVal sh123_3) (k kx:ShVal sh123_3->Option R123):evL TT (ct123 g192 ) kp123 [] (loopOf Tryz.f123 3) (envOf sh123_3 s) (fitK sh123_3 k) (fun j e => bif Nat.beq j 0 then fitK sh123_3 kx e else none) kr123 = st123_3 g192 F s k kx:=by
  obtain ⟨⟨t0,_⟩,⟨t3,_⟩,⟨t4,_⟩,_⟩:=s
  kernel_rfl
theorem ok123_3 (g192:G192) (F:Nat) (hK:KOK Tryz.prog (ct123 g192 )):LSOK Tryz.prog ⟨23,false,undef⟩ (ls123_3 g192 F) (loopOf Tryz.f123 3) kr123 :=
  loop_ok (st123_3 g192 F) mixed tt_ok hK (by kernel_rfl) (LTOK_by (l:=[]) (by kernel_rfl) trivial) (ev123_3 g192 F)
theorem ev123 (g192:G192) (F:Nat) (x:Args [.v (.slice 111 mat)]):fnK TT (ct123 g192 ) kp123 [(.slice 112 mat)] [(3,ls123_3 g192 F)] (bodyOf Tryz.f123) [.tmp 2] [.v (.slice 111 mat)] true false x = fn123 g192 F x:=by
  obtain ⟨x0,_⟩:=x
  kernel_rfl
theorem ok123 (g192:G192) (hK:KOK Tryz.prog (ct123 g192 )) (cf:G123) (h:∀ x y,cf x = some y->∃ F,fn123 g192 F x = some y):KOne Tryz.prog 123 ⟨[.v (.slice 111 mat)],[(.slice 112 mat)],true,false,0,cf⟩ :=
  fn_one rfl (c:=bodyOf Tryz.f123) mixed tt_ok hK Tryz.func123 (by kernel_rfl) (by kernel_rfl) (Nat.le_of_ble_eq_true (by kernel_rfl)) (by decide) fun x y hxy => by
    obtain ⟨F,hF⟩:=h x y hxy
    exact ⟨[(3,ls123_3 g192 F)],LTOK_by (l:=[loopOf Tryz.f123 3]) (by kernel_rfl) ⟨ls_at (by kernel_rfl) (ok123_3 g192 F hK),trivial⟩,(ev123 g192 F x).trans hF⟩
abbrev R50:Type:=Ress [(.pair i64 (.pair i64 (.pair (.slice 112 mat) .unit)))]
abbrev G50:Type:=Args [.v (.pair i64 (.pair i64 (.pair (.slice 111 mat) .unit)))]->Option R50
abbrev kp50:List (Nat × List Nat):=[(0,[1,2]),(1,[1,3,2]),(2,[1,3,2]),(3,[1,3,2]),(4,[3,2]),(5,[2])]
abbrev ct50 (g123:G123):CTab:=[(123,⟨[.v (.slice 111 mat)],[(.slice 112 mat)],true,false,0,g123⟩)]
def fn50 (g123:G123) (F:Nat) (x:Args [.v (.pair i64 (.pair i64 (.pair (.slice 111 mat) .unit)))]):Option R50 :=
  match x with
  | (x0,_) => (match (g123 (x0.2.2.1,())) with | some r7 => (some ((x0.1,(x0.2.1,(r7.1,()))),())) | none => none)
theorem ev50 (g123:G123) (F:Nat) (x:Args [.v (.pair i64 (.pair i64 (.pair (.slice 111 mat) .unit)))]):fnK TT (ct50 g123 ) kp50 [(.pair i64 (.pair i64 (.pair (.slice 112 mat) .unit)))] [] (bodyOf Tryz.f50) [.cell 2 61] [.v (.pair i64 (.pair i64 (.pair (.slice 111 mat) .unit)))] true false x = fn50 g123 F x:=by
  obtain ⟨x0,_⟩:=x
  kernel_rfl
theorem ok50 (g123:G123) (hK:KOK Tryz.prog (ct50 g123 )) (cf:G50) (h:∀ x y,cf x = some y->∃ F,fn50 g123 F x = some y):KOne Tryz.prog 50 ⟨[.v (.pair i64 (.pair i64 (.pair (.slice 111 mat) .unit)))],[(.pair i64 (.pair i64 (.pair (.slice 112 mat) .unit)))],true,false,0,cf⟩ :=
  fn_one rfl (c:=bodyOf Tryz.f50) mixed tt_ok hK Tryz.func50 (by kernel_rfl) (by kernel_rfl) (Nat.le_of_ble_eq_true (by kernel_rfl)) (by decide) fun x y hxy => by
    obtain ⟨F,hF⟩:=h x y hxy
    exact ⟨[],LTOK_by (l:=[]) (by kernel_rfl) trivial,(ev50 g123 F x).trans hF⟩
abbrev R235:Type:=Ress [.bool]
abbrev G235:Type:=Args [.v ex,.v ex]->Option R235
abbrev kp235:List (Nat × List Nat):=[(0,[3,2]),(1,[5,3,2]),(2,[7,2,3,5]),(4,[16,2,3,5]),(5,[4]),(3,[5,3,2]),(6,[4])]
abbrev ct235:CTab:=[]
abbrev kr235:Env->Option R235:=endK TT [.tmp 4] [.bool] false false
abbrev sh235_2:Shape:=[(2,bb ex),(3,bb ex),(5,vv i64)]
def st235_2 (F:Nat) (s:ShVal sh235_2) (k kx:ShVal sh235_2->Option R235):Option R235 :=
  match s with
  | ((t2,_),(t3,_),(t5,_),_) => (bif decide (t5 < (3:Int)) then (bif ib t5 (Int.ofNat 3) then (bif ib t5 (Int.ofNat 3) then (bif (!decide ((tget (0:Int) 3 t2 (tn t5)) = (tget (0:Int) 3 t3 (tn t5)))) then (some (false,())) else k ((t2,()),((t3,()),(((w6 (t5 + (1:Int))),()),())))) else none) else none) else kx ((t2,()),((t3,()),((t5,()),()))))
def ru235_2 (F:Nat) (s:ShVal sh235_2) (kx:ShVal sh235_2->Option R235):Option R235:=iter (fun s k => st235_2 F s k kx) F s
abbrev ls235_2 (F:Nat):LS R235:=⟨sh235_2,0,ru235_2 F⟩
def fn235 (F:Nat) (x:Args [.v ex,.v ex]):Option R235 :=
  match x with
  | (x0,x1,_) => (ru235_2 F ((x0,()),((x1,()),(((0:Int),()),()))) (fun s' => match s' with | ((t2,_),(t3,_),(t5,_),_) => (some (true,()))))
theorem ev235_2 (F:Nat) (s:ShVal sh235_2) (k kx:ShVal sh235_2->Option R235):evL TT (ct235 ) kp235 [] (loopOf Tryz.f235 2) (envOf sh235_2 s) (fitK sh235_2 k) (fun j e => bif Nat.beq j 0 then fitK sh235_2 kx e else none) kr235 = st235_2 F s k kx:=by
  obtain ⟨⟨t2,_⟩,⟨t3,_⟩,⟨t5,_⟩,_⟩:=s
  kernel_rfl
theorem ok235_2 (F:Nat) (hK:KOK Tryz.prog (ct235 )):LSOK Tryz.prog ⟨17,false,undef⟩ (ls235_2 F) (loopOf Tryz.f235 2) kr235 :=
  loop_ok (st235_2 F) mixed tt_ok hK (by kernel_rfl) (LTOK_by (l:=[]) (by kernel_rfl) trivial) (ev235_2 F)
theorem ev235 (F:Nat) (x:Args [.v ex,.v ex]):fnK TT (ct235 ) kp235 [.bool] [(2,ls235_2 F)] (bodyOf Tryz.f235) [.tmp 4] [.v ex,.v ex] false false x = fn235 F x:=by
  obtain ⟨x0,x1,_⟩:=x
  kernel_rfl
theorem ok235 (hK:KOK Tryz.prog (ct235 )) (cf:G235) (h:∀ x y,cf x = some y->∃ F,fn235 F x = some y):KOne Tryz.prog 235 ⟨[.v ex,.v ex],[.bool],false,false,0,cf⟩ :=
  fn_one rfl (c:=bodyOf Tryz.f235) mixed tt_ok hK Tryz.func235 (by kernel_rfl) (by kernel_rfl) (Nat.le_of_ble_eq_true (by kernel_rfl)) (by decide) fun x y hxy => by
    obtain ⟨F,hF⟩:=h x y hxy
    exact ⟨[(2,ls235_2 F)],LTOK_by (l:=[loopOf Tryz.f235 2]) (by kernel_rfl) ⟨ls_at (by kernel_rfl) (ok235_2 F hK),trivial⟩,(ev235 F x).trans hF⟩
abbrev R202:Type:=Ress [.bool]
abbrev G202:Type:=Args [.v mat,.v mat]->Option R202
abbrev kp202:List (Nat × List Nat):=[(0,[3,2]),(1,[5,3,2]),(2,[7,2,3,5]),(4,[17,2,3,5]),(5,[4]),(3,[5,3,2]),(6,[4])]
abbrev ct202 (g235:G235):CTab:=[(235,⟨[.v ex,.v ex],[.bool],false,false,0,g235⟩)]
abbrev kr202:Env->Option R202:=endK TT [.tmp 4] [.bool] false false
abbrev sh202_2:Shape:=[(2,bb mat),(3,bb mat),(5,vv i64)]
def st202_2 (g235:G235) (F:Nat) (s:ShVal sh202_2) (k kx:ShVal sh202_2->Option R202):Option R202 :=
  match s with
  | ((t2,_),(t3,_),(t5,_),_) => (bif decide (t5 < (3:Int)) then (bif ib t5 (Int.ofNat 3) then (bif ib t5 (Int.ofNat 3) then (match (g235 ((tget (Ty.dflt (.arr 3 (.int .u8))) 3 t2 (tn t5)),((tget (Ty.dflt (.arr 3 (.int .u8))) 3 t3 (tn t5)),()))) with | some r10 => (bif (!r10.1) then (some (false,())) else k ((t2,()),((t3,()),(((w6 (t5 + (1:Int))),()),())))) | none => none) else none) else none) else kx ((t2,()),((t3,()),((t5,()),()))))
def ru202_2 (g235:G235) (F:Nat) (s:ShVal sh202_2) (kx:ShVal sh202_2->Option R202):Option R202:=iter (fun s k => st202_2 g235 F s k kx) F s
abbrev ls202_2 (g235:G235) (F:Nat):LS R202:=⟨sh202_2,0,ru202_2 g235 F⟩
def fn202 (g235:G235) (F:Nat) (x:Args [.v mat,.v mat]):Option R202 :=
  match x with
  | (x0,x1,_) => (ru202_2 g235 F ((x0,()),((x1,()),(((0:Int),()),()))) (fun s' => match s' with | ((t2,_),(t3,_),(t5,_),_) => (some (true,()))))
theorem ev202_2 (g235:G235) (F:Nat) (s:ShVal sh202_2) (k kx:ShVal sh202_2->Option R202):evL TT (ct202 g235 ) kp202 [] (loopOf Tryz.f202 2) (envOf sh202_2 s) (fitK sh202_2 k) (fun j e => bif Nat.beq j 0 then fitK sh202_2 kx e else none) kr202 = st202_2 g235 F s k kx:=by
  obtain ⟨⟨t2,_⟩,⟨t3,_⟩,⟨t5,_⟩,_⟩:=s
  kernel_rfl
theorem ok202_2 (g235:G235) (F:Nat) (hK:KOK Tryz.prog (ct202 g235 )):LSOK Tryz.prog ⟨18,false,undef⟩ (ls202_2 g235 F) (loopOf Tryz.f202 2) kr202 :=
  loop_ok (st202_2 g235 F) mixed tt_ok hK (by kernel_rfl) (LTOK_by (l:=[]) (by kernel_rfl) trivial) (ev202_2 g235 F)
theorem ev202 (g235:G235) (F:Nat) (x:Args [.v mat,.v mat]):fnK TT (ct202 g235 ) kp202 [.bool] [(2,ls202_2 g235 F)] (bodyOf Tryz.f202) [.tmp 4] [.v mat,.v mat] false false x = fn202 g235 F x:=by
  obtain ⟨x0,x1,_⟩:=x
  kernel_rfl
theorem ok202 (g235:G235) (hK:KOK Tryz.prog (ct202 g235 )) (cf:G202) (h:∀ x y,cf x = some y->∃ F,fn202 g235 F x = some y):KOne Tryz.prog 202 ⟨[.v mat,.v mat],[.bool],false,false,0,cf⟩ :=
  fn_one rfl (c:=bodyOf Tryz.f202) mixed tt_ok hK Tryz.func202 (by kernel_rfl) (by kernel_rfl) (Nat.le_of_ble_eq_true (by kernel_rfl)) (by decide) fun x y hxy => by
    obtain ⟨F,hF⟩:=h x y hxy
    exact ⟨[(2,ls202_2 g235 F)],LTOK_by (l:=[loopOf Tryz.f202 2]) (by kernel_rfl) ⟨ls_at (by kernel_rfl) (ok202_2 g235 F hK),trivial⟩,(ev202 g235 F x).trans hF⟩
abbrev R129:Type:=Ress [.bool]
abbrev G129:Type:=Args [.v (.slice 112 mat),.v (.slice 112 mat)]->Option R129
abbrev kp129:List (Nat × List Nat):=[(0,[0,1]),(1,[10,0,1]),(2,[4]),(3,[5,1,0]),(4,[14,0,1,5]),(6,[26,0,1,5]),(7,[4]),(5,[5,1,0]),(8,[4])]
abbrev ct129 (g202:G202):CTab:=[(202,⟨[.v mat,.v mat],[.bool],false,false,0,g202⟩)]
abbrev kr129:Env->Option R129:=endK TT [.tmp 4] [.bool] false false
abbrev sh129_4:Shape:=[(0,.val false [.fz (.slice 112 mat) 0 true]),(1,.val false [.fz (.slice 112 mat) 0 true]),(5,vv i64)]
def st129_4 (g202:G202) (F:Nat) (s:ShVal sh129_4) (k kx:ShVal sh129_4->Option R129):Option R129 :=
  match s with
  | ((t0,_),(t1,_),(t5,_),_) => (bif decide ((List.length t0) ≤ 9223372036854775807) then (bif decide (t5 < (Int.ofNat (List.length t0))) then (bif ib t5 (Int.ofNat (List.length t0)) then (bif ib t5 (Int.ofNat (List.length t1)) then (match (g202 ((List.getD t0 (tn t5) (Ty.dflt (.arr 3 (.arr 3 (.int .u8))))),((List.getD t1 (tn t5) (Ty.dflt (.arr 3 (.arr 3 (.int .u8))))),()))) with | some r11 => (bif (!r11.1) then (some (false,())) else k ((t0,()),((t1,()),(((w6 (t5 + (1:Int))),()),())))) | none => none) else none) else none) else kx ((t0,()),((t1,()),((t5,()),())))) else none)
def ru129_4 (g202:G202) (F:Nat) (s:ShVal sh129_4) (kx:ShVal sh129_4->Option R129):Option R129:=iter (fun s k => st129_4 g202 F s k kx) F s
abbrev ls129_4 (g202:G202) (F:Nat):LS R129:=⟨sh129_4,0,ru129_4 g202 F⟩
def fn129 (g202:G202) (F:Nat) (x:Args [.v (.slice 112 mat),.v (.slice 112 mat)]):Option R129 :=
  match x with
  | (x0,x1,_) => (bif decide ((List.length x0) ≤ 9223372036854775807) then (bif decide ((List.length x1) ≤ 9223372036854775807) then (bif (!decide ((Int.ofNat (List.length x0)) = (Int.ofNat (List.length x1)))) then (some (false,())) else (ru129_4 g202 F ((x0,()),((x1,()),(((0:Int),()),()))) (fun s' => match s' with | ((t0,_),(t1,_),(t5,_),_) => (some (true,()))))) else none) else none)
theorem ev129_4 (g202:G202) (F:Nat) (s:ShVal sh129_4) (k kx:ShVal sh129_4->Option R129):evL TT (ct129 g202 ) kp129 [] (loopOf Tryz.f129 4) (envOf sh129_4 s) (fitK sh129_4 k) (fun j e => bif Nat.beq j 0 then fitK sh129_4 kx e else none) kr129 = st129_4 g202 F s k kx:=by
  obtain ⟨⟨t0,_⟩,⟨t1,_⟩,⟨t5,_⟩,_⟩:=s
  kernel_rfl
theorem ok129_4 (g202:G202) (F:Nat) (hK:KOK Tryz.prog (ct129 g202 )):LSOK Tryz.prog ⟨27,false,undef⟩ (ls129_4 g202 F) (loopOf Tryz.f129 4) kr129 :=
  loop_ok (st129_4 g202 F) mixed tt_ok hK (by kernel_rfl) (LTOK_by (l:=[]) (by kernel_rfl) trivial) (ev129_4 g202 F)
theorem ev129 (g202:G202) (F:Nat) (x:Args [.v (.slice 112 mat),.v (.slice 112 mat)]):fnK TT (ct129 g202 ) kp129 [.bool] [(4,ls129_4 g202 F)] (bodyOf Tryz.f129) [.tmp 4] [.v (.slice 112 mat),.v (.slice 112 mat)] false false x = fn129 g202 F x:=by
  obtain ⟨x0,x1,_⟩:=x
  kernel_rfl
theorem ok129 (g202:G202) (hK:KOK Tryz.prog (ct129 g202 )) (cf:G129) (h:∀ x y,cf x = some y->∃ F,fn129 g202 F x = some y):KOne Tryz.prog 129 ⟨[.v (.slice 112 mat),.v (.slice 112 mat)],[.bool],false,false,0,cf⟩ :=
  fn_one rfl (c:=bodyOf Tryz.f129) mixed tt_ok hK Tryz.func129 (by kernel_rfl) (by kernel_rfl) (Nat.le_of_ble_eq_true (by kernel_rfl)) (by decide) fun x y hxy => by
    obtain ⟨F,hF⟩:=h x y hxy
    exact ⟨[(4,ls129_4 g202 F)],LTOK_by (l:=[loopOf Tryz.f129 4]) (by kernel_rfl) ⟨ls_at (by kernel_rfl) (ok129_4 g202 F hK),trivial⟩,(ev129 g202 F x).trans hF⟩
abbrev R52:Type:=Ress [.bool]
abbrev G52:Type:=Args [.v (.pair i64 (.pair i64 (.pair (.slice 112 mat) .unit))),.v (.pair i64 (.pair i64 (.pair (.slice 112 mat) .unit)))]->Option R52
abbrev kp52:List (Nat × List Nat):=[(0,[2,3]),(1,[9,2,3]),(2,[4]),(3,[14,3,2]),(4,[4]),(5,[20]),(6,[4]),(7,[4])]
abbrev ct52 (g129:G129):CTab:=[(129,⟨[.v (.slice 112 mat),.v (.slice 112 mat)],[.bool],false,false,0,g129⟩)]
def fn52 (g129:G129) (F:Nat) (x:Args [.v (.pair i64 (.pair i64 (.pair (.slice 112 mat) .unit))),.v (.pair i64 (.pair i64 (.pair (.slice 112 mat) .unit)))]):Option R52 :=
  match x with
  | (x0,x1,_) => (bif (!decide (x0.1 = x1.1)) then (some (false,())) else (bif (!decide (x0.2.1 = x1.2.1)) then (some (false,())) else (match (g129 (x0.2.2.1,(x1.2.2.1,()))) with | some r7 => (bif (!r7.1) then (some (false,())) else (some (true,()))) | none => none)))
theorem ev52 (g129:G129) (F:Nat) (x:Args [.v (.pair i64 (.pair i64 (.pair (.slice 112 mat) .unit))),.v (.pair i64 (.pair i64 (.pair (.slice 112 mat) .unit)))]):fnK TT (ct52 g129 ) kp52 [.bool] [] (bodyOf Tryz.f52) [.tmp 4] [.v (.pair i64 (.pair i64 (.pair (.slice 112 mat) .unit))),.v (.pair i64 (.pair i64 (.pair (.slice 112 mat) .unit)))] false false x = fn52 g129 F x:=by
  obtain ⟨x0,x1,_⟩:=x
  kernel_rfl
theorem ok52 (g129:G129) (hK:KOK Tryz.prog (ct52 g129 )) (cf:G52) (h:∀ x y,cf x = some y->∃ F,fn52 g129 F x = some y):KOne Tryz.prog 52 ⟨[.v (.pair i64 (.pair i64 (.pair (.slice 112 mat) .unit))),.v (.pair i64 (.pair i64 (.pair (.slice 112 mat) .unit)))],[.bool],false,false,0,cf⟩ :=
  fn_one rfl (c:=bodyOf Tryz.f52) mixed tt_ok hK Tryz.func52 (by kernel_rfl) (by kernel_rfl) (Nat.le_of_ble_eq_true (by kernel_rfl)) (by decide) fun x y hxy => by
    obtain ⟨F,hF⟩:=h x y hxy
    exact ⟨[],LTOK_by (l:=[]) (by kernel_rfl) trivial,(ev52 g129 F x).trans hF⟩
abbrev R130:Type:=Ress [(.slice 112 mat),i64]
abbrev G130:Type:=Args [.v (.slice 112 mat),.v i64]->Option R130
abbrev kp130:List (Nat × List Nat):=[(0,[1,0]),(1,[5,1,0]),(2,[9,5,1,0]),(3,[5,1,0]),(4,[4,0])]
abbrev ct130:CTab:=[]
abbrev kr130:Env->Option R130:=endM 112 mat [.tmp 4]
abbrev sh130_2:Shape:=[(0,vr 112 mat 1 false),(1,vv i64),(5,vv i64)]
def st130_2 (F:Nat) (s:ShVal sh130_2) (k kx:ShVal sh130_2->Option R130):Option R130 :=
  match s with
  | ((t0,_),(t1,_),(t5,_),_) => (bif decide ((List.length t0) ≤ 9223372036854775807) then (bif decide (t5 < (Int.ofNat (List.length t0))) then k ((t0,()),((t1,()),(((w6 (t5 + (1:Int))),()),()))) else kx ((t0,()),((t1,()),((t5,()),())))) else none)
def ru130_2 (F:Nat) (s:ShVal sh130_2) (kx:ShVal sh130_2->Option R130):Option R130:=iter (fun s k => st130_2 F s k kx) F s
abbrev ls130_2 (F:Nat):LS R130:=⟨sh130_2,0,ru130_2 F⟩
def fn130 (F:Nat) (x:Args [.v (.slice 112 mat),.v i64]):Option R130 :=
  match x with
  | (x0,x1,_) => (ru130_2 F ((x0,()),((x1,()),(((0:Int),()),()))) (fun s' => match s' with | ((t0,_),(t1,_),(t5,_),_) => (some (t0,(t1,())))))
theorem ev130_2 (F:Nat) (s:ShVal sh130_2) (k kx:ShVal sh130_2->Option R130):evL TT (ct130 ) kp130 [] (loopOf Tryz.f130 2) (envOf sh130_2 s) (fitK sh130_2 k) (fun j e => bif Nat.beq j 0 then fitK sh130_2 kx e else none) kr130 = st130_2 F s k kx:=by
  obtain ⟨⟨t0,_⟩,⟨t1,_⟩,⟨t5,_⟩,_⟩:=s
  kernel_rfl
theorem ok130_2 (F:Nat) (hK:KOK Tryz.prog (ct130 )) (v0:Value):LSOK Tryz.prog ⟨13,true,v0⟩ (ls130_2 F) (loopOf Tryz.f130 2) kr130 :=
  loop_ok (st130_2 F) mixed tt_ok hK (by kernel_rfl) (LTOK_by (l:=[]) (by kernel_rfl) trivial) (ev130_2 F)
theorem ev130 (F:Nat) (x:Args [.v (.slice 112 mat),.v i64]):fnM TT (ct130 ) kp130 112 mat [(2,ls130_2 F)] (bodyOf Tryz.f130) [.tmp 4] x = fn130 F x:=by
  obtain ⟨x0,x1,_⟩:=x
  kernel_rfl
theorem ok130 (hK:KOK Tryz.prog (ct130 )) (cf:G130) (h:∀ x y,cf x = some y->∃ F,fn130 F x = some y):KOne Tryz.prog 130 ⟨[.v (.slice 112 mat),.v i64],[(.slice 112 mat),i64],false,false,1,cf⟩ :=
  fnM_one rfl (c:=bodyOf Tryz.f130) mixed tt_ok hK Tryz.func130 (by kernel_rfl) (by kernel_rfl) (Nat.le_of_ble_eq_true (by kernel_rfl)) (by decide) fun x y hxy => by
    obtain ⟨F,hF⟩:=h x y hxy
    exact ⟨[(2,ls130_2 F)],fun v0 => LTOK_by (l:=[loopOf Tryz.f130 2]) (by kernel_rfl) ⟨ls_at (by kernel_rfl) (ok130_2 F hK v0),trivial⟩,(ev130 F x).trans hF⟩
abbrev R53:Type:=Ress [(.pair i64 (.pair i64 (.pair (.slice 112 mat) .unit))),i64]
abbrev G53:Type:=Args [.v (.pair i64 (.pair i64 (.pair (.slice 112 mat) .unit))),.v i64]->Option R53
abbrev kp53:List (Nat × List Nat):=[(0,[2,1,0]),(1,[1,0]),(2,[4,0])]
abbrev ct53 (g130:G130):CTab:=[(130,⟨[.v (.slice 112 mat),.v i64],[(.slice 112 mat),i64],false,false,1,g130⟩)]
def fn53 (g130:G130) (F:Nat) (x:Args [.v (.pair i64 (.pair i64 (.pair (.slice 112 mat) .unit))),.v i64]):Option R53 :=
  match x with
  | (x0,x1,_) => (match (g130 (x0.2.2.1,(x1,()))) with | some r5 => (some ((x0.1,(x0.2.1,((bif ((Nat.beq 112 112) && ((Nat.beq 3 3) && ((Nat.beq 3 3) && true))) then r5.1 else []),()))),(r5.2.1,()))) | none => none)
theorem ev53 (g130:G130) (F:Nat) (x:Args [.v (.pair i64 (.pair i64 (.pair (.slice 112 mat) .unit))),.v i64]):fnS TT (ct53 g130 ) kp53 (.pair i64 (.pair i64 (.pair (.slice 112 mat) .unit))) [] (bodyOf Tryz.f53) [.tmp 4] x = fn53 g130 F x:=by
  obtain ⟨x0,x1,_⟩:=x
  kernel_rfl
theorem ok53 (g130:G130) (hK:KOK Tryz.prog (ct53 g130 )) (cf:G53) (h:∀ x y,cf x = some y->∃ F,fn53 g130 F x = some y):KOne Tryz.prog 53 ⟨[.v (.pair i64 (.pair i64 (.pair (.slice 112 mat) .unit))),.v i64],[(.pair i64 (.pair i64 (.pair (.slice 112 mat) .unit))),i64],false,false,1,cf⟩ :=
  fnS_one (c:=bodyOf Tryz.f53) mixed tt_ok hK Tryz.func53 (by kernel_rfl) (by kernel_rfl) (Nat.le_of_ble_eq_true (by kernel_rfl)) (by decide) fun x y hxy => by
    obtain ⟨F,hF⟩:=h x y hxy
    exact ⟨[],fun v0 => LTOK_by (l:=[]) (by kernel_rfl) trivial,(ev53 g130 F x).trans hF⟩
abbrev R245:Type:=Ress [i64]
abbrev G245:Type:=Args [.v (.slice 112 mat),.v mat]->Option R245
abbrev kp245:List (Nat × List Nat):=[(0,[0,3]),(1,[8,0,3,7]),(2,[9,7,3,0,8]),(3,[7,3,0,8,5]),(4,[16,7,3,0,8,5]),(5,[4]),(6,[8,0,3,7]),(7,[4])]
abbrev ct245:CTab:=[]
abbrev kr245:Env->Option R245:=endK TT [.tmp 4] [i64] false false
abbrev sh245_2:Shape:=[(0,.val false [.fz (.slice 112 mat) 0 true]),(3,bb mat),(7,vv i64),(8,vv i64)]
def st245_2 (F:Nat) (s:ShVal sh245_2) (k kx:ShVal sh245_2->Option R245):Option R245 :=
  match s with
  | ((t0,_),(t3,_),(t7,_),(t8,_),_) => (bif decide (t8 < t7) then (bif ib t8 (Int.ofNat (List.length t0)) then (bif (Ty.eqd (.arr 3 (.arr 3 (.int .u8))) t3 (List.getD t0 (tn t8) (Ty.dflt (.arr 3 (.arr 3 (.int .u8)))))) then (some (t8,())) else k ((t0,()),((t3,()),((t7,()),(((w6 (t8 + (1:Int))),()),()))))) else none) else kx ((t0,()),((t3,()),((t7,()),((t8,()),())))))
def ru245_2 (F:Nat) (s:ShVal sh245_2) (kx:ShVal sh245_2->Option R245):Option R245:=iter (fun s k => st245_2 F s k kx) F s
abbrev ls245_2 (F:Nat):LS R245:=⟨sh245_2,0,ru245_2 F⟩
def fn245 (F:Nat) (x:Args [.v (.slice 112 mat),.v mat]):Option R245 :=
  match x with
  | (x0,x1,_) => (bif decide ((List.length x0) ≤ 9223372036854775807) then (ru245_2 F ((x0,()),((x1,()),(((Int.ofNat (List.length x0)),()),(((0:Int),()),())))) (fun s' => match s' with | ((t0,_),(t3,_),(t7,_),(t8,_),_) => (some ((-(1:Int)),())))) else none)
theorem ev245_2 (F:Nat) (s:ShVal sh245_2) (k kx:ShVal sh245_2->Option R245):evL TT (ct245 ) kp245 [] (loopOf Tryz.f245 2) (envOf sh245_2 s) (fitK sh245_2 k) (fun j e => bif Nat.beq j 0 then fitK sh245_2 kx e else none) kr245 = st245_2 F s k kx:=by
  obtain ⟨⟨t0,_⟩,⟨t3,_⟩,⟨t7,_⟩,⟨t8,_⟩,_⟩:=s
  kernel_rfl
theorem ok245_2 (F:Nat) (hK:KOK Tryz.prog (ct245 )):LSOK Tryz.prog ⟨19,false,undef⟩ (ls245_2 F) (loopOf Tryz.f245 2) kr245 :=
  loop_ok (st245_2 F) mixed tt_ok hK (by kernel_rfl) (LTOK_by (l:=[]) (by kernel_rfl) trivial) (ev245_2 F)
theorem ev245 (F:Nat) (x:Args [.v (.slice 112 mat),.v mat]):fnK TT (ct245 ) kp245 [i64] [(2,ls245_2 F)] (bodyOf Tryz.f245) [.tmp 4] [.v (.slice 112 mat),.v mat] false false x = fn245 F x:=by
  obtain ⟨x0,x1,_⟩:=x
  kernel_rfl
theorem ok245 (hK:KOK Tryz.prog (ct245 )) (cf:G245) (h:∀ x y,cf x = some y->∃ F,fn245 F x = some y):KOne Tryz.prog 245 ⟨[.v (.slice 112 mat),.v mat],[i64],false,false,0,cf⟩ :=
  fn_one rfl (c:=bodyOf Tryz.f245) mixed tt_ok hK Tryz.func245 (by kernel_rfl) (by kernel_rfl) (Nat.le_of_ble_eq_true (by kernel_rfl)) (by decide) fun x y hxy => by
    obtain ⟨F,hF⟩:=h x y hxy
    exact ⟨[(2,ls245_2 F)],LTOK_by (l:=[loopOf Tryz.f245 2]) (by kernel_rfl) ⟨ls_at (by kernel_rfl) (ok245_2 F hK),trivial⟩,(ev245 F x).trans hF⟩
abbrev R232:Type:=Ress [.bool]
abbrev G232:Type:=Args [.v (.slice 112 mat),.v mat]->Option R232
abbrev kp232:List (Nat × List Nat):=[(0,[0,3]),(1,[4])]
abbrev ct232 (g245:G245):CTab:=[(245,⟨[.v (.slice 112 mat),.v mat],[i64],false,false,0,g245⟩)]
def fn232 (g245:G245) (F:Nat) (x:Args [.v (.slice 112 mat),.v mat]):Option R232 :=
  match x with
  | (x0,x1,_) => (match (g245 (x0,(x1,()))) with | some r5 => (some (decide ((0:Int) ≤ r5.1),())) | none => none)
theorem ev232 (g245:G245) (F:Nat) (x:Args [.v (.slice 112 mat),.v mat]):fnK TT (ct232 g245 ) kp232 [.bool] [] (bodyOf Tryz.f232) [.tmp 4] [.v (.slice 112 mat),.v mat] false false x = fn232 g245 F x:=by
  obtain ⟨x0,x1,_⟩:=x
  kernel_rfl
theorem ok232 (g245:G245) (hK:KOK Tryz.prog (ct232 g245 )) (cf:G232) (h:∀ x y,cf x = some y->∃ F,fn232 g245 F x = some y):KOne Tryz.prog 232 ⟨[.v (.slice 112 mat),.v mat],[.bool],false,false,0,cf⟩ :=
  fn_one rfl (c:=bodyOf Tryz.f232) mixed tt_ok hK Tryz.func232 (by kernel_rfl) (by kernel_rfl) (Nat.le_of_ble_eq_true (by kernel_rfl)) (by decide) fun x y hxy => by
    obtain ⟨F,hF⟩:=h x y hxy
    exact ⟨[],LTOK_by (l:=[]) (by kernel_rfl) trivial,(ev232 g245 F x).trans hF⟩
open Go Go.RowKit Go.Proofs
abbrev grpT:Ty:=.pair i64 (.pair i64 (.pair (.slice 112 mat) .unit))
abbrev Gr:Type:=grpT.den
def els (x:Gr):List Mat:=x.2.2.1
def cf71:G117:=fun x => if (show List Mat from x.1).length ≤ 9223372036854775807 ∧ 0 ≤ x.2.1 ∧ x.2.1 ≤ (1048576:Int) then some (if x.2.1 - ((show List Mat from x.1).length:Int) < 0 then -1 else x.2.1 - ((show List Mat from x.1).length:Int),()) else none
theorem k71:KOne Tryz.prog 117 ⟨[.v (.slice 111 mat),.v i64],[i64],false,false,0,cf71⟩:=ok117 .nil cf71 fun x y h => by
  obtain ⟨l,k,_⟩:=x
  change List Mat at l
  change Int at k
  simp only [cf71] at h
  split at h
  · rename_i hc
    injection h with h; subst h
    obtain ⟨h1,h2,h3⟩:=hc
    have h2:(0:Int) ≤ k:=h2
    have h3:k ≤ (1048576:Int):=h3
    refine ⟨0,?_⟩
    simp only [fn117]
    rw [dln_t h1,cond_true]
    have hw:=w6_id (x:=k - (l.length:Int)) (by omega) (by omega)
    simp only [ofn,hw]
    by_cases q:k - (l.length:Int) < 0
    · rw [dlt_t q,if_pos q]; rfl
    · rw [dlt_f (by omega),if_neg q]; rfl
  · cases h
def cf30:G48:=fun x => cf71 (x.1.2.2.1,x.2.1,())
theorem k30:KOne Tryz.prog 48 ⟨[.v (.pair i64 (.pair i64 (.pair (.slice 111 mat) .unit))),.v i64],[i64],false,false,0,cf30⟩:=ok48 _ (.cons k71 .nil) cf30 fun x y h => by
  obtain ⟨⟨p,v,l,u⟩,k,_⟩:=x
  change List Mat at l
  change Int at k
  have h':cf71 (l,k,()) = some y:=h
  refine ⟨0,?_⟩
  show (match cf71 (l,k,()) with | some r5 => (bif decide (r5.1 < (0:Int)) then (some ((-(1:Int)),())) else (some (r5.1,()))) | none => none) = _
  rw [h']
  simp only [cf71] at h'
  split at h'
  · injection h' with h'; subst h'
    by_cases q:k - (l.length:Int) < 0
    · rw [if_pos q]; rfl
    · rw [if_neg q]
      show (bif decide (k - (l.length:Int) < 0) then _ else _) = _
      rw [dlt_f (by omega)]; rfl
  · cases h'
def sz30 (g:Gr):Int:=if (1048576:Int) - ((els g).length:Int) < 0 then -1 else (1048576:Int) - ((els g).length:Int)
theorem g30_ok {g:Gr} (h:(els g).length ≤ 9223372036854775807):cf30 (g,(1048576:Int),()) = some (sz30 g,()):=if_pos ⟨h,by show (0:Int) ≤ 1048576; omega,by show (1048576:Int) ≤ 1048576; omega⟩
theorem sz30_small {g:Gr} (h : 0 ≤ sz30 g):(els g).length ≤ 1048576:=by
  unfold sz30 at h
  split at h <;> omega
def cf76:G123:=fun x => if (show List Mat from x.1).length ≤ 2000000 then some (x.1,()) else none
theorem k76:KOne Tryz.prog 123 ⟨[.v (.slice 111 mat)],[.slice 112 mat],true,false,0,cf76⟩:=ok123 _ (.cons k16 .nil) cf76 fun x y h => by
  obtain ⟨l,_⟩:=x
  change List Mat at l
  simp only [cf76] at h
  split at h
  · rename_i hc
    injection h with h; subst h
    refine ⟨l.length + 1,?_⟩
    simp only [fn123]
    rw [dln_t (by omega)]
    simp only [cond_true,ofn]
    rw [dle_t (by omega),dle_t (by omega)]
    simp only [decide_true,Bool.and_self,cond_true,tn_cast,ru123_3]
    refine iter_run (step:=fun s k => st123_3 cf16 (l.length + 1) s k (fun s' => match s' with | ((t0,_),(t3,_),(t4,_),_) => (some (t3,())))) (r:=some (l,())) l.length (l.length + 1) (fun i => ((l,()),((l.take i ++ List.replicate (l.length - i) (Ty.dflt mat),()),((i:Int),()),()))) (by omega) (fun i hi k => ?_) (fun k => ?_)
    · have h1:(l.take i ++ List.replicate (l.length - i) (Ty.dflt mat)).length = l.length:=by simp; omega
      have h2:=fun d' => copy_setG (d:=Ty.dflt mat) (d':=d') hi
      generalize hL:l.take i ++ List.replicate (l.length - i) (Ty.dflt mat) = L at *
      simp (disch:=omega) only [st123_3,dln_t,cond_true,ofn,dlt_t,ib_t,tn_cast,w6_id,cf16,h2]
      rfl
    · have h1:l.take l.length ++ List.replicate (l.length - l.length) (Ty.dflt mat) = l:=by simp
      rw [h1]
      simp (disch:=omega) only [st123_3,dln_t,cond_true,ofn,dlt_f,cond_false]
  · cases h
def cf32:G50:=fun x => if (show List Mat from x.1.2.2.1).length ≤ 2000000 then some (x.1,()) else none
theorem k32:KOne Tryz.prog 50 ⟨[.v (.pair i64 (.pair i64 (.pair (.slice 111 mat) .unit)))],[.pair i64 (.pair i64 (.pair (.slice 112 mat) .unit))],true,false,0,cf32⟩:=ok50 _ (.cons k76 .nil) cf32 fun x y h => by
  obtain ⟨⟨p,v,l,u⟩,_⟩:=x
  simp only [cf32] at h
  split at h
  · rename_i hc
    injection h with h; subst h
    refine ⟨0,?_⟩
    have g:cf76 (l,()) = some (l,()):=if_pos hc
    simp only [fn50,g]
  · cases h
theorem g32_ok {g:Gr} (h:(els g).length ≤ 2000000):cf32 (g,()) = some (g,()):=if_pos h
def cf170:G235:=fun x => if x.1 = x.2.1 then some (true,()) else none
theorem k170:KOne Tryz.prog 235 ⟨[.v ex,.v ex],[.bool],false,false,0,cf170⟩:=ok235 .nil cf170 fun x y h => by
  obtain ⟨a,b,_⟩:=x
  simp only [cf170] at h
  split at h
  · rename_i hc
    injection h with h; subst h
    replace hc:a = b:=hc
    subst hc
    obtain ⟨a0,a1,a2,_⟩:=a
    refine ⟨4,?_⟩
    have e:∀ x:Int,(!decide (x = x)) = false:=fun x => by simp
    show (bif !decide (a0 = a0) then _ else bif !decide (a1 = a1) then _ else bif !decide (a2 = a2) then _ else _) = _
    rw [e,e,e]; rfl
  · cases h
instance decM:DecidableEq mat.den:=inferInstanceAs (DecidableEq (ex.den × ex.den × ex.den × Unit))
def cf142:G202:=fun x => if (show Mat from x.1) = x.2.1 then some (true,()) else none
theorem k142:KOne Tryz.prog 202 ⟨[.v mat,.v mat],[.bool],false,false,0,cf142⟩:=ok202 _ (.cons k170 .nil) cf142 fun x y h => by
  obtain ⟨a,b,_⟩:=x
  simp only [cf142] at h
  split at h
  · rename_i hc
    injection h with h; subst h
    replace hc:a = b:=hc
    subst hc
    obtain ⟨a0,a1,a2,_⟩:=a
    refine ⟨4,?_⟩
    have e:∀ x:ex.den,cf170 (x,x,()) = some (true,()):=fun x => if_pos rfl
    show (match cf170 (a0,a0,()) with | some r10 => (bif !r10.1 then some (false,()) else (match cf170 (a1,a1,()) with | some r10 => (bif !r10.1 then some (false,()) else (match cf170 (a2,a2,()) with | some r10 => (bif !r10.1 then some (false,()) else some (true,())) | none => none)) | none => none)) | none => none) = _
    rw [e,e,e]; rfl
  · cases h
theorem run80 {L:List Mat} (hs:L.length ≤ 2000000) {F0:Nat}:∀ (r pre:List Mat) (F:Nat),r.length < F->pre ++ r = L →
    iter (fun s k => st129_4 cf142 F0 s k (fun s' => match s' with | ((t0,_),(t1,_),(t5,_),_) => (some (true,())))) F ((L,()),((L,()),(((pre.length:Int),()),()))) = some (true,())
  | [],pre,F,hF,e => by
    obtain ⟨F,rfl⟩:∃ f,F = f + 1:=⟨F - 1,by simp at hF; omega⟩
    rw [List.append_nil] at e; subst e
    simp only [iter,st129_4]
    simp (disch:=omega) only [dln_t,cond_true,ofn,dlt_f,cond_false]
  | x :: r,pre,F,hF,e => by
    obtain ⟨F,rfl⟩:∃ f,F = f + 1:=⟨F - 1,by simp at hF; omega⟩
    have l1:pre.length < L.length:=by rw [← e]; simp
    have g1:∀ dd,L.getD pre.length dd = x:=fun dd => by rw [← e,List.getD_eq_getElem?_getD,List.getElem?_append_right (Nat.le_refl _)]; simp
    have g:cf142 (x,x,()) = some (true,()):=if_pos rfl
    simp only [iter,st129_4]
    simp (disch:=omega) only [dln_t,cond_true,ofn,dlt_t,ib_t,tn_cast,w6_id,g1]
    show (match cf142 (x,x,()) with | some r11 => _ | none => none) = _
    rw [g]
    have ih:=run80 hs (F0:=F0) r (pre ++ [x]) F (by simp at hF; omega) (by simpa using e)
    simp only [List.length_append,List.length_singleton] at ih
    exact ih
def cf80:G129:=fun x => if (show List Mat from x.1) = x.2.1 ∧ (show List Mat from x.1).length ≤ 2000000 then some (true,()) else none
theorem k80:KOne Tryz.prog 129 ⟨[.v (.slice 112 mat),.v (.slice 112 mat)],[.bool],false,false,0,cf80⟩:=ok129 _ (.cons k142 .nil) cf80 fun x y h => by
  obtain ⟨L,M,_⟩:=x
  change List Mat at L
  change List Mat at M
  simp only [cf80] at h
  split at h
  · rename_i hc
    injection h with h; subst h
    obtain ⟨c0,hL⟩:=hc
    have c0:L = M:=c0
    subst c0
    have hL:L.length ≤ 2000000:=hL
    refine ⟨L.length + 1,?_⟩
    simp (disch:=omega) only [fn129,dln_t,cond_true,ofn,ru129_4]
    simp only [decide_true,Bool.not_true,cond_false]
    exact run80 hL L [] (L.length + 1) (by omega) rfl
  · cases h
def cf34:G52:=fun x => if (show Gr from x.1) = x.2.1 ∧ (els x.1).length ≤ 2000000 then some (true,()) else none
where decG:DecidableEq Gr:=inferInstanceAs (DecidableEq (Int × Int × List Mat × Unit))
theorem k34:KOne Tryz.prog 52 ⟨[.v grpT,.v grpT],[.bool],false,false,0,cf34⟩:=ok52 _ (.cons k80 .nil) cf34 fun x y h => by
  obtain ⟨⟨p,n,l,u⟩,b,_⟩:=x
  change List Mat at l
  simp only [cf34] at h
  split at h
  · rename_i hc
    injection h with h; subst h
    obtain ⟨c0,hL⟩:=hc
    have c0:(p,n,l,u) = b:=c0
    subst c0
    have g:cf80 (l,l,()) = some (true,()):=if_pos ⟨rfl,hL⟩
    refine ⟨0,?_⟩
    simp only [fn52,decide_true,Bool.not_true,cond_false,g]
  · cases h
theorem g34_ok {g:Gr} (h:(els g).length ≤ 2000000):cf34 (g,g,()) = some (true,()):=if_pos ⟨rfl,h⟩
def cf81:G130:=fun x => if (show List Mat from x.1).length ≤ 2000000 then some (x.1,x.2.1,()) else none
theorem k81:KOne Tryz.prog 130 ⟨[.v (.slice 112 mat),.v i64],[.slice 112 mat,i64],false,false,1,cf81⟩:=ok130 .nil cf81 fun x y h => by
  obtain ⟨l,k,_⟩:=x
  change List Mat at l
  simp only [cf81] at h
  split at h
  · rename_i hc
    injection h with h; subst h
    refine ⟨l.length + 1,?_⟩
    simp only [fn130,ru130_2]
    refine iter_run (step:=fun s k => st130_2 (l.length + 1) s k (fun s' => match s' with | ((t0,_),(t1,_),(t5,_),_) => (some (t0,(t1,()))))) (r:=some (l,k,())) l.length (l.length + 1) (fun i => ((l,()),((k,()),(((i:Int),()),())))) (by omega) (fun i hi kk => ?_) (fun kk => ?_)
    · simp (disch:=omega) only [st130_2,dln_t,cond_true,ofn,dlt_t,w6_id]
      rfl
    · simp (disch:=omega) only [st130_2,dln_t,cond_true,ofn,dlt_f,cond_false]
  · cases h
def cf35:G53:=fun x => if (els x.1).length ≤ 2000000 then some (x.1,x.2.1,()) else none
theorem k35:KOne Tryz.prog 53 ⟨[.v grpT,.v i64],[grpT,i64],false,false,1,cf35⟩:=ok53 _ (.cons k81 .nil) cf35 fun x y h => by
  obtain ⟨⟨p,n,l,u⟩,k,_⟩:=x
  change List Mat at l
  simp only [cf35] at h
  split at h
  · rename_i hc
    injection h with h; subst h
    have g:cf81 (l,k,()) = some (l,k,()):=if_pos hc
    refine ⟨0,?_⟩
    simp only [fn53,g]
    rfl
  · cases h
theorem g35_ok {g:Gr} {k:Int} (h:(els g).length ≤ 2000000):cf35 (g,k,()) = some (g,k,()):=if_pos h
theorem eqdM {a b:Mat}:Ty.eqd mat a b = true ↔ a = b:=by
  obtain ⟨a0,a1,a2,_⟩:=a
  obtain ⟨b0,b1,b2,_⟩:=b
  have e:Ty.eqd mat (a0,a1,a2,()) (b0,b1,b2,()) = (Ty.eqd ex a0 b0 && (Ty.eqd ex a1 b1 && (Ty.eqd ex a2 b2 && true))):=rfl
  show Ty.eqd mat (a0,a1,a2,()) (b0,b1,b2,()) = true ↔ _
  rw [e]
  simp only [Bool.and_eq_true,Bool.and_true,eqd_key keyT_ex]
  constructor
  · rintro ⟨rfl,rfl,rfl⟩; rfl
  · intro h
    injection h with h1 h; injection h with h2 h; injection h with h3 h
    exact ⟨h1,h2,h3⟩
def fstM (m:Mat):List Mat->Nat
  | [] => 0
  | x :: r => if m = x then 0 else fstM m r + 1
theorem run195 {m:Mat} {F0 N:Nat}:∀ (r pre:List Mat) (F:Nat),r.length < F->(pre ++ r).length = N->N ≤ 2000000 →
    iter (fun s k => st245_2 F0 s k (fun s' => match s' with | ((t0,_),(t3,_),(t7,_),(t8,_),_) => (some ((-(1:Int)),())))) F ((pre ++ r,()),((m,()),(((N:Int),()),(((pre.length:Int),()),())))) = some (if m ∈ r then ((pre.length:Int) + (fstM m r:Int)) else -1,())
  | [],pre,F,hF,hl,hN => by
    obtain ⟨F,rfl⟩:∃ f,F = f + 1:=⟨F - 1,by simp at hF; omega⟩
    rw [List.append_nil] at hl ⊢
    simp only [iter,st245_2]
    simp (disch:=omega) only [ofn,dlt_f,cond_false]
    simp
  | x :: r,pre,F,hF,hl,hN => by
    obtain ⟨F,rfl⟩:∃ f,F = f + 1:=⟨F - 1,by simp at hF; omega⟩
    have l1:pre.length < N:=by rw [← hl]; simp
    have g1:∀ dd,(pre ++ x :: r).getD pre.length dd = x:=fun dd => by rw [List.getD_eq_getElem?_getD,List.getElem?_append_right (Nat.le_refl _)]; simp
    have ih:=run195 (m:=m) (F0:=F0) (N:=N) r (pre ++ [x]) F (by simp at hF; omega) (by simpa using hl) hN
    simp only [List.append_assoc,List.singleton_append,List.length_append,List.length_singleton] at ih
    simp only [iter,st245_2]
    simp (disch:=omega) only [ofn,cond_true,dlt_t,ib_t,tn_cast,hl,g1,w6_id]
    by_cases q:m = x
    · have e:Ty.eqd mat m x = true:=eqdM.2 q
      show (bif Ty.eqd mat m x then _ else _) = _
      rw [e,cond_true,if_pos (by rw [q]; exact .head _)]
      simp [fstM,q]
    · have e:Ty.eqd mat m x = false:=by
        cases h:Ty.eqd mat m x with
        | false => rfl
        | true => exact absurd (eqdM.1 h) q
      show (bif Ty.eqd mat m x then _ else _) = _
      rw [e,cond_false]
      refine ih.trans ?_
      have hm:(m ∈ x :: r) ↔ m ∈ r:=by simp [q]
      by_cases z:m ∈ r
      · rw [if_pos z,if_pos (hm.2 z)]
        simp only [fstM,if_neg q]
        congr 2; omega
      · rw [if_neg z,if_neg (fun h => z (hm.1 h))]
def cf195:G245:=fun x => if (show List Mat from x.1).length ≤ 2000000 then some (if (show Mat from x.2.1) ∈ (show List Mat from x.1) then (fstM x.2.1 x.1:Int) else -1,()) else none
theorem k195:KOne Tryz.prog 245 ⟨[.v (.slice 112 mat),.v mat],[i64],false,false,0,cf195⟩:=ok245 .nil cf195 fun x y h => by
  obtain ⟨L,m,_⟩:=x
  change List Mat at L
  change Mat at m
  simp only [cf195] at h
  split at h
  · rename_i hc
    injection h with h; subst h
    have hc:L.length ≤ 2000000:=hc
    refine ⟨L.length + 1,?_⟩
    simp only [fn245]
    rw [dln_t (by omega)]
    simp only [cond_true,ofn,ru245_2]
    refine (run195 (m:=m) (N:=L.length) L [] (L.length + 1) (by omega) rfl hc).trans ?_
    congr 2
    by_cases z:m ∈ L
    · rw [if_pos z,if_pos z]; simp
    · rw [if_neg z,if_neg z]
  · cases h
def cf180:G232:=fun x => if (show List Mat from x.1).length ≤ 2000000 then some (decide ((show Mat from x.2.1) ∈ (show List Mat from x.1)),()) else none
theorem k180:KOne Tryz.prog 232 ⟨[.v (.slice 112 mat),.v mat],[.bool],false,false,0,cf180⟩:=ok232 _ (.cons k195 .nil) cf180 fun x y h => by
  obtain ⟨L,m,_⟩:=x
  change List Mat at L
  change Mat at m
  simp only [cf180] at h
  split at h
  · rename_i hc
    injection h with h; subst h
    have g:cf195 (L,m,()) = some (if m ∈ L then (fstM m L:Int) else -1,()):=if_pos hc
    refine ⟨0,?_⟩
    simp only [fn232]
    rw [g]
    by_cases z:m ∈ L
    · rw [if_pos z,decide_eq_true z]
      show some (decide (0 ≤ (fstM m L:Int)),()) = _
      rw [dle_t (by omega)]
    · rw [if_neg z,decide_eq_false z]; rfl
  · cases h
abbrev R194:Type:=Ress [i64]
abbrev G194:Type:=Args [.v mat,.v mat]->Option R194
def mcell (g:mat.den) (i j:Nat):Int:=tget (0:Int) 3 (tget (Ty.dflt (.arr 3 (.int .u8))) 3 g i) j
def rkM (g:mat.den) (i:Nat):Int:=65536 * mcell g i 0 + 256 * mcell g i 1 + mcell g i 2
def keyM (g:mat.den):Int:=281474976710656 * rkM g 0 + 16777216 * rkM g 1 + rkM g 2
def sgn (a b:Int):Int:=if a < b then -1 else if b < a then 1 else 0
def cmpM (a b:mat.den):Int:=sgn (keyM a) (keyM b)
theorem rd_mat {h:Mem} {A:mat.den} {cs:List Value} {bs:List Nat} (hr:Rd h mat A cs bs) {i j:Nat} (hi:i < 3) (hj:j < 3):cs[i * 3 + j]? = some (.int .u8 (mcell A i j)) ∧ (Lit.int .u8 (mcell A i j)).wf = true:=by
  obtain ⟨hl,hr⟩:=hr
  obtain ⟨b1,⟨_,r1⟩,_⟩:=RdL.get hr (tlist_get (Ty.dflt (.arr 3 (.int .u8))) 3 A i hi)
  obtain ⟨b2,r2,_⟩:=RdL.get r1 (tlist_get (0:Int) 3 (tget (Ty.dflt (.arr 3 (.int .u8))) 3 A i) j hj)
  obtain ⟨e,w,_⟩:=r2
  refine ⟨?_,w⟩
  have:=congrArg (fun l => l[0]?) e
  simp only [List.getElem?_take_of_lt (show 0 < (Ty.int IntKind.u8).size from Nat.zero_lt_one),List.getElem?_drop] at this
  rw [List.getElem?_take_of_lt (show j * (Ty.int IntKind.u8).size + 0 < (Ty.arr 3 (Ty.int IntKind.u8)).size by show j * 1 + 0 < 3; omega),List.getElem?_drop] at this
  have e2:i * (Ty.arr 3 (Ty.int IntKind.u8)).size + (j * (Ty.int IntKind.u8).size + 0) = i * 3 + j:=by show i * 3 + (j * 1 + 0) = _; omega
  rw [e2] at this
  exact this
theorem wf_u8 {x:Int} (h:(Lit.int .u8 x).wf = true) : 0 ≤ x ∧ x ≤ 255:=by
  simp [Lit.wf,IntKind.min,IntKind.max,IntKind.bits,IntKind.signed] at h; omega
theorem by8_lt {x y:Int} (hx : 0 ≤ x ∧ x ≤ 255) (hy : 0 ≤ y ∧ y ≤ 255):x.toNat.toUInt8 < y.toNat.toUInt8 ↔ x < y:=by
  rw [UInt8.lt_iff_toNat_lt]
  simp only [Nat.toUInt8,UInt8.toNat_ofNat']
  rw [Nat.mod_eq_of_lt (by omega),Nat.mod_eq_of_lt (by omega)]
  omega
theorem sgn3 {x0 x1 x2 y0 y1 y2:Int} (a0 : 0 ≤ x0 ∧ x0 ≤ 255) (a1 : 0 ≤ x1 ∧ x1 ≤ 255) (a2 : 0 ≤ x2 ∧ x2 ≤ 255) (b0 : 0 ≤ y0 ∧ y0 ≤ 255) (b1 : 0 ≤ y1 ∧ y1 ≤ 255) (b2 : 0 ≤ y2 ∧ y2 ≤ 255) :
    Lib.compareBytes [x0.toNat.toUInt8,x1.toNat.toUInt8,x2.toNat.toUInt8] [y0.toNat.toUInt8,y1.toNat.toUInt8,y2.toNat.toUInt8] = sgn (65536 * x0 + 256 * x1 + x2) (65536 * y0 + 256 * y1 + y2):=by
  simp only [Lib.compareBytes,by8_lt a0 b0,by8_lt b0 a0,by8_lt a1 b1,by8_lt b1 a1,by8_lt a2 b2,by8_lt b2 a2,sgn]
  split
  · rw [if_pos (by omega)]
  · split
    · rw [if_neg (by omega),if_pos (by omega)]
    · split
      · rw [if_pos (by omega)]
      · split
        · rw [if_neg (by omega),if_pos (by omega)]
        · split
          · rw [if_pos (by omega)]
          · split
            · rw [if_neg (by omega),if_pos (by omega)]
            · rw [if_neg (by omega),if_neg (by omega)]
def At3 (w:World) (b o:Nat) (x:Nat->Int):Prop:=∃ c e fr,w.heap[b]? = some (.cells c e fr) ∧ ∀ j,j < 3->c[o + j]? = some (.int .u8 (x j)) ∧ (0 ≤ x j ∧ x j ≤ 255)
theorem run_bytes3 {P:Program} {w:World} {b o cap:Nat} {x:Nat->Int} (h:At3 w b o x):(Extern.Bytes.bytesOf (.slice (some ⟨b,o,none⟩) 3 cap)).run P w = .ok ⟨#[(x 0).toNat.toUInt8,(x 1).toNat.toUInt8,(x 2).toNat.toUInt8]⟩ w:=by
  obtain ⟨c,e,fr,h1,h2⟩:=h
  have ld:∀ j,j < 3->(load ⟨b,o + j,none⟩).run P w = .ok (.int .u8 (x j)) w:=fun j hj => by
    have:=(h2 j hj).1
    have hc:w.cell? ⟨b,o + j,none⟩ = some (.int .u8 (x j)):=by simp [World.cell?,h1,this]
    rw [run_load,hc]
  have l0:=ld 0 (by omega)
  have l1:=ld 1 (by omega)
  have l2:=ld 2 (by omega)
  have a1:Addr.add ⟨b,o,none⟩ 1 = ⟨b,o + 1,none⟩:=addr_add _ _ _
  have a2:Addr.add ⟨b,o + 1,none⟩ 1 = ⟨b,o + 2,none⟩:=addr_add _ _ _
  rw [Nat.add_zero] at l0
  simp only [Extern.Bytes.bytesOf,Extern.Bytes.loadBytes,Sem.run_bind,a1,a2,l0,l1,l2,Result.andThen_ok,Sem.run_pure]
  rfl
theorem run_cmp3 {P:Program} {w:World} {b o b' o':Nat} {x y:Nat->Int} (h:At3 w b o x) (h':At3 w b' o' y) :
    (Extern.BytealgCompare.compare #[.slice (some ⟨b,o,none⟩) 3 3,.slice (some ⟨b',o',none⟩) 3 3]).run P w = .ok (.int .i64 (sgn (65536 * x 0 + 256 * x 1 + x 2) (65536 * y 0 + 256 * y 1 + y 2))) w:=by
  have e1:=run_bytes3 (P:=P) (cap:=3) h
  have e2:=run_bytes3 (P:=P) (cap:=3) h'
  obtain ⟨_,_,_,_,r⟩:=h
  obtain ⟨_,_,_,_,r'⟩:=h'
  change Sem.run P (do pure (goInt (Extern.BytealgCompare.cmp (← Extern.Bytes.bytesOf (.slice (some ⟨b,o,none⟩) 3 3)) (← Extern.Bytes.bytesOf (.slice (some ⟨b',o',none⟩) 3 3))))) w = _
  simp only [Sem.run_bind,e1,e2,Result.andThen_ok,Sem.run_pure,Lib.cmp_eq,goInt]
  rw [sgn3 (r 0 (by omega)).2 (r 1 (by omega)).2 (r 2 (by omega)).2 (r' 0 (by omega)).2 (r' 1 (by omega)).2 (r' 2 (by omega)).2]
noncomputable def o179 (i:Nat):Array Oper:=match opsIn i (bodyOf Tryz.f231) with | some x => x | none => #[]
theorem sk179:Tryz.f231.body = some (.seq (.region 0 (o179 0) false) (.seq (.region 1 (o179 1) false) .ret)):=by kernel_rfl
theorem run_ext2 {P:Program} {a:Act} {w:World} {o:Oper} {c:Call} {kf:Nat} {x y z:Operand} {fn:Func} {e:Array Value->Sem Value} (hop:o.op = .call c) (hcal:c.callee = .value z) (hz:a.eval z = .func (.func kf) #[] #[]) (hargs:c.args.toList = [x,y])
    (f1:P.funcs[kf]? = some fn) (f2:(fn.name == "runtime.NumGoroutine") = false) (f3:fn.body.isNone = true) (f4:Extern.findNext fn = none) (f5:Extern.find fn = some e) {v:Value} (hv:(e #[a.eval x,a.eval y]).run P w = .ok v w):(execOp a.eval o).run P w = .ok (.value v) w:=by
  have hargs:c.args.map a.eval = #[a.eval x,a.eval y]:=by apply Array.ext'; simp [hargs]
  simp only [execOp,hop,resolve,hcal,hz,Deferred.ofValue,invoke,Sem.run_bind,Sem.run_pure,Result.andThen_ok,hargs]
  rw [show (#[] ++ #[a.eval x,a.eval y] ++ #[]:Array Value) = #[a.eval x,a.eval y] by simp,run_callFunc_extern f1 f2 f3 f4 f5,hv]
  rfl
theorem q179_0:∃ o,(o179 0)[0]? = some o ∧ o.op = .assign (.const (.int .i64 0)) ∧ o.dst = some 4 ∧ o.guard = none:=⟨((o179 0)[0]?).get (by kernel_rfl),(Option.some_get _).symm,by kernel_rfl,by kernel_rfl,by kernel_rfl⟩
theorem q179_1:∃ o,(o179 1)[0]? = some o ∧ o.op = .move (.tmp 0) ∧ o.dst = some 5 ∧ o.guard = none:=⟨((o179 1)[0]?).get (by kernel_rfl),(Option.some_get _).symm,by kernel_rfl,by kernel_rfl,by kernel_rfl⟩
theorem q179_2:∃ o,(o179 1)[1]? = some o ∧ o.op = .move (.tmp 1) ∧ o.dst = some 6 ∧ o.guard = none:=⟨((o179 1)[1]?).get (by kernel_rfl),(Option.some_get _).symm,by kernel_rfl,by kernel_rfl,by kernel_rfl⟩
noncomputable def o179_3:Oper:=((o179 1)[2]?).get (by kernel_rfl)
noncomputable def c179_3:Call:=(callOf o179_3).get (by kernel_rfl)
noncomputable def z179_3:Operand:=(valOf c179_3.callee).get (by kernel_rfl)
theorem q179_3:∃ o c z,(o179 1)[2]? = some o ∧ o.op = .call c ∧ c.callee = .value z ∧ isF 244 z = true ∧ c.args.toList = [.tmp 5,.tmp 6] ∧ o.dst = some 7 ∧ o.guard = none :=
  ⟨o179_3,c179_3,z179_3,(Option.some_get _).symm,by kernel_rfl,by kernel_rfl,by kernel_rfl,by kernel_rfl,by kernel_rfl,by kernel_rfl⟩
theorem q179_4:∃ o,(o179 1)[3]? = some o ∧ o.op = .assign (.tmp 7) ∧ o.dst = some 4 ∧ o.guard = none:=⟨((o179 1)[3]?).get (by kernel_rfl),(Option.some_get _).symm,by kernel_rfl,by kernel_rfl,by kernel_rfl⟩
theorem rg179:List.range (o179 0).size = [0] ∧ List.range (o179 1).size = [0,1,2,3]:=⟨by kernel_rfl,by kernel_rfl⟩
theorem rs179:Tryz.f231.results.toList = [.tmp 4]:=by kernel_rfl
theorem nt179:Tryz.f231.ntmps = 8:=by kernel_rfl
theorem calls179 {w:World} {b o b' o':Nat} {x y:Nat->Int} (h:At3 w b o x) (h':At3 w b' o' y) :
    Calls Tryz.prog 231 #[.slice (some ⟨b,o,none⟩) 3 3,.slice (some ⟨b',o',none⟩) 3 3] w fun e w' => e = .returned (.int .i64 (sgn (65536 * x 0 + 256 * x 1 + x 2) (65536 * y 0 + 256 * y 1 + y 2))) ∧ w' = w:=by
  refine calls_of_wp Tryz.func231 sk179 ?_
  generalize ha:({ tmps:=_,defers:=[] }:Act) = a
  have A0:AtV 8 (fun s => a.tmps.getD s Go.undef) a:=by
    subst ha
    exact ⟨by rw [nt179]; rfl,rfl,fun _ => rfl⟩
  have e0:a.tmps.getD 0 Go.undef = .slice (some ⟨b,o,none⟩) 3 3:=by subst ha; rw [nt179]; rfl
  have e1:a.tmps.getD 1 Go.undef = .slice (some ⟨b',o',none⟩) 3 3:=by subst ha; rw [nt179]; rfl
  clear ha
  obtain ⟨o0,o0a,o0b,o0c,o0d⟩:=q179_0
  obtain ⟨o1,o1a,o1b,o1c,o1d⟩:=q179_1
  obtain ⟨o2,o2a,o2b,o2c,o2d⟩:=q179_2
  obtain ⟨o3,c3,z3,o3a,o3b,o3e,o3f,o3g,o3c,o3d⟩:=q179_3
  obtain ⟨o4,o4a,o4b,o4c,o4d⟩:=q179_4
  refine wp_seq (wp_region ?_)
  rw [rg179.1]
  refine wpOps_cons o0a o0d (upon_val (v:=.int .i64 0) (w':=w) (by simp only [execOp,o0b,Sem.run_pure]; rfl) ?_)
  rw [o0c]
  have A1:=A0.put (d:=4) (by omega) (.int .i64 0)
  generalize a.put (some 4) (.int .i64 0) = a1 at A1 ⊢
  show Code.wp _ _ _ _ _
  refine wp_seq (wp_region ?_)
  rw [rg179.2]
  refine wpOps_cons o1a o1d (upon_val (v:=.slice (some ⟨b,o,none⟩) 3 3) (w':=w) (by simp only [execOp,o1b,show a1.eval (.tmp 0) = _ from A1.ev.trans e0,Sem.run_pure]) ?_)
  rw [o1c]
  have A2:=A1.put (d:=5) (by omega) (.slice (some ⟨b,o,none⟩) 3 3)
  generalize a1.put (some 5) (.slice (some ⟨b,o,none⟩) 3 3) = a2 at A2 ⊢
  refine wpOps_cons o2a o2d (upon_val (v:=.slice (some ⟨b',o',none⟩) 3 3) (w':=w) (by simp only [execOp,o2b,show a2.eval (.tmp 1) = _ from A2.ev.trans e1,Sem.run_pure]) ?_)
  rw [o2c]
  have A3:=A2.put (d:=6) (by omega) (.slice (some ⟨b',o',none⟩) 3 3)
  generalize a2.put (some 6) (.slice (some ⟨b',o',none⟩) 3 3) = a3 at A3 ⊢
  have x5:a3.eval (.tmp 5) = .slice (some ⟨b,o,none⟩) 3 3:=A3.ev
  have x6:a3.eval (.tmp 6) = .slice (some ⟨b',o',none⟩) 3 3:=A3.ev
  refine wpOps_cons o3a o3d (upon_val (v:=.int .i64 (sgn (65536 * x 0 + 256 * x 1 + x 2) (65536 * y 0 + 256 * y 1 + y 2))) (w':=w)
    (run_ext2 o3b o3e (isF_ev o3f a3) o3g Tryz.func244 (by kernel_rfl) (by kernel_rfl) (by kernel_rfl) (e:=Extern.BytealgCompare.compare) (by kernel_rfl) (by rw [x5,x6]; exact run_cmp3 h h')) ?_)
  rw [o3c]
  have A4:=A3.put (d:=7) (by omega) (.int .i64 (sgn (65536 * x 0 + 256 * x 1 + x 2) (65536 * y 0 + 256 * y 1 + y 2)))
  generalize a3.put (some 7) (.int .i64 (sgn (65536 * x 0 + 256 * x 1 + x 2) (65536 * y 0 + 256 * y 1 + y 2))) = a4 at A4 ⊢
  refine wpOps_cons o4a o4d (upon_val (v:=.int .i64 (sgn (65536 * x 0 + 256 * x 1 + x 2) (65536 * y 0 + 256 * y 1 + y 2))) (w':=w) (by simp only [execOp,o4b,show a4.eval (.tmp 7) = _ from A4.ev,Sem.run_pure]; rfl) ?_)
  rw [o4c]
  have A5:=A4.put (d:=4) (by omega) (.int .i64 (sgn (65536 * x 0 + 256 * x 1 + x 2) (65536 * y 0 + 256 * y 1 + y 2)))
  generalize a4.put (some 4) (.int .i64 (sgn (65536 * x 0 + 256 * x 1 + x 2) (65536 * y 0 + 256 * y 1 + y 2))) = a5 at A5 ⊢
  show Code.wp _ _ _ _ _
  refine wp_ret ?_
  have u4:a5.tmps.getD 4 Go.undef = .int .i64 (sgn (65536 * x 0 + 256 * x 1 + x 2) (65536 * y 0 + 256 * y 1 + y 2)):=A5.ev
  have hres:(Tryz.f231.results.toList.mapM (resOne a5.tmps)).run Tryz.prog w = .ok [.int .i64 (sgn (65536 * x 0 + 256 * x 1 + x 2) (65536 * y 0 + 256 * y 1 + y 2))] w:=by rw [rs179,← u4]; rfl
  exact ⟨A5.df,_,results_run hres,rfl,rfl⟩
noncomputable def o162 (i:Nat):Array Oper:=match opsIn i (bodyOf Tryz.f194) with | some x => x | none => #[]
noncomputable def in162:Code:=.seq (.region 3 (o162 3) false) (.seq (.region 4 (o162 4) true) (.seq (.region 5 (o162 5) false) (.cond (.tmp 18) (.seq (.region 6 (o162 6) false) .ret) .skip)))
noncomputable def body162:Code:=.seq (.region 2 (o162 2) false) (.seq (.cond (.tmp 8) .skip (.exit 0)) (.seq (.block 1 in162) (.region 7 (o162 7) false)))
noncomputable def end162:Code:=.seq (.region 8 (o162 8) false) .ret
theorem sk162:Tryz.f194.body = some (.seq (.region 0 (o162 0) false) (.seq (.seq (.region 1 (o162 1) false) (.block 0 (.loop body162))) end162)):=by kernel_rfl
theorem q162_0:∃ o,(o162 4)[0]? = some o ∧ o.op = .move (.tmp 5) ∧ o.dst = some 10 ∧ o.guard = none:=⟨((o162 4)[0]?).get (by kernel_rfl),(Option.some_get _).symm,by kernel_rfl,by kernel_rfl,by kernel_rfl⟩
theorem q162_1:∃ o,(o162 4)[1]? = some o ∧ o.op = .indexAddr 112 (.tmp 2) (.tmp 10) ∧ o.dst = some 11 ∧ o.guard = none:=⟨((o162 4)[1]?).get (by kernel_rfl),(Option.some_get _).symm,by kernel_rfl,by kernel_rfl,by kernel_rfl⟩
theorem q162_2:∃ o,(o162 4)[2]? = some o ∧ o.op = .slice 106 (.tmp 11) none none none ∧ o.dst = some 12 ∧ o.guard = none:=⟨((o162 4)[2]?).get (by kernel_rfl),(Option.some_get _).symm,by kernel_rfl,by kernel_rfl,by kernel_rfl⟩
theorem q162_3:∃ o,(o162 4)[3]? = some o ∧ o.op = .move (.tmp 5) ∧ o.dst = some 13 ∧ o.guard = none:=⟨((o162 4)[3]?).get (by kernel_rfl),(Option.some_get _).symm,by kernel_rfl,by kernel_rfl,by kernel_rfl⟩
theorem q162_4:∃ o,(o162 4)[4]? = some o ∧ o.op = .indexAddr 112 (.tmp 3) (.tmp 13) ∧ o.dst = some 14 ∧ o.guard = none:=⟨((o162 4)[4]?).get (by kernel_rfl),(Option.some_get _).symm,by kernel_rfl,by kernel_rfl,by kernel_rfl⟩
theorem q162_5:∃ o,(o162 4)[5]? = some o ∧ o.op = .slice 106 (.tmp 14) none none none ∧ o.dst = some 15 ∧ o.guard = none:=⟨((o162 4)[5]?).get (by kernel_rfl),(Option.some_get _).symm,by kernel_rfl,by kernel_rfl,by kernel_rfl⟩
theorem q162_7:∃ o,(o162 4)[7]? = some o ∧ o.op = .assign (.tmp 16) ∧ o.dst = some 6 ∧ o.guard = none:=⟨((o162 4)[7]?).get (by kernel_rfl),(Option.some_get _).symm,by kernel_rfl,by kernel_rfl,by kernel_rfl⟩
noncomputable def o162_6:Oper:=((o162 4)[6]?).get (by kernel_rfl)
noncomputable def c162_6:Call:=(callOf o162_6).get (by kernel_rfl)
noncomputable def z162_6:Operand:=(valOf c162_6.callee).get (by kernel_rfl)
theorem q162_6:∃ o c z,(o162 4)[6]? = some o ∧ o.op = .call c ∧ c.callee = .value z ∧ isF 231 z = true ∧ c.args.toList = [.tmp 12,.tmp 15] ∧ o.dst = some 16 ∧ o.guard = none :=
  ⟨o162_6,c162_6,z162_6,(Option.some_get _).symm,by kernel_rfl,by kernel_rfl,by kernel_rfl,by kernel_rfl,by kernel_rfl,by kernel_rfl⟩
def E162 (A B:mat.den) (i:Int):Env:=[(2,.box false [.fz mat 0 false A]),(3,.box false [.fz mat 0 false B]),(7,intE .i64 i)]
def E162b (A B:mat.den) (i:Int):Env:=[(2,.box false [.fz mat 0 false A]),(3,.box false [.fz mat 0 false B]),(5,intE .i64 i),(7,intE .i64 i)]
def E162c (A B:mat.den) (i r:Int):Env:=[(2,.box false [.fz mat 0 false A]),(3,.box false [.fz mat 0 false B]),(6,intE .i64 r),(7,intE .i64 i)]
theorem e162a (A B:mat.den):evL TT [] [] [] (.region 0 (o162 0) false) (initEnv 0 [.v mat,.v mat] (A,B,())) (fun e => some (keepK [2,3] e)) (fun _ _ => none) (fun _ => none) =
    some [(2,.box false [.fz mat 0 false A]),(3,.box false [.fz mat 0 false B])]:=by kernel_rfl
theorem e162b (A B:mat.den):evL TT [] [] [] (.region 1 (o162 1) false) [(2,.box false [.fz mat 0 false A]),(3,.box false [.fz mat 0 false B])] (fun e => some (keepK [2,3,7] e)) (fun _ _ => none) (fun _ => none) =
    some (E162 A B 0):=by kernel_rfl
theorem e162c (A B:mat.den) (i:Int):evL TT [] [] [] (.region 2 (o162 2) false) (E162 A B i) (fun e => some (keepK [2,3,7,8] e)) (fun _ _ => none) (fun _ => none) =
    some (E162 A B i ++ [(8,boolE (decide (i < 3)))]):=by kernel_rfl
theorem e162d (A B:mat.den) (i:Int):evL TT [] [] [] (.region 3 (o162 3) false) (E162 A B i ++ [(8,boolE true)]) (fun e => some (keepK [2,3,5,7] e)) (fun _ _ => none) (fun _ => none) =
    some (E162b A B i):=by kernel_rfl
theorem e162e (A B:mat.den) (i r:Int):evL TT [] [] [] (.region 5 (o162 5) false) (E162c A B i r) (fun e => some (keepK [2,3,6,7,18] e)) (fun _ _ => none) (fun _ => none) =
    some (E162c A B i r ++ [(18,boolE (!decide (r = 0)))]):=by kernel_rfl
theorem e162f (A B:mat.den) (i r:Int):evL TT [] [] [] (.region 7 (o162 7) false) (E162c A B i r ++ [(18,boolE false)]) (fun e => some (keepK [2,3,7] e)) (fun _ _ => none) (fun _ => none) =
    some (E162 A B (IntKind.i64.wrap (i + 1))):=by kernel_rfl
theorem e162g (A B:mat.den) (i r:Int):evL TT [] [] [] (.seq (.region 6 (o162 6) false) .ret) (E162c A B i r ++ [(18,boolE true)]) (fun _ => none) (fun _ _ => none) (endK TT [.tmp 4] [i64] false false) = some (r,()):=by kernel_rfl
theorem e162h (A B:mat.den) (i:Int):evL TT [] [] [] end162 (E162 A B i ++ [(8,boolE false)]) (endK TT [.tmp 4] [i64] false false) (fun _ _ => none) (endK TT [.tmp 4] [i64] false false) = some ((0:Int),()):=by kernel_rfl
theorem oc162 (i:Nat) (hi:i = 0 ∨ i = 1 ∨ i = 2 ∨ i = 3 ∨ i = 5 ∨ i = 7):okCode ⟨21,false,undef⟩ (.region i (o162 i) false) = true:=by
  rcases hi with rfl | rfl | rfl | rfl | rfl | rfl <;> kernel_rfl
theorem nt162:Tryz.f194.ntmps = 21:=by kernel_rfl
theorem rs162:Tryz.f194.results.toList = [.tmp 4]:=by kernel_rfl
theorem run_idx {P:Program} {T:TTab} {t:TypeId} {n:Nat} {u:Ty} (hT:TOK P T) (k:TyOK P T t (.arr n u)) {b o:Nat} {i:Int} (hi : 0 ≤ i ∧ i < n) (w:World) :
    (Instr.indexAt t (.pointer (some ⟨b,o,none⟩)) (.int .i64 i)).run P w = .ok (.pointer (some ⟨b,o + i.toNat * u.size,none⟩)) w:=by
  obtain ⟨e',hu,hte,hz,hn1⟩:=k.und
  have asInt:(asIntOf (.int .i64 i)).run P w = .ok (.i64,i) w:=rfl
  simp only [Instr.indexAt,Sem.run_bind,asInt,Result.andThen_ok,run_underlying hu,run_sureAddr,Sem.run_pure,sizeOf_of (hT _ _ hte),if_pos hi]
  rw [addr_add]
theorem run_cut {P:Program} {T:TTab} {t:TypeId} {n:Nat} {u:Ty} (hT:TOK P T) (k:TyOK P T t (.arr n u)) {b o:Nat} (w:World) :
    (Instr.sliceAt t (.pointer (some ⟨b,o,none⟩)) none none none).run P w = .ok (.slice (some ⟨b,o,none⟩) n n) w:=by
  obtain ⟨e',hu,hte,hz,hn1⟩:=k.und
  have h0:(Instr.sliceBounds false n n none none none).run P w = .ok (0,n,n) w:=by
    simp [Instr.sliceBounds]
  simp only [Instr.sliceAt,Sem.run_bind,Result.andThen_ok,run_underlying hu,run_sureAddr,Sem.run_pure,sizeOf_of (hT _ _ hte),h0]
  split
  · rfl
  · rw [addr_add]; simp
theorem cell3 {g:Gh} {w:World} {s:Nat} {A:mat.den} {v:Value} (h:EntR g w.heap s (.box false [.fz mat 0 false A]) v):∃ b,v = .pointer (some ⟨b,0,none⟩) ∧ ∀ i,i < 3->∀ n,At3 { w with drawn:=n } b (i * 3) (fun j => mcell A i j):=by
  obtain ⟨b,c,e,fr,bs,h1,h2,⟨b1,b2,⟨h3,_⟩,_,_⟩,_⟩:=h
  refine ⟨b,h1,fun i hi n => ⟨c,e,fr,h2,fun j hj => ?_⟩⟩
  obtain ⟨q,w⟩:=rd_mat h3 hi hj
  have hlt:i * 3 + j < 9:=by omega
  rw [List.getElem?_take_of_lt (show i * 3 + j < (Leaf.fz mat 0 false A).ty.size from hlt)] at q
  exact ⟨by simpa using q,wf_u8 w⟩
theorem reg162 {w0 w:World} {W:Nat->Prop} {g:Gh} {A B:mat.den} {i:Nat} {a:Act} {Q:Exit->Act->World->Prop} (hi:i < 3) (st:St ⟨21,false,undef⟩ w0 W g (E162b A B i).get a w) (hQ:∀ c a d v w,Q (.panic c) (a.put d v) w->Q (.panic c) a w)
    (hk:∀ a' w',St ⟨21,false,undef⟩ w0 W g (E162c A B i (sgn (rkM A i) (rkM B i))).get a' w'->Q .normal a' w'):(Code.region 4 (o162 4) true).wp Tryz.prog Q a w:=by
  have k27:=tt_ok 112 mat (by kernel_rfl)
  have k22:=tt_ok 106 ex (by kernel_rfl)
  obtain ⟨b1,p1,c1⟩:=cell3 (st.ent 2)
  obtain ⟨b2,p2,c2⟩:=cell3 (st.ent 3)
  have p5:a.tmps.getD 5 Go.undef = .int .i64 (i:Int):=(asI_inv (st.ent 5) rfl).1
  obtain ⟨o0,o0a,o0b,o0c,o0d⟩:=q162_0
  obtain ⟨o1,o1a,o1b,o1c,o1d⟩:=q162_1
  obtain ⟨o2,o2a,o2b,o2c,o2d⟩:=q162_2
  obtain ⟨o3,o3a,o3b,o3c,o3d⟩:=q162_3
  obtain ⟨o4,o4a,o4b,o4c,o4d⟩:=q162_4
  obtain ⟨o5,o5a,o5b,o5c,o5d⟩:=q162_5
  obtain ⟨o6,c6,z6,o6a,o6b,o6e,o6f,o6g,o6c,o6d⟩:=q162_6
  obtain ⟨o7,o7a,o7b,o7c,o7d⟩:=q162_7
  have st':St ⟨21,false,undef⟩ w0 W g (E162b A B i).get a { w with drawn:=w.drawn + 1 }:=⟨st.inv,st.ent,st.sz,st.df,st.os,⟨st.tape.tape,Nat.le_trans st.tape.dr (Nat.le_succ _)⟩,st.output⟩
  have c1:=c1 i hi (w.drawn + 1)
  have c2:=c2 i hi (w.drawn + 1)
  have A0:AtV 21 (fun s => a.tmps.getD s Go.undef) a:=⟨st.sz.1,st.df,fun _ => rfl⟩
  refine wp_region_any mixed ?_
  rw [show (o162 4).size = 8 by kernel_rfl]
  clear st
  generalize hw:({ w with drawn:=w.drawn + 1 }:World) = w1 at st' c1 c2 ⊢
  clear hw
  have wanted:∀ {o:Oper} {f:Nat->Option Bool},o.guard = none->Region.wanted o f = true:=fun h => by simp [Region.wanted,h]
  refine wpAny_take (i:=0) (v:=.int .i64 i) o0a (by kernel_rfl) (by kernel_rfl) (by kernel_rfl) (fun c a w h => hQ c _ _ _ w h) (.inl ⟨wanted o0d,fun w => by simp only [execOp,o0b,show a.eval (.tmp 5) = _ from A0.ev.trans p5,Sem.run_pure]⟩) ?_
  rw [o0c]
  have A1:=A0.put (d:=10) (by omega) (.int .i64 i)
  have s1:=st'.passed (d:=10) (v:=.int .i64 i) ⟨by decide,fun q => (by cases q)⟩ rfl
  generalize a.put (some 10) (.int .i64 i) = a1 at A1 s1 ⊢
  refine wpAny_take (i:=1) (v:=.pointer (some ⟨b1,i * 3,none⟩)) o1a (by kernel_rfl) (by kernel_rfl) (by kernel_rfl) (fun c a w h => hQ c _ _ _ w h) (.inl ⟨wanted o1d,fun w => by
    have e1:a1.eval (.tmp 2) = .pointer (some ⟨b1,0,none⟩):=A1.ev.trans p1
    have e2:a1.eval (.tmp 10) = .int .i64 i:=A1.ev
    simp only [execOp,o1b,e1,e2,Sem.run_bind,run_idx tt_ok k27 (show (0:Int) ≤ (i:Int) ∧ (i:Int) < (3:Nat) by omega),Result.andThen_ok,Sem.run_pure]
    rw [show 0 + (i:Int).toNat * ex.size = i * 3 by show 0 + (i:Int).toNat * 3 = i * 3; simp]⟩) ?_
  rw [o1c]
  have A2:=A1.put (d:=11) (by omega) (.pointer (some ⟨b1,i * 3,none⟩))
  have s2:=s1.passed (d:=11) (v:=.pointer (some ⟨b1,i * 3,none⟩)) ⟨by decide,fun q => (by cases q)⟩ rfl
  generalize a1.put (some 11) (.pointer (some ⟨b1,i * 3,none⟩)) = a2 at A2 s2 ⊢
  refine wpAny_take (i:=2) (v:=.slice (some ⟨b1,i * 3,none⟩) 3 3) o2a (by kernel_rfl) (by kernel_rfl) (by kernel_rfl) (fun c a w h => hQ c _ _ _ w h) (.inl ⟨wanted o2d,fun w => by
    have e1:a2.eval (.tmp 11) = .pointer (some ⟨b1,i * 3,none⟩):=A2.ev
    simp only [execOp,o2b,e1,Option.map_none,Sem.run_bind,run_cut tt_ok k22,Result.andThen_ok,Sem.run_pure]⟩) ?_
  rw [o2c]
  have A3:=A2.put (d:=12) (by omega) (.slice (some ⟨b1,i * 3,none⟩) 3 3)
  have s3:=s2.passed (d:=12) (v:=.slice (some ⟨b1,i * 3,none⟩) 3 3) ⟨by decide,fun q => (by cases q)⟩ rfl
  generalize a2.put (some 12) (.slice (some ⟨b1,i * 3,none⟩) 3 3) = a3 at A3 s3 ⊢
  refine wpAny_take (i:=3) (v:=.int .i64 i) o3a (by kernel_rfl) (by kernel_rfl) (by kernel_rfl) (fun c a w h => hQ c _ _ _ w h) (.inl ⟨wanted o3d,fun w => by simp only [execOp,o3b,show a3.eval (.tmp 5) = _ from A3.ev.trans p5,Sem.run_pure]⟩) ?_
  rw [o3c]
  have A4:=A3.put (d:=13) (by omega) (.int .i64 i)
  have s4:=s3.passed (d:=13) (v:=.int .i64 i) ⟨by decide,fun q => (by cases q)⟩ rfl
  generalize a3.put (some 13) (.int .i64 i) = a4 at A4 s4 ⊢
  refine wpAny_take (i:=4) (v:=.pointer (some ⟨b2,i * 3,none⟩)) o4a (by kernel_rfl) (by kernel_rfl) (by kernel_rfl) (fun c a w h => hQ c _ _ _ w h) (.inl ⟨wanted o4d,fun w => by
    have e1:a4.eval (.tmp 3) = .pointer (some ⟨b2,0,none⟩):=A4.ev.trans p2
    have e2:a4.eval (.tmp 13) = .int .i64 i:=A4.ev
    simp only [execOp,o4b,e1,e2,Sem.run_bind,run_idx tt_ok k27 (show (0:Int) ≤ (i:Int) ∧ (i:Int) < (3:Nat) by omega),Result.andThen_ok,Sem.run_pure]
    rw [show 0 + (i:Int).toNat * ex.size = i * 3 by show 0 + (i:Int).toNat * 3 = i * 3; simp]⟩) ?_
  rw [o4c]
  have A5:=A4.put (d:=14) (by omega) (.pointer (some ⟨b2,i * 3,none⟩))
  have s5:=s4.passed (d:=14) (v:=.pointer (some ⟨b2,i * 3,none⟩)) ⟨by decide,fun q => (by cases q)⟩ rfl
  generalize a4.put (some 14) (.pointer (some ⟨b2,i * 3,none⟩)) = a5 at A5 s5 ⊢
  refine wpAny_take (i:=5) (v:=.slice (some ⟨b2,i * 3,none⟩) 3 3) o5a (by kernel_rfl) (by kernel_rfl) (by kernel_rfl) (fun c a w h => hQ c _ _ _ w h) (.inl ⟨wanted o5d,fun w => by
    have e1:a5.eval (.tmp 14) = .pointer (some ⟨b2,i * 3,none⟩):=A5.ev
    simp only [execOp,o5b,e1,Option.map_none,Sem.run_bind,run_cut tt_ok k22,Result.andThen_ok,Sem.run_pure]⟩) ?_
  rw [o5c]
  have A6:=A5.put (d:=15) (by omega) (.slice (some ⟨b2,i * 3,none⟩) 3 3)
  have s6:=s5.passed (d:=15) (v:=.slice (some ⟨b2,i * 3,none⟩) 3 3) ⟨by decide,fun q => (by cases q)⟩ rfl
  generalize a5.put (some 15) (.slice (some ⟨b2,i * 3,none⟩) 3 3) = a6 at A6 s6 ⊢
  refine wpAny_all (rs:=[6]) (by kernel_rfl) (by simp) fun j hj => ?_
  rw [List.mem_singleton] at hj; subst hj
  have e12:a6.eval (.tmp 12) = .slice (some ⟨b1,i * 3,none⟩) 3 3:=A6.ev
  have e15:a6.eval (.tmp 15) = .slice (some ⟨b2,i * 3,none⟩) 3 3:=A6.ev
  unfold wpOp
  simp only [o6a]
  rw [wanted o6d]
  refine .inl ?_
  unfold Oper.wp
  rw [run_enter2 o6b o6e (isF_ev o6f a6) o6g Tryz.func231 (by decide) rfl]
  simp only [Oper.upon]
  rw [e12,e15]
  refine (calls179 c1 c2).mono ?_
  rintro e w' ⟨rfl,rfl⟩
  show wpAny _ _ _ _ _ _ (a6.put o6.dst _) _
  rw [o6c,show sgn (65536 * mcell A i 0 + 256 * mcell A i 1 + mcell A i 2) (65536 * mcell B i 0 + 256 * mcell B i 1 + mcell B i 2) = sgn (rkM A i) (rkM B i) from rfl]
  generalize hr:sgn (rkM A i) (rkM B i) = r
  have hrw:(Lit.int .i64 r).wf = true:=by
    rw [← hr]; unfold sgn; split
    · rfl
    · split <;> rfl
  have A7:=A6.put (d:=16) (by omega) (.int .i64 r)
  have s7:=s6.passed (d:=16) (v:=.int .i64 r) ⟨by decide,fun q => (by cases q)⟩ rfl
  generalize a6.put (some 16) (.int .i64 r) = a7 at A7 s7 ⊢
  refine wpAny_take (i:=7) (v:=.int .i64 r) o7a (by kernel_rfl) (by kernel_rfl) (by kernel_rfl) (fun c a w h => hQ c _ _ _ w h) (.inl ⟨wanted o7d,fun w => by simp only [execOp,o7b,show a7.eval (.tmp 16) = _ from A7.ev,Sem.run_pure]; rfl⟩) ?_
  rw [o7c]
  have s8:=s7.putA (d:=6) (v:=.int .i64 r) ⟨by decide,fun q => (by cases q)⟩ (intE_sound hrw)
  refine wpAny_done (by kernel_rfl) (hk _ _ ?_) _
  rw [hr]
  exact s8.kill fun s => match s with
    | 0 | 1 | 2 | 3 | 4 | 6 | 7 => .inl rfl
    | 5 => .inr rfl
    | s + 8 => .inl rfl
theorem keyM_eq {A B:mat.den} (h:∀ j,j < 3->rkM A j = rkM B j):cmpM A B = 0:=by
  unfold cmpM sgn keyM
  rw [h 0 (by omega),h 1 (by omega),h 2 (by omega)]
  simp
def okMc (g:mat.den):Prop:=∀ i j,0 ≤ mcell g i j ∧ mcell g i j ≤ 255
theorem rkM_rng {g:mat.den} (h:okMc g) (i:Nat) : 0 ≤ rkM g i ∧ rkM g i ≤ 16777215:=by
  have:=h i 0; have:=h i 1; have:=h i 2; unfold rkM; omega
theorem keyM_at {A B:mat.den} (ha:okMc A) (hb:okMc B) {i:Nat} (hi:i < 3) (h:∀ j,j < i->rkM A j = rkM B j) (hne:sgn (rkM A i) (rkM B i) ≠ 0):cmpM A B = sgn (rkM A i) (rkM B i):=by
  have r0:=rkM_rng ha 0; have r1:=rkM_rng ha 1; have r2:=rkM_rng ha 2
  have t0:=rkM_rng hb 0; have t1:=rkM_rng hb 1; have t2:=rkM_rng hb 2
  have:i = 0 ∨ i = 1 ∨ i = 2:=by omega
  rcases this with rfl | rfl | rfl
  · unfold cmpM sgn keyM at *
    split at hne
    · rename_i q; rw [if_pos q,if_pos (by omega)]
    · split at hne
      · rename_i q q'; rw [if_neg q,if_pos q',if_neg (by omega),if_pos (by omega)]
      · exact absurd rfl hne
  · have e0:=h 0 (by omega)
    unfold cmpM sgn keyM at *
    split at hne
    · rename_i q; rw [if_pos q,if_pos (by omega)]
    · split at hne
      · rename_i q q'; rw [if_neg q,if_pos q',if_neg (by omega),if_pos (by omega)]
      · exact absurd rfl hne
  · have e0:=h 0 (by omega)
    have e1:=h 1 (by omega)
    unfold cmpM sgn keyM at *
    split at hne
    · rename_i q; rw [if_pos q,if_pos (by omega)]
    · split at hne
      · rename_i q q'; rw [if_neg q,if_pos q',if_neg (by omega),if_pos (by omega)]
      · exact absurd rfl hne
theorem sgn_zero {a b:Int} (h:sgn a b = 0):a = b:=by
  unfold sgn at h
  split at h
  · cases h
  · split at h
    · cases h
    · omega
open Classical in
noncomputable def cf162:G194:=fun x => if okMc x.1 ∧ okMc x.2.1 then some (cmpM x.1 x.2.1,()) else none
theorem k162:KOne Tryz.prog 194 ⟨[.v mat,.v mat],[i64],false,false,0,cf162⟩:=by
  refine ⟨fun _ => ?_,fun q => (by cases q),fun q => (by cases q),Tryz.f194,Tryz.func194,by decide,rfl⟩
  intro x y hxy w vs ba hv
  obtain ⟨A,B,_⟩:=x
  change mat.den at A
  change mat.den at B
  simp only [cf162] at hxy
  split at hxy
  case isFalse => cases hxy
  rename_i hc
  injection hxy with hxy; subst hxy
  obtain ⟨hA,hB⟩:=hc
  have st0:=init_St (n:=21) hv (by decide)
  rw [← nt162] at st0
  refine calls_of_wp Tryz.func194 sk162 (wp_seq ?_)
  rw [nt162] at st0 ⊢
  refine ev_wp (A:=fun b => b ∈ ba) (ks:=[2,3]) mixed tt_ok KOK.nil (fun b hb => (by cases hb)) (oc162 0 (by simp)) trivial (e162a A B) st0 rfl fun a1 w1 g1 st1 A1 => ?_
  show Code.wp _ _ _ _ _
  refine wp_seq (wp_seq (ev_wp (A:=fun b => b ∈ ba) (ks:=[2,3,7]) mixed tt_ok KOK.nil (fun b hb => (by cases hb)) (oc162 1 (by simp)) trivial (e162b A B) st1 A1 fun a2 w2 g2 st2 A2 => ?_))
  show Code.wp _ _ _ _ _
  refine wp_block (wp_loop (fun a' w' => ∃ (i:Nat) (g:Gh),i ≤ 3 ∧ St ⟨21,false,undef⟩ w (fun _ => False) g (E162 A B i).get a' w' ∧ g.al = (fun b => b ∈ ba) ∧ ∀ j,j < i->rkM A j = rkM B j) (fun a' _ => match a'.tmps.getD 7 undef with | .int _ i => (3 - i).toNat | _ => 0) ⟨0,g2,by omega,st2,A2,fun j hj => by omega⟩ fun a3 w3 hI => ?_)
  obtain ⟨i,g3,hi,st3,A3,hr⟩:=hI
  have m3:a3.tmps.getD 7 Go.undef = .int .i64 (i:Int):=(asI_inv (st3.ent 7) rfl).1
  rw [m3]
  refine wp_seq (ev_wp (A:=fun b => b ∈ ba) (ks:=[2,3,7,8]) mixed tt_ok KOK.nil (fun b hb => (by cases hb)) (oc162 2 (by simp)) trivial (e162c A B i) st3 A3 fun a4 w4 g4 st4 A4 => ?_)
  show Code.wp _ _ _ _ _
  have t8:a4.eval (.tmp 8) = .bool (decide ((i:Int) < 3)):=bool_at (st4.ent 8)
  refine wp_seq (wp_cond (t:=decide ((i:Int) < 3)) t8 ?_)
  by_cases h3:(i:Int) < 3
  · have h3':i < 3:=by omega
    rw [decide_eq_true h3] at st4 ⊢
    refine wp_skip ?_
    show Code.wp _ _ _ _ _
    refine wp_seq (wp_block (wp_seq (ev_wp (A:=fun b => b ∈ ba) (ks:=[2,3,5,7]) mixed tt_ok KOK.nil (fun b hb => (by cases hb)) (oc162 3 (by simp)) trivial (e162d A B i) st4 A4 fun a5 w5 g5 st5 A5 => ?_)))
    show Code.wp _ _ _ _ _
    refine wp_seq (reg162 h3' st5 (fun c a d v w h => by cases d <;> exact h) fun a6 w6 st6 => ?_)
    show Code.wp _ _ _ _ _
    refine wp_seq (ev_wp (A:=fun b => b ∈ ba) (ks:=[2,3,6,7,18]) mixed tt_ok KOK.nil (fun b hb => (by cases hb)) (oc162 5 (by simp)) trivial (e162e A B i (sgn (rkM A i) (rkM B i))) st6 A5 fun a7 w7 g7 st7 A7 => ?_)
    show Code.wp _ _ _ _ _
    have t18:a7.eval (.tmp 18) = .bool (!decide (sgn (rkM A i) (rkM B i) = 0)):=bool_at (st7.ent 18)
    refine wp_cond (t:=!decide (sgn (rkM A i) (rkM B i) = 0)) t18 ?_
    by_cases hz:sgn (rkM A i) (rkM B i) = 0
    · rw [decide_eq_true hz] at st7 ⊢
      refine wp_skip ?_
      show Code.wp _ _ _ _ _
      refine ev_wp (A:=fun b => b ∈ ba) (ks:=[2,3,7]) mixed tt_ok KOK.nil (fun b hb => (by cases hb)) (oc162 7 (by simp)) trivial (e162f A B i (sgn (rkM A i) (rkM B i))) st7 A7 fun a8 w8 g8 st8 A8 => ?_
      have hwr:IntKind.i64.wrap ((i:Int) + 1) = ((i + 1:Nat):Int):=by
        have:i = 0 ∨ i = 1 ∨ i = 2:=by omega
        rcases this with rfl | rfl | rfl <;> rfl
      rw [hwr] at st8
      have m8:a8.tmps.getD 7 Go.undef = .int .i64 ((i + 1:Nat):Int):=(asI_inv (st8.ent 7) rfl).1
      refine ⟨⟨i + 1,g8,by omega,st8,A8,fun j hj => ?_⟩,?_⟩
      · rcases Nat.lt_or_ge j i with q | q
        · exact hr j q
        · have:j = i:=by omega
          subst this; exact sgn_zero hz
      · rw [m8]; simp only; omega
    · rw [decide_eq_false hz] at st7 ⊢
      have hres:=keyM_at hA hB h3' hr hz
      rw [hres]
      exact evL_sound (T:=TT) (K:=[]) (H:=[]) (LT:=([]:LTab R194)) (A:=fun b => b ∈ ba) (W:=fun _ => False) (y:=(sgn (rkM A i) (rkM B i),())) (kn:=fun _ => none) (kx:=fun _ _ => none) (kr:=endK TT [.tmp 4] [i64] false false) mixed tt_ok KOK.nil (fun b hb => (by cases hb)) (by kernel_rfl) (by exact ⟨trivial,trivial⟩) (e162g A B i _) st7 A7
        (fun _ _ _ _ q => (by cases q)) (fun _ _ _ _ _ q => (by cases q)) (fun env' a' w' g' q1 q2 q3 => After_of (C:=⟨[.v mat,.v mat],[i64],false,false,0,cf162⟩) tt_ok q2 q3 (by rw [rs162]; exact q1))
  · have h3':i = 3:=by omega
    subst h3'
    rw [decide_eq_false h3] at st4 ⊢
    refine wp_exit ?_
    show Code.wp _ _ _ _ _
    rw [keyM_eq hr]
    exact evL_sound (T:=TT) (K:=[]) (H:=[]) (LT:=([]:LTab R194)) (A:=fun b => b ∈ ba) (W:=fun _ => False) (y:=((0:Int),())) (kn:=endK TT [.tmp 4] [i64] false false) (kx:=fun _ _ => none) (kr:=endK TT [.tmp 4] [i64] false false) mixed tt_ok KOK.nil (fun b hb => (by cases hb)) (by kernel_rfl) (by exact ⟨trivial,trivial⟩) (e162h A B _) st4 A4
      (fun env' a' w' g' q1 q2 q3 => After_of (C:=⟨[.v mat,.v mat],[i64],false,false,0,cf162⟩) tt_ok q2 q3 (by rw [rs162]; exact q1)) (fun _ _ _ _ _ q => (by cases q)) (fun env' a' w' g' q1 q2 q3 => After_of (C:=⟨[.v mat,.v mat],[i64],false,false,0,cf162⟩) tt_ok q2 q3 (by rw [rs162]; exact q1))
abbrev R187:Type:=Ress [mat]
abbrev G187:Type:=Args [.v i64]->Option R187
abbrev kp187:List (Nat × List Nat):=[(0,[2,0]),(1,[3,2,0]),(2,[4,3,2,0]),(3,[8,4,3,2,0]),(5,[4,3,2,0]),(4,[4,3,2,0]),(6,[2])]
abbrev ct187:CTab:=[]
abbrev kr187:Env->Option R187:=endK TT [.cell 2 112] [mat] false false
abbrev sh187_3:Shape:=[(0,vv i64),(2,bb mat),(3,bb mat),(4,vv i64)]
def st187_3 (F:Nat) (s:ShVal sh187_3) (k kx:ShVal sh187_3->Option R187):Option R187 :=
  match s with
  | ((t0,_),(t2,_),(t3,_),(t4,_),_) => (bif decide (t4 < t0) then (bif ib t4 (Int.ofNat 3) then (bif ib t4 (Int.ofNat 3) then k ((t0,()),((t2,()),(((tset (tset (1:Int) 3 (tget (Ty.dflt (.arr 3 (.int .u8))) 3 t3 (tn t4)) (tn t4)) 3 t3 (tn t4)),()),(((w6 (t4 + (1:Int))),()),())))) else none) else none) else kx ((t0,()),((t2,()),((t3,()),((t4,()),())))))
def ru187_3 (F:Nat) (s:ShVal sh187_3) (kx:ShVal sh187_3->Option R187):Option R187:=iter (fun s k => st187_3 F s k kx) F s
abbrev ls187_3 (F:Nat):LS R187:=⟨sh187_3,0,ru187_3 F⟩
def fn187 (F:Nat) (x:Args [.v i64]):Option R187 :=
  match x with
  | (x0,_) => (ru187_3 F ((x0,()),(((Ty.dflt (.arr 3 (.arr 3 (.int .u8)))),()),(((tup (Prod Int (Prod Int (Prod Int Unit))) (Ty.dflt (.arr 3 (.int .u8))) 3),()),(((0:Int),()),())))) (fun s' => match s' with | ((t0,_),(t2,_),(t3,_),(t4,_),_) => (some (t3,()))))
theorem ev187_3 (F:Nat) (s:ShVal sh187_3) (k kx:ShVal sh187_3->Option R187):evL TT (ct187 ) kp187 [] (loopOf Tryz.f187 3) (envOf sh187_3 s) (fitK sh187_3 k) (fun j e => bif Nat.beq j 0 then fitK sh187_3 kx e else none) kr187 = st187_3 F s k kx:=by
  obtain ⟨⟨t0,_⟩,⟨t2,_⟩,⟨t3,_⟩,⟨t4,_⟩,_⟩:=s
  kernel_rfl
theorem ok187_3 (F:Nat) (hK:KOK Tryz.prog (ct187 )):LSOK Tryz.prog ⟨16,false,undef⟩ (ls187_3 F) (loopOf Tryz.f187 3) kr187 :=
  loop_ok (st187_3 F) mixed tt_ok hK (by kernel_rfl) (LTOK_by (l:=[]) (by kernel_rfl) trivial) (ev187_3 F)
theorem ev187 (F:Nat) (x:Args [.v i64]):fnK TT (ct187 ) kp187 [mat] [(3,ls187_3 F)] (bodyOf Tryz.f187) [.cell 2 112] [.v i64] false false x = fn187 F x:=by
  obtain ⟨x0,_⟩:=x
  kernel_rfl
theorem ok187 (hK:KOK Tryz.prog (ct187 )) (cf:G187) (h:∀ x y,cf x = some y->∃ F,fn187 F x = some y):KOne Tryz.prog 187 ⟨[.v i64],[mat],false,false,0,cf⟩ :=
  fn_one rfl (c:=bodyOf Tryz.f187) mixed tt_ok hK Tryz.func187 (by kernel_rfl) (by kernel_rfl) (Nat.le_of_ble_eq_true (by kernel_rfl)) (by decide) fun x y hxy => by
    obtain ⟨F,hF⟩:=h x y hxy
    exact ⟨[(3,ls187_3 F)],LTOK_by (l:=[loopOf Tryz.f187 3]) (by kernel_rfl) ⟨ls_at (by kernel_rfl) (ok187_3 F hK),trivial⟩,(ev187 F x).trans hF⟩
abbrev R186:Type:=Ress [mat]
abbrev G186:Type:=Args [.v i64,.v i64,.v mat,.v mat]->Option R186
abbrev kp186:List (Nat × List Nat):=[(0,[7,6,0,1,8]),(1,[7,6,0,9,1,8]),(2,[7,6,10,0,9,1,8]),(3,[17,1,9,0,10,6,7,8]),(5,[1,9,0,10,6,11,7,8]),(6,[22,7,11,6,10,1,9,0,8]),(8,[7,11,6,10,12,1,9,0,8]),(9,[13,7,11,6,10,12,1,9,0,8]),(10,[27,12,13,7,11,6,10,1,9,0,8]),(12,[13,7,11,6,10,12,1,9,0,8]),(11,[13,7,11,6,10,12,1,9,0,8]),(13,[11,1,9,0,10,6,7,8]),(7,[1,9,0,10,6,11,7,8]),(4,[7,6,10,0,9,1,8]),(14,[8])]
abbrev ct186:CTab:=[]
abbrev kr186:Env->Option R186:=endK TT [.cell 8 112] [mat] false false
abbrev sh186_10:Shape:=[(0,vv i64),(1,vv i64),(6,bb mat),(7,bb mat),(8,bb mat),(9,bb mat),(10,vv i64),(11,vv i64),(12,vv i64),(13,vv i64)]
def st186_10 (F:Nat) (s:ShVal sh186_10) (k kx:ShVal sh186_10->Option R186):Option R186 :=
  match s with
  | ((t0,_),(t1,_),(t6,_),(t7,_),(t8,_),(t9,_),(t10,_),(t11,_),(t12,_),(t13,_),_) => (bif decide (t13 < t1) then (bif ib t10 (Int.ofNat 3) then (bif ib t13 (Int.ofNat 3) then (bif ib t13 (Int.ofNat 3) then (bif ib t11 (Int.ofNat 3) then k ((t0,()),((t1,()),((t6,()),((t7,()),((t8,()),((t9,()),((t10,()),((t11,()),(((w6 (t12 + (w6 ((w6 (tget (0:Int) 3 (tget (Ty.dflt (.arr 3 (.int .u8))) 3 t6 (tn t10)) (tn t13))) * (w6 (tget (0:Int) 3 (tget (Ty.dflt (.arr 3 (.int .u8))) 3 t7 (tn t13)) (tn t11))))))),()),(((w6 (t13 + (1:Int))),()),())))))))))) else none) else none) else none) else none) else kx ((t0,()),((t1,()),((t6,()),((t7,()),((t8,()),((t9,()),((t10,()),((t11,()),((t12,()),((t13,()),())))))))))))
def ru186_10 (F:Nat) (s:ShVal sh186_10) (kx:ShVal sh186_10->Option R186):Option R186:=iter (fun s k => st186_10 F s k kx) F s
abbrev ls186_10 (F:Nat):LS R186:=⟨sh186_10,4,ru186_10 F⟩
abbrev sh186_6:Shape:=[(0,vv i64),(1,vv i64),(6,bb mat),(7,bb mat),(8,bb mat),(9,bb mat),(10,vv i64),(11,vv i64)]
def st186_6 (F:Nat) (s:ShVal sh186_6) (k kx:ShVal sh186_6->Option R186):Option R186 :=
  match s with
  | ((t0,_),(t1,_),(t6,_),(t7,_),(t8,_),(t9,_),(t10,_),(t11,_),_) => (bif decide (t11 < t1) then (ru186_10 F ((t0,()),((t1,()),((t6,()),((t7,()),((t8,()),((t9,()),((t10,()),((t11,()),(((0:Int),()),(((0:Int),()),())))))))))) (fun s' => match s' with | ((t0,_),(t1,_),(t6,_),(t7,_),(t8,_),(t9,_),(t10,_),(t11,_),(t12,_),(t13,_),_) => (bif (!decide (t0 = (0:Int))) then (bif ib t10 (Int.ofNat 3) then (bif ib t11 (Int.ofNat 3) then k ((t0,()),((t1,()),((t6,()),((t7,()),((t8,()),(((tset (tset (w8 (Int.tmod t12 t0)) 3 (tget (Ty.dflt (.arr 3 (.int .u8))) 3 t9 (tn t10)) (tn t11)) 3 t9 (tn t10)),()),((t10,()),(((w6 (t11 + (1:Int))),()),())))))))) else none) else none) else none))) else kx ((t0,()),((t1,()),((t6,()),((t7,()),((t8,()),((t9,()),((t10,()),((t11,()),())))))))))
def ru186_6 (F:Nat) (s:ShVal sh186_6) (kx:ShVal sh186_6->Option R186):Option R186:=iter (fun s k => st186_6 F s k kx) F s
abbrev ls186_6 (F:Nat):LS R186:=⟨sh186_6,2,ru186_6 F⟩
abbrev sh186_3:Shape:=[(0,vv i64),(1,vv i64),(6,bb mat),(7,bb mat),(8,bb mat),(9,bb mat),(10,vv i64)]
def st186_3 (F:Nat) (s:ShVal sh186_3) (k kx:ShVal sh186_3->Option R186):Option R186 :=
  match s with
  | ((t0,_),(t1,_),(t6,_),(t7,_),(t8,_),(t9,_),(t10,_),_) => (bif decide (t10 < t1) then (ru186_6 F ((t0,()),((t1,()),((t6,()),((t7,()),((t8,()),((t9,()),((t10,()),(((0:Int),()),())))))))) (fun s' => match s' with | ((t0,_),(t1,_),(t6,_),(t7,_),(t8,_),(t9,_),(t10,_),(t11,_),_) => k ((t0,()),((t1,()),((t6,()),((t7,()),((t8,()),((t9,()),(((w6 (t10 + (1:Int))),()),()))))))))) else kx ((t0,()),((t1,()),((t6,()),((t7,()),((t8,()),((t9,()),((t10,()),()))))))))
def ru186_3 (F:Nat) (s:ShVal sh186_3) (kx:ShVal sh186_3->Option R186):Option R186:=iter (fun s k => st186_3 F s k kx) F s
abbrev ls186_3 (F:Nat):LS R186:=⟨sh186_3,0,ru186_3 F⟩
def fn186 (F:Nat) (x:Args [.v i64,.v i64,.v mat,.v mat]):Option R186 :=
  match x with
  | (x0,x1,x2,x3,_) => (ru186_3 F ((x0,()),((x1,()),((x2,()),((x3,()),(((Ty.dflt (.arr 3 (.arr 3 (.int .u8)))),()),(((tup (Prod Int (Prod Int (Prod Int Unit))) (Ty.dflt (.arr 3 (.int .u8))) 3),()),(((0:Int),()),()))))))) (fun s' => match s' with | ((t0,_),(t1,_),(t6,_),(t7,_),(t8,_),(t9,_),(t10,_),_) => (some (t9,()))))
theorem ev186_10 (F:Nat) (s:ShVal sh186_10) (k kx:ShVal sh186_10->Option R186):evL TT (ct186 ) kp186 [] (loopOf Tryz.f186 10) (envOf sh186_10 s) (fitK sh186_10 k) (fun j e => bif Nat.beq j 4 then fitK sh186_10 kx e else none) kr186 = st186_10 F s k kx:=by
  obtain ⟨⟨t0,_⟩,⟨t1,_⟩,⟨t6,_⟩,⟨t7,_⟩,⟨t8,_⟩,⟨t9,_⟩,⟨t10,_⟩,⟨t11,_⟩,⟨t12,_⟩,⟨t13,_⟩,_⟩:=s
  kernel_rfl
theorem ok186_10 (F:Nat) (hK:KOK Tryz.prog (ct186 )):LSOK Tryz.prog ⟨54,false,undef⟩ (ls186_10 F) (loopOf Tryz.f186 10) kr186 :=
  loop_ok (st186_10 F) mixed tt_ok hK (by kernel_rfl) (LTOK_by (l:=[]) (by kernel_rfl) trivial) (ev186_10 F)
theorem ev186_6 (F:Nat) (s:ShVal sh186_6) (k kx:ShVal sh186_6->Option R186):evL TT (ct186 ) kp186 [(10,ls186_10 F)] (loopOf Tryz.f186 6) (envOf sh186_6 s) (fitK sh186_6 k) (fun j e => bif Nat.beq j 2 then fitK sh186_6 kx e else none) kr186 = st186_6 F s k kx:=by
  obtain ⟨⟨t0,_⟩,⟨t1,_⟩,⟨t6,_⟩,⟨t7,_⟩,⟨t8,_⟩,⟨t9,_⟩,⟨t10,_⟩,⟨t11,_⟩,_⟩:=s
  kernel_rfl
theorem ok186_6 (F:Nat) (hK:KOK Tryz.prog (ct186 )):LSOK Tryz.prog ⟨54,false,undef⟩ (ls186_6 F) (loopOf Tryz.f186 6) kr186 :=
  loop_ok (st186_6 F) mixed tt_ok hK (by kernel_rfl) (LTOK_by (l:=[loopOf Tryz.f186 10]) (by kernel_rfl) ⟨ls_at (by kernel_rfl) (ok186_10 F hK),trivial⟩) (ev186_6 F)
theorem ev186_3 (F:Nat) (s:ShVal sh186_3) (k kx:ShVal sh186_3->Option R186):evL TT (ct186 ) kp186 [(6,ls186_6 F)] (loopOf Tryz.f186 3) (envOf sh186_3 s) (fitK sh186_3 k) (fun j e => bif Nat.beq j 0 then fitK sh186_3 kx e else none) kr186 = st186_3 F s k kx:=by
  obtain ⟨⟨t0,_⟩,⟨t1,_⟩,⟨t6,_⟩,⟨t7,_⟩,⟨t8,_⟩,⟨t9,_⟩,⟨t10,_⟩,_⟩:=s
  kernel_rfl
theorem ok186_3 (F:Nat) (hK:KOK Tryz.prog (ct186 )):LSOK Tryz.prog ⟨54,false,undef⟩ (ls186_3 F) (loopOf Tryz.f186 3) kr186 :=
  loop_ok (st186_3 F) mixed tt_ok hK (by kernel_rfl) (LTOK_by (l:=[loopOf Tryz.f186 6]) (by kernel_rfl) ⟨ls_at (by kernel_rfl) (ok186_6 F hK),trivial⟩) (ev186_3 F)
theorem ev186 (F:Nat) (x:Args [.v i64,.v i64,.v mat,.v mat]):fnK TT (ct186 ) kp186 [mat] [(3,ls186_3 F)] (bodyOf Tryz.f186) [.cell 8 112] [.v i64,.v i64,.v mat,.v mat] false false x = fn186 F x:=by
  obtain ⟨x0,x1,x2,x3,_⟩:=x
  kernel_rfl
theorem ok186 (hK:KOK Tryz.prog (ct186 )) (cf:G186) (h:∀ x y,cf x = some y->∃ F,fn186 F x = some y):KOne Tryz.prog 186 ⟨[.v i64,.v i64,.v mat,.v mat],[mat],false,false,0,cf⟩ :=
  fn_one rfl (c:=bodyOf Tryz.f186) mixed tt_ok hK Tryz.func186 (by kernel_rfl) (by kernel_rfl) (Nat.le_of_ble_eq_true (by kernel_rfl)) (by decide) fun x y hxy => by
    obtain ⟨F,hF⟩:=h x y hxy
    exact ⟨[(3,ls186_3 F)],LTOK_by (l:=[loopOf Tryz.f186 3]) (by kernel_rfl) ⟨ls_at (by kernel_rfl) (ok186_3 F hK),trivial⟩,(ev186 F x).trans hF⟩
abbrev R184:Type:=Ress [.bool]
abbrev G184:Type:=Args [.v mat,.v mat]->Option R184
abbrev kp184:List (Nat × List Nat):=[(0,[2,3]),(1,[2,5,3]),(2,[8,3,5,2]),(4,[3,6,5,2]),(5,[12,2,5,6,3]),(7,[25,2,5,6,3]),(8,[4]),(6,[3,6,5,2]),(3,[2,5,3]),(9,[4])]
abbrev ct184:CTab:=[]
abbrev kr184:Env->Option R184:=endK TT [.tmp 4] [.bool] false false
abbrev sh184_5:Shape:=[(2,bb mat),(3,bb mat),(5,vv i64),(6,vv i64)]
def st184_5 (F:Nat) (s:ShVal sh184_5) (k kx:ShVal sh184_5->Option R184):Option R184 :=
  match s with
  | ((t2,_),(t3,_),(t5,_),(t6,_),_) => (bif decide (t6 < (3:Int)) then (bif ib t5 (Int.ofNat 3) then (bif ib t6 (Int.ofNat 3) then (bif ib t5 (Int.ofNat 3) then (bif ib t6 (Int.ofNat 3) then (bif (!decide ((tget (0:Int) 3 (tget (Ty.dflt (.arr 3 (.int .u8))) 3 t2 (tn t5)) (tn t6)) = (tget (0:Int) 3 (tget (Ty.dflt (.arr 3 (.int .u8))) 3 t3 (tn t5)) (tn t6)))) then (bif ib t5 (Int.ofNat 3) then (bif ib t6 (Int.ofNat 3) then (bif ib t5 (Int.ofNat 3) then (bif ib t6 (Int.ofNat 3) then (some (decide ((tget (0:Int) 3 (tget (Ty.dflt (.arr 3 (.int .u8))) 3 t2 (tn t5)) (tn t6)) < (tget (0:Int) 3 (tget (Ty.dflt (.arr 3 (.int .u8))) 3 t3 (tn t5)) (tn t6))),())) else none) else none) else none) else none) else k ((t2,()),((t3,()),((t5,()),(((w6 (t6 + (1:Int))),()),()))))) else none) else none) else none) else none) else kx ((t2,()),((t3,()),((t5,()),((t6,()),())))))
def ru184_5 (F:Nat) (s:ShVal sh184_5) (kx:ShVal sh184_5->Option R184):Option R184:=iter (fun s k => st184_5 F s k kx) F s
abbrev ls184_5 (F:Nat):LS R184:=⟨sh184_5,2,ru184_5 F⟩
abbrev sh184_2:Shape:=[(2,bb mat),(3,bb mat),(5,vv i64)]
def st184_2 (F:Nat) (s:ShVal sh184_2) (k kx:ShVal sh184_2->Option R184):Option R184 :=
  match s with
  | ((t2,_),(t3,_),(t5,_),_) => (bif decide (t5 < (3:Int)) then (ru184_5 F ((t2,()),((t3,()),((t5,()),(((0:Int),()),())))) (fun s' => match s' with | ((t2,_),(t3,_),(t5,_),(t6,_),_) => k ((t2,()),((t3,()),(((w6 (t5 + (1:Int))),()),()))))) else kx ((t2,()),((t3,()),((t5,()),()))))
def ru184_2 (F:Nat) (s:ShVal sh184_2) (kx:ShVal sh184_2->Option R184):Option R184:=iter (fun s k => st184_2 F s k kx) F s
abbrev ls184_2 (F:Nat):LS R184:=⟨sh184_2,0,ru184_2 F⟩
def fn184 (F:Nat) (x:Args [.v mat,.v mat]):Option R184 :=
  match x with
  | (x0,x1,_) => (ru184_2 F ((x0,()),((x1,()),(((0:Int),()),()))) (fun s' => match s' with | ((t2,_),(t3,_),(t5,_),_) => (some (false,()))))
theorem ev184_5 (F:Nat) (s:ShVal sh184_5) (k kx:ShVal sh184_5->Option R184):evL TT (ct184 ) kp184 [] (loopOf Tryz.f184 5) (envOf sh184_5 s) (fitK sh184_5 k) (fun j e => bif Nat.beq j 2 then fitK sh184_5 kx e else none) kr184 = st184_5 F s k kx:=by
  obtain ⟨⟨t2,_⟩,⟨t3,_⟩,⟨t5,_⟩,⟨t6,_⟩,_⟩:=s
  kernel_rfl
theorem ok184_5 (F:Nat) (hK:KOK Tryz.prog (ct184 )):LSOK Tryz.prog ⟨37,false,undef⟩ (ls184_5 F) (loopOf Tryz.f184 5) kr184 :=
  loop_ok (st184_5 F) mixed tt_ok hK (by kernel_rfl) (LTOK_by (l:=[]) (by kernel_rfl) trivial) (ev184_5 F)
theorem ev184_2 (F:Nat) (s:ShVal sh184_2) (k kx:ShVal sh184_2->Option R184):evL TT (ct184 ) kp184 [(5,ls184_5 F)] (loopOf Tryz.f184 2) (envOf sh184_2 s) (fitK sh184_2 k) (fun j e => bif Nat.beq j 0 then fitK sh184_2 kx e else none) kr184 = st184_2 F s k kx:=by
  obtain ⟨⟨t2,_⟩,⟨t3,_⟩,⟨t5,_⟩,_⟩:=s
  kernel_rfl
theorem ok184_2 (F:Nat) (hK:KOK Tryz.prog (ct184 )):LSOK Tryz.prog ⟨37,false,undef⟩ (ls184_2 F) (loopOf Tryz.f184 2) kr184 :=
  loop_ok (st184_2 F) mixed tt_ok hK (by kernel_rfl) (LTOK_by (l:=[loopOf Tryz.f184 5]) (by kernel_rfl) ⟨ls_at (by kernel_rfl) (ok184_5 F hK),trivial⟩) (ev184_2 F)
theorem ev184 (F:Nat) (x:Args [.v mat,.v mat]):fnK TT (ct184 ) kp184 [.bool] [(2,ls184_2 F)] (bodyOf Tryz.f184) [.tmp 4] [.v mat,.v mat] false false x = fn184 F x:=by
  obtain ⟨x0,x1,_⟩:=x
  kernel_rfl
theorem ok184 (hK:KOK Tryz.prog (ct184 )) (cf:G184) (h:∀ x y,cf x = some y->∃ F,fn184 F x = some y):KOne Tryz.prog 184 ⟨[.v mat,.v mat],[.bool],false,false,0,cf⟩ :=
  fn_one rfl (c:=bodyOf Tryz.f184) mixed tt_ok hK Tryz.func184 (by kernel_rfl) (by kernel_rfl) (Nat.le_of_ble_eq_true (by kernel_rfl)) (by decide) fun x y hxy => by
    obtain ⟨F,hF⟩:=h x y hxy
    exact ⟨[(2,ls184_2 F)],LTOK_by (l:=[loopOf Tryz.f184 2]) (by kernel_rfl) ⟨ls_at (by kernel_rfl) (ok184_2 F hK),trivial⟩,(ev184 F x).trans hF⟩
abbrev R185:Type:=Ress [i64]
abbrev G185:Type:=Args [.v (.slice 112 mat),.v mat]->Option R185
abbrev kp185:List (Nat × List Nat):=[(0,[3,0]),(1,[5,3,0]),(2,[9,0,3,5]),(4,[17,0,3,5]),(5,[4]),(3,[5,3,0]),(6,[4])]
abbrev ct185:CTab:=[]
abbrev kr185:Env->Option R185:=endK TT [.tmp 4] [i64] false false
abbrev sh185_2:Shape:=[(0,.val false [.fz (.slice 112 mat) 0 true]),(3,bb mat),(5,vv i64)]
def st185_2 (F:Nat) (s:ShVal sh185_2) (k kx:ShVal sh185_2->Option R185):Option R185 :=
  match s with
  | ((t0,_),(t3,_),(t5,_),_) => (bif decide ((List.length t0) ≤ 9223372036854775807) then (bif decide (t5 < (Int.ofNat (List.length t0))) then (bif ib t5 (Int.ofNat (List.length t0)) then (bif (Ty.eqd (.arr 3 (.arr 3 (.int .u8))) (List.getD t0 (tn t5) (Ty.dflt (.arr 3 (.arr 3 (.int .u8))))) t3) then (some (t5,())) else k ((t0,()),((t3,()),(((w6 (t5 + (1:Int))),()),())))) else none) else kx ((t0,()),((t3,()),((t5,()),())))) else none)
def ru185_2 (F:Nat) (s:ShVal sh185_2) (kx:ShVal sh185_2->Option R185):Option R185:=iter (fun s k => st185_2 F s k kx) F s
abbrev ls185_2 (F:Nat):LS R185:=⟨sh185_2,0,ru185_2 F⟩
def fn185 (F:Nat) (x:Args [.v (.slice 112 mat),.v mat]):Option R185 :=
  match x with
  | (x0,x1,_) => (ru185_2 F ((x0,()),((x1,()),(((0:Int),()),()))) (fun s' => match s' with | ((t0,_),(t3,_),(t5,_),_) => (some ((-(1:Int)),()))))
theorem ev185_2 (F:Nat) (s:ShVal sh185_2) (k kx:ShVal sh185_2->Option R185):evL TT (ct185 ) kp185 [] (loopOf Tryz.f185 2) (envOf sh185_2 s) (fitK sh185_2 k) (fun j e => bif Nat.beq j 0 then fitK sh185_2 kx e else none) kr185 = st185_2 F s k kx:=by
  obtain ⟨⟨t0,_⟩,⟨t3,_⟩,⟨t5,_⟩,_⟩:=s
  kernel_rfl
theorem ok185_2 (F:Nat) (hK:KOK Tryz.prog (ct185 )):LSOK Tryz.prog ⟨19,false,undef⟩ (ls185_2 F) (loopOf Tryz.f185 2) kr185 :=
  loop_ok (st185_2 F) mixed tt_ok hK (by kernel_rfl) (LTOK_by (l:=[]) (by kernel_rfl) trivial) (ev185_2 F)
theorem ev185 (F:Nat) (x:Args [.v (.slice 112 mat),.v mat]):fnK TT (ct185 ) kp185 [i64] [(2,ls185_2 F)] (bodyOf Tryz.f185) [.tmp 4] [.v (.slice 112 mat),.v mat] false false x = fn185 F x:=by
  obtain ⟨x0,x1,_⟩:=x
  kernel_rfl
theorem ok185 (hK:KOK Tryz.prog (ct185 )) (cf:G185) (h:∀ x y,cf x = some y->∃ F,fn185 F x = some y):KOne Tryz.prog 185 ⟨[.v (.slice 112 mat),.v mat],[i64],false,false,0,cf⟩ :=
  fn_one rfl (c:=bodyOf Tryz.f185) mixed tt_ok hK Tryz.func185 (by kernel_rfl) (by kernel_rfl) (Nat.le_of_ble_eq_true (by kernel_rfl)) (by decide) fun x y hxy => by
    obtain ⟨F,hF⟩:=h x y hxy
    exact ⟨[(2,ls185_2 F)],LTOK_by (l:=[loopOf Tryz.f185 2]) (by kernel_rfl) ⟨ls_at (by kernel_rfl) (ok185_2 F hK),trivial⟩,(ev185 F x).trans hF⟩
abbrev R118:Type:=Ress [.bool]
abbrev G118:Type:=Args [.v (.pair i64 (.pair i64 (.pair (.slice 112 mat) .unit)))]->Option R118
abbrev kp118:List (Nat × List Nat):=[(0,[1]),(1,[27,1]),(2,[2]),(3,[3,1]),(4,[32,1,3]),(6,[64,1,3]),(7,[2]),(5,[3,1]),(8,[4,1]),(9,[69,1,4]),(11,[5,1,4]),(12,[76,4,1,5]),(14,[97,4,1,5]),(15,[2]),(13,[5,1,4]),(10,[4,1]),(16,[2])]
abbrev ct118 (g155:G155) (g131:G131) (g186:G186) (g185:G185) (g187:G187) (g184:G184) (g183:G183):CTab:=[(155,⟨[.v i64],[.bool],false,false,0,g155⟩),(131,⟨[.v i64,.v i64,.v i64],[.bool],false,false,0,g131⟩),(186,⟨[.v i64,.v i64,.v mat,.v mat],[mat],false,false,0,g186⟩),(185,⟨[.v (.slice 112 mat),.v mat],[i64],false,false,0,g185⟩),(187,⟨[.v i64],[mat],false,false,0,g187⟩),(184,⟨[.v mat,.v mat],[.bool],false,false,0,g184⟩),(183,⟨[.v i64,.v i64,.v mat],[.bool],false,false,0,g183⟩)]
abbrev kr118:Env->Option R118:=endK TT [.tmp 2] [.bool] false false
abbrev sh118_4:Shape:=[(1,.box false [.fz i64 0 false,.fz i64 0 false,.fz (.slice 112 mat) 0 true]),(3,vv i64)]
def st118_4 (g155:G155) (g131:G131) (g186:G186) (g185:G185) (g187:G187) (g184:G184) (g183:G183) (F:Nat) (s:ShVal sh118_4) (k kx:ShVal sh118_4->Option R118):Option R118 :=
  match s with
  | ((t1_0,t1_1,t1_2,_),(t3,_),_) => (bif decide ((List.length t1_2) ≤ 9223372036854775807) then (bif decide (t3 < (Int.ofNat (List.length t1_2))) then (bif ib t3 (Int.ofNat (List.length t1_2)) then (match (g183 (t1_0,(t1_1,((List.getD t1_2 (tn t3) (Ty.dflt (.arr 3 (.arr 3 (.int .u8))))),())))) with | some r19 => (bif (!r19.1) then (some (false,())) else (bif decide ((0:Int) < t3) then (bif ib (w6 (t3 - (1:Int))) (Int.ofNat (List.length t1_2)) then (bif ib t3 (Int.ofNat (List.length t1_2)) then (match (g184 ((List.getD t1_2 (tn (w6 (t3 - (1:Int)))) (Ty.dflt (.arr 3 (.arr 3 (.int .u8))))),((List.getD t1_2 (tn t3) (Ty.dflt (.arr 3 (.arr 3 (.int .u8))))),()))) with | some r20 => (bif (bif false then true else (bif true then (!r20.1) else false)) then (some (false,())) else k ((t1_0,(t1_1,(t1_2,()))),(((w6 (t3 + (1:Int))),()),()))) | none => none) else none) else none) else (bif (bif false then true else false) then (some (false,())) else k ((t1_0,(t1_1,(t1_2,()))),(((w6 (t3 + (1:Int))),()),()))))) | none => none) else none) else kx ((t1_0,(t1_1,(t1_2,()))),((t3,()),()))) else none)
def ru118_4 (g155:G155) (g131:G131) (g186:G186) (g185:G185) (g187:G187) (g184:G184) (g183:G183) (F:Nat) (s:ShVal sh118_4) (kx:ShVal sh118_4->Option R118):Option R118:=iter (fun s k => st118_4 g155 g131 g186 g185 g187 g184 g183 F s k kx) F s
abbrev ls118_4 (g155:G155) (g131:G131) (g186:G186) (g185:G185) (g187:G187) (g184:G184) (g183:G183) (F:Nat):LS R118:=⟨sh118_4,0,ru118_4 g155 g131 g186 g185 g187 g184 g183 F⟩
abbrev sh118_12:Shape:=[(1,.box false [.fz i64 0 false,.fz i64 0 false,.fz (.slice 112 mat) 0 true]),(4,vv i64),(5,vv i64)]
def st118_12 (g155:G155) (g131:G131) (g186:G186) (g185:G185) (g187:G187) (g184:G184) (g183:G183) (F:Nat) (s:ShVal sh118_12) (k kx:ShVal sh118_12->Option R118):Option R118 :=
  match s with
  | ((t1_0,t1_1,t1_2,_),(t4,_),(t5,_),_) => (bif decide ((List.length t1_2) ≤ 9223372036854775807) then (bif decide (t5 < (Int.ofNat (List.length t1_2))) then (bif ib t4 (Int.ofNat (List.length t1_2)) then (bif ib t5 (Int.ofNat (List.length t1_2)) then (match (g186 (t1_0,(t1_1,((List.getD t1_2 (tn t4) (Ty.dflt (.arr 3 (.arr 3 (.int .u8))))),((List.getD t1_2 (tn t5) (Ty.dflt (.arr 3 (.arr 3 (.int .u8))))),()))))) with | some r31 => (match (g185 (t1_2,(r31.1,()))) with | some r32 => (bif decide (r32.1 < (0:Int)) then (some (false,())) else k ((t1_0,(t1_1,(t1_2,()))),((t4,()),(((w6 (t5 + (1:Int))),()),())))) | none => none) | none => none) else none) else none) else kx ((t1_0,(t1_1,(t1_2,()))),((t4,()),((t5,()),())))) else none)
def ru118_12 (g155:G155) (g131:G131) (g186:G186) (g185:G185) (g187:G187) (g184:G184) (g183:G183) (F:Nat) (s:ShVal sh118_12) (kx:ShVal sh118_12->Option R118):Option R118:=iter (fun s k => st118_12 g155 g131 g186 g185 g187 g184 g183 F s k kx) F s
abbrev ls118_12 (g155:G155) (g131:G131) (g186:G186) (g185:G185) (g187:G187) (g184:G184) (g183:G183) (F:Nat):LS R118:=⟨sh118_12,4,ru118_12 g155 g131 g186 g185 g187 g184 g183 F⟩
abbrev sh118_9:Shape:=[(1,.box false [.fz i64 0 false,.fz i64 0 false,.fz (.slice 112 mat) 0 true]),(4,vv i64)]
def st118_9 (g155:G155) (g131:G131) (g186:G186) (g185:G185) (g187:G187) (g184:G184) (g183:G183) (F:Nat) (s:ShVal sh118_9) (k kx:ShVal sh118_9->Option R118):Option R118 :=
  match s with
  | ((t1_0,t1_1,t1_2,_),(t4,_),_) => (bif decide ((List.length t1_2) ≤ 9223372036854775807) then (bif decide (t4 < (Int.ofNat (List.length t1_2))) then (ru118_12 g155 g131 g186 g185 g187 g184 g183 F ((t1_0,(t1_1,(t1_2,()))),((t4,()),(((0:Int),()),()))) (fun s' => match s' with | ((t1_0,t1_1,t1_2,_),(t4,_),(t5,_),_) => k ((t1_0,(t1_1,(t1_2,()))),(((w6 (t4 + (1:Int))),()),())))) else kx ((t1_0,(t1_1,(t1_2,()))),((t4,()),()))) else none)
def ru118_9 (g155:G155) (g131:G131) (g186:G186) (g185:G185) (g187:G187) (g184:G184) (g183:G183) (F:Nat) (s:ShVal sh118_9) (kx:ShVal sh118_9->Option R118):Option R118:=iter (fun s k => st118_9 g155 g131 g186 g185 g187 g184 g183 F s k kx) F s
abbrev ls118_9 (g155:G155) (g131:G131) (g186:G186) (g185:G185) (g187:G187) (g184:G184) (g183:G183) (F:Nat):LS R118:=⟨sh118_9,2,ru118_9 g155 g131 g186 g185 g187 g184 g183 F⟩
def fn118 (g155:G155) (g131:G131) (g186:G186) (g185:G185) (g187:G187) (g184:G184) (g183:G183) (F:Nat) (x:Args [.v (.pair i64 (.pair i64 (.pair (.slice 112 mat) .unit)))]):Option R118 :=
  match x with
  | (x0,_) => (match (g155 (x0.1,())) with | some r10 => (bif (!r10.1) then (some (false,())) else (match (g131 (x0.2.1,((1:Int),((3:Int),())))) with | some r11 => (bif (bif false then true else (!r11.1)) then (some (false,())) else (bif decide ((List.length x0.2.2.1) ≤ 9223372036854775807) then (bif (bif false then true else decide ((Int.ofNat (List.length x0.2.2.1)) < (1:Int))) then (some (false,())) else (bif decide ((List.length x0.2.2.1) ≤ 9223372036854775807) then (bif (bif false then true else decide ((48:Int) < (Int.ofNat (List.length x0.2.2.1)))) then (some (false,())) else (ru118_4 g155 g131 g186 g185 g187 g184 g183 F ((x0.1,(x0.2.1,(x0.2.2.1,()))),(((0:Int),()),())) (fun s' => match s' with | ((t1_0,t1_1,t1_2,_),(t3,_),_) => (ru118_9 g155 g131 g186 g185 g187 g184 g183 F ((t1_0,(t1_1,(t1_2,()))),(((0:Int),()),())) (fun s' => match s' with | ((t1_0,t1_1,t1_2,_),(t4,_),_) => (match (g187 (t1_1,())) with | some r23 => (match (g185 (t1_2,(r23.1,()))) with | some r24 => (some (decide ((0:Int) ≤ r24.1),())) | none => none) | none => none)))))) else none)) else none)) | none => none)) | none => none)
theorem ev118_4 (g155:G155) (g131:G131) (g186:G186) (g185:G185) (g187:G187) (g184:G184) (g183:G183) (F:Nat) (s:ShVal sh118_4) (k kx:ShVal sh118_4->Option R118):evL TT (ct118 g155 g131 g186 g185 g187 g184 g183 ) kp118 [] (loopOf Tryz.f118 4) (envOf sh118_4 s) (fitK sh118_4 k) (fun j e => bif Nat.beq j 0 then fitK sh118_4 kx e else none) kr118 = st118_4 g155 g131 g186 g185 g187 g184 g183 F s k kx:=by
  obtain ⟨⟨t1_0,t1_1,t1_2,_⟩,⟨t3,_⟩,_⟩:=s
  kernel_rfl
theorem ok118_4 (g155:G155) (g131:G131) (g186:G186) (g185:G185) (g187:G187) (g184:G184) (g183:G183) (F:Nat) (hK:KOK Tryz.prog (ct118 g155 g131 g186 g185 g187 g184 g183 )):LSOK Tryz.prog ⟨105,false,undef⟩ (ls118_4 g155 g131 g186 g185 g187 g184 g183 F) (loopOf Tryz.f118 4) kr118 :=
  loop_ok (st118_4 g155 g131 g186 g185 g187 g184 g183 F) mixed tt_ok hK (by kernel_rfl) (LTOK_by (l:=[]) (by kernel_rfl) trivial) (ev118_4 g155 g131 g186 g185 g187 g184 g183 F)
theorem ev118_12 (g155:G155) (g131:G131) (g186:G186) (g185:G185) (g187:G187) (g184:G184) (g183:G183) (F:Nat) (s:ShVal sh118_12) (k kx:ShVal sh118_12->Option R118):evL TT (ct118 g155 g131 g186 g185 g187 g184 g183 ) kp118 [] (loopOf Tryz.f118 12) (envOf sh118_12 s) (fitK sh118_12 k) (fun j e => bif Nat.beq j 4 then fitK sh118_12 kx e else none) kr118 = st118_12 g155 g131 g186 g185 g187 g184 g183 F s k kx:=by
  obtain ⟨⟨t1_0,t1_1,t1_2,_⟩,⟨t4,_⟩,⟨t5,_⟩,_⟩:=s
  kernel_rfl
theorem ok118_12 (g155:G155) (g131:G131) (g186:G186) (g185:G185) (g187:G187) (g184:G184) (g183:G183) (F:Nat) (hK:KOK Tryz.prog (ct118 g155 g131 g186 g185 g187 g184 g183 )):LSOK Tryz.prog ⟨105,false,undef⟩ (ls118_12 g155 g131 g186 g185 g187 g184 g183 F) (loopOf Tryz.f118 12) kr118 :=
  loop_ok (st118_12 g155 g131 g186 g185 g187 g184 g183 F) mixed tt_ok hK (by kernel_rfl) (LTOK_by (l:=[]) (by kernel_rfl) trivial) (ev118_12 g155 g131 g186 g185 g187 g184 g183 F)
theorem ev118_9 (g155:G155) (g131:G131) (g186:G186) (g185:G185) (g187:G187) (g184:G184) (g183:G183) (F:Nat) (s:ShVal sh118_9) (k kx:ShVal sh118_9->Option R118):evL TT (ct118 g155 g131 g186 g185 g187 g184 g183 ) kp118 [(12,ls118_12 g155 g131 g186 g185 g187 g184 g183 F)] (loopOf Tryz.f118 9) (envOf sh118_9 s) (fitK sh118_9 k) (fun j e => bif Nat.beq j 2 then fitK sh118_9 kx e else none) kr118 = st118_9 g155 g131 g186 g185 g187 g184 g183 F s k kx:=by
  obtain ⟨⟨t1_0,t1_1,t1_2,_⟩,⟨t4,_⟩,_⟩:=s
  kernel_rfl
theorem ok118_9 (g155:G155) (g131:G131) (g186:G186) (g185:G185) (g187:G187) (g184:G184) (g183:G183) (F:Nat) (hK:KOK Tryz.prog (ct118 g155 g131 g186 g185 g187 g184 g183 )):LSOK Tryz.prog ⟨105,false,undef⟩ (ls118_9 g155 g131 g186 g185 g187 g184 g183 F) (loopOf Tryz.f118 9) kr118 :=
  loop_ok (st118_9 g155 g131 g186 g185 g187 g184 g183 F) mixed tt_ok hK (by kernel_rfl) (LTOK_by (l:=[loopOf Tryz.f118 12]) (by kernel_rfl) ⟨ls_at (by kernel_rfl) (ok118_12 g155 g131 g186 g185 g187 g184 g183 F hK),trivial⟩) (ev118_9 g155 g131 g186 g185 g187 g184 g183 F)
theorem ev118 (g155:G155) (g131:G131) (g186:G186) (g185:G185) (g187:G187) (g184:G184) (g183:G183) (F:Nat) (x:Args [.v (.pair i64 (.pair i64 (.pair (.slice 112 mat) .unit)))]):fnK TT (ct118 g155 g131 g186 g185 g187 g184 g183 ) kp118 [.bool] [(4,ls118_4 g155 g131 g186 g185 g187 g184 g183 F),(9,ls118_9 g155 g131 g186 g185 g187 g184 g183 F)] (bodyOf Tryz.f118) [.tmp 2] [.v (.pair i64 (.pair i64 (.pair (.slice 112 mat) .unit)))] false false x = fn118 g155 g131 g186 g185 g187 g184 g183 F x:=by
  obtain ⟨x0,_⟩:=x
  kernel_rfl
theorem ok118 (g155:G155) (g131:G131) (g186:G186) (g185:G185) (g187:G187) (g184:G184) (g183:G183) (hK:KOK Tryz.prog (ct118 g155 g131 g186 g185 g187 g184 g183 )) (cf:G118) (h:∀ x y,cf x = some y->∃ F,fn118 g155 g131 g186 g185 g187 g184 g183 F x = some y):KOne Tryz.prog 118 ⟨[.v (.pair i64 (.pair i64 (.pair (.slice 112 mat) .unit)))],[.bool],false,false,0,cf⟩ :=
  fn_one rfl (c:=bodyOf Tryz.f118) mixed tt_ok hK Tryz.func118 (by kernel_rfl) (by kernel_rfl) (Nat.le_of_ble_eq_true (by kernel_rfl)) (by decide) fun x y hxy => by
    obtain ⟨F,hF⟩:=h x y hxy
    exact ⟨[(4,ls118_4 g155 g131 g186 g185 g187 g184 g183 F),(9,ls118_9 g155 g131 g186 g185 g187 g184 g183 F)],LTOK_by (l:=[loopOf Tryz.f118 4,loopOf Tryz.f118 9]) (by kernel_rfl) ⟨ls_at (by kernel_rfl) (ok118_4 g155 g131 g186 g185 g187 g184 g183 F hK),⟨ls_at (by kernel_rfl) (ok118_9 g155 g131 g186 g185 g187 g184 g183 F hK),trivial⟩⟩,(ev118 g155 g131 g186 g185 g187 g184 g183 F x).trans hF⟩
abbrev R119:Type:=Ress [(.slice 2 i64)]
abbrev G119:Type:=Args [.v (.pair i64 (.pair i64 (.pair (.slice 112 mat) .unit)))]->Option R119
abbrev kp119:List (Nat × List Nat):=[(0,[1]),(1,[3,1]),(2,[4,3,1]),(3,[10,3,4,1]),(5,[22,3,4,1]),(6,[4,3,1]),(4,[4,3,1]),(7,[2])]
abbrev ct119 (g188:G188):CTab:=[(188,⟨[.v i64,.v i64,.v mat],[.bool],false,false,0,g188⟩)]
abbrev kr119:Env->Option R119:=endK TT [.tmp 2] [(.slice 2 i64)] true false
abbrev sh119_3:Shape:=[(1,.box false [.fz i64 0 false,.fz i64 0 false,.fz (.slice 112 mat) 0 true]),(3,vr 2 i64 49 false),(4,vv i64)]
def st119_3 (g188:G188) (F:Nat) (s:ShVal sh119_3) (k kx:ShVal sh119_3->Option R119):Option R119 :=
  match s with
  | ((t1_0,t1_1,t1_2,_),(t3,_),(t4,_),_) => (bif decide ((List.length t1_2) ≤ 9223372036854775807) then (bif decide (t4 < (Int.ofNat (List.length t1_2))) then (bif ib t4 (Int.ofNat (List.length t1_2)) then (match (g188 (t1_0,(t1_1,((List.getD t1_2 (tn t4) (Ty.dflt (.arr 3 (.arr 3 (.int .u8))))),())))) with | some r12 => (bif r12.1 then (bif (growOk (List.length t3) (List.length (t4 :: []))) then k ((t1_0,(t1_1,(t1_2,()))),(((t3 ++ (t4 :: [])),()),(((w6 (t4 + (1:Int))),()),()))) else none) else k ((t1_0,(t1_1,(t1_2,()))),((t3,()),(((w6 (t4 + (1:Int))),()),())))) | none => none) else none) else kx ((t1_0,(t1_1,(t1_2,()))),((t3,()),((t4,()),())))) else none)
def ru119_3 (g188:G188) (F:Nat) (s:ShVal sh119_3) (kx:ShVal sh119_3->Option R119):Option R119:=iter (fun s k => st119_3 g188 F s k kx) F s
abbrev ls119_3 (g188:G188) (F:Nat):LS R119:=⟨sh119_3,0,ru119_3 g188 F⟩
def fn119 (g188:G188) (F:Nat) (x:Args [.v (.pair i64 (.pair i64 (.pair (.slice 112 mat) .unit)))]):Option R119 :=
  match x with
  | (x0,_) => (ru119_3 g188 F ((x0.1,(x0.2.1,(x0.2.2.1,()))),(([],()),(((0:Int),()),()))) (fun s' => match s' with | ((t1_0,t1_1,t1_2,_),(t3,_),(t4,_),_) => (some (t3,()))))
theorem ev119_3 (g188:G188) (F:Nat) (s:ShVal sh119_3) (k kx:ShVal sh119_3->Option R119):evL TT (ct119 g188 ) kp119 [] (loopOf Tryz.f119 3) (envOf sh119_3 s) (fitK sh119_3 k) (fun j e => bif Nat.beq j 0 then fitK sh119_3 kx e else none) kr119 = st119_3 g188 F s k kx:=by
  obtain ⟨⟨t1_0,t1_1,t1_2,_⟩,⟨t3,_⟩,⟨t4,_⟩,_⟩:=s
  kernel_rfl
theorem ok119_3 (g188:G188) (F:Nat) (hK:KOK Tryz.prog (ct119 g188 )):LSOK Tryz.prog ⟨28,false,undef⟩ (ls119_3 g188 F) (loopOf Tryz.f119 3) kr119 :=
  loop_ok (st119_3 g188 F) mixed tt_ok hK (by kernel_rfl) (LTOK_by (l:=[]) (by kernel_rfl) trivial) (ev119_3 g188 F)
theorem ev119 (g188:G188) (F:Nat) (x:Args [.v (.pair i64 (.pair i64 (.pair (.slice 112 mat) .unit)))]):fnK TT (ct119 g188 ) kp119 [(.slice 2 i64)] [(3,ls119_3 g188 F)] (bodyOf Tryz.f119) [.tmp 2] [.v (.pair i64 (.pair i64 (.pair (.slice 112 mat) .unit)))] true false x = fn119 g188 F x:=by
  obtain ⟨x0,_⟩:=x
  kernel_rfl
theorem ok119 (g188:G188) (hK:KOK Tryz.prog (ct119 g188 )) (cf:G119) (h:∀ x y,cf x = some y->∃ F,fn119 g188 F x = some y):KOne Tryz.prog 119 ⟨[.v (.pair i64 (.pair i64 (.pair (.slice 112 mat) .unit)))],[(.slice 2 i64)],true,false,0,cf⟩ :=
  fn_one rfl (c:=bodyOf Tryz.f119) mixed tt_ok hK Tryz.func119 (by kernel_rfl) (by kernel_rfl) (Nat.le_of_ble_eq_true (by kernel_rfl)) (by decide) fun x y hxy => by
    obtain ⟨F,hF⟩:=h x y hxy
    exact ⟨[(3,ls119_3 g188 F)],LTOK_by (l:=[loopOf Tryz.f119 3]) (by kernel_rfl) ⟨ls_at (by kernel_rfl) (ok119_3 g188 F hK),trivial⟩,(ev119 g188 F x).trans hF⟩
abbrev R197:Type:=Ress [mat]
abbrev G197:Type:=Args [.v i64]->Option R197
abbrev kp197:List (Nat × List Nat):=[(0,[0,2]),(1,[0,3,2]),(2,[7,3,2,6]),(3,[8,7,3,2,6]),(4,[4,7,3,2,6]),(5,[7,3,2,6]),(6,[7,3,2,6]),(7,[2])]
abbrev ct197:CTab:=[]
abbrev kr197:Env->Option R197:=endK TT [.cell 2 112] [mat] false false
abbrev sh197_3:Shape:=[(2,bb mat),(3,bb mat),(6,vv i64),(7,vv i64)]
def st197_3 (F:Nat) (s:ShVal sh197_3) (k kx:ShVal sh197_3->Option R197):Option R197 :=
  match s with
  | ((t2,_),(t3,_),(t6,_),(t7,_),_) => (bif decide (t7 < t6) then (bif ib t7 (Int.ofNat 3) then (bif ib t7 (Int.ofNat 3) then k ((t2,()),(((tset (tset (1:Int) 3 (tget (Ty.dflt (.arr 3 (.int .u8))) 3 t3 (tn t7)) (tn t7)) 3 t3 (tn t7)),()),((t6,()),(((w6 (t7 + (1:Int))),()),())))) else none) else none) else kx ((t2,()),((t3,()),((t6,()),((t7,()),())))))
def ru197_3 (F:Nat) (s:ShVal sh197_3) (kx:ShVal sh197_3->Option R197):Option R197:=iter (fun s k => st197_3 F s k kx) F s
abbrev ls197_3 (F:Nat):LS R197:=⟨sh197_3,0,ru197_3 F⟩
def fn197 (F:Nat) (x:Args [.v i64]):Option R197 :=
  match x with
  | (x0,_) => (ru197_3 F (((Ty.dflt (.arr 3 (.arr 3 (.int .u8)))),()),(((tup (Prod Int (Prod Int (Prod Int Unit))) (Ty.dflt (.arr 3 (.int .u8))) 3),()),((x0,()),(((0:Int),()),())))) (fun s' => match s' with | ((t2,_),(t3,_),(t6,_),(t7,_),_) => (some (t3,()))))
theorem ev197_3 (F:Nat) (s:ShVal sh197_3) (k kx:ShVal sh197_3->Option R197):evL TT (ct197 ) kp197 [] (loopOf Tryz.f197 3) (envOf sh197_3 s) (fitK sh197_3 k) (fun j e => bif Nat.beq j 0 then fitK sh197_3 kx e else none) kr197 = st197_3 F s k kx:=by
  obtain ⟨⟨t2,_⟩,⟨t3,_⟩,⟨t6,_⟩,⟨t7,_⟩,_⟩:=s
  kernel_rfl
theorem ok197_3 (F:Nat) (hK:KOK Tryz.prog (ct197 )):LSOK Tryz.prog ⟨16,false,undef⟩ (ls197_3 F) (loopOf Tryz.f197 3) kr197 :=
  loop_ok (st197_3 F) mixed tt_ok hK (by kernel_rfl) (LTOK_by (l:=[]) (by kernel_rfl) trivial) (ev197_3 F)
theorem ev197 (F:Nat) (x:Args [.v i64]):fnK TT (ct197 ) kp197 [mat] [(3,ls197_3 F)] (bodyOf Tryz.f197) [.cell 2 112] [.v i64] false false x = fn197 F x:=by
  obtain ⟨x0,_⟩:=x
  kernel_rfl
theorem ok197 (hK:KOK Tryz.prog (ct197 )) (cf:G197) (h:∀ x y,cf x = some y->∃ F,fn197 F x = some y):KOne Tryz.prog 197 ⟨[.v i64],[mat],false,false,0,cf⟩ :=
  fn_one rfl (c:=bodyOf Tryz.f197) mixed tt_ok hK Tryz.func197 (by kernel_rfl) (by kernel_rfl) (Nat.le_of_ble_eq_true (by kernel_rfl)) (by decide) fun x y hxy => by
    obtain ⟨F,hF⟩:=h x y hxy
    exact ⟨[(3,ls197_3 F)],LTOK_by (l:=[loopOf Tryz.f197 3]) (by kernel_rfl) ⟨ls_at (by kernel_rfl) (ok197_3 F hK),trivial⟩,(ev197 F x).trans hF⟩
abbrev R196:Type:=Ress [mat]
abbrev G196:Type:=Args [.v i64,.v i64,.v mat,.v mat]->Option R196
abbrev kp196:List (Nat × List Nat):=[(0,[1,7,6,0,8]),(1,[1,7,6,0,9,8]),(2,[16,1,7,6,0,9,8,15]),(3,[17,9,0,6,7,1,16,8,15]),(4,[9,0,10,6,7,1,16,8,15]),(5,[20,9,0,10,6,7,1,16,8,15,19]),(6,[21,7,6,10,20,9,0,1,16,8,15,19]),(7,[7,11,6,10,20,9,0,1,16,8,15,19]),(8,[7,11,6,10,12,20,9,0,1,16,8,15,19]),(9,[24,7,11,6,10,12,20,9,0,1,16,8,15,19,23]),(10,[25,12,24,7,11,6,10,20,9,0,1,16,8,15,19,23]),(11,[12,13,24,7,11,6,10,20,9,0,1,16,8,15,19,23]),(12,[24,7,11,6,10,12,20,9,0,1,16,8,15,19,23]),(13,[24,7,11,6,10,12,20,9,0,1,16,8,15,19,23]),(14,[20,9,0,10,6,7,1,16,8,15,19]),(15,[20,9,0,10,6,7,1,16,8,15,19]),(16,[16,1,7,6,0,9,8,15]),(17,[8])]
abbrev ct196:CTab:=[]
abbrev kr196:Env->Option R196:=endK TT [.cell 8 112] [mat] false false
abbrev sh196_10:Shape:=[(0,vv i64),(1,vv i64),(6,bb mat),(7,bb mat),(8,bb mat),(9,bb mat),(10,vv i64),(11,vv i64),(12,vv i64),(15,vv i64),(16,vv i64),(19,vv i64),(20,vv i64),(23,vv i64),(24,vv i64)]
def st196_10 (F:Nat) (s:ShVal sh196_10) (k kx:ShVal sh196_10->Option R196):Option R196 :=
  match s with
  | ((t0,_),(t1,_),(t6,_),(t7,_),(t8,_),(t9,_),(t10,_),(t11,_),(t12,_),(t15,_),(t16,_),(t19,_),(t20,_),(t23,_),(t24,_),_) => (bif decide (t24 < t23) then (bif ib t10 (Int.ofNat 3) then (bif ib t24 (Int.ofNat 3) then (bif ib t24 (Int.ofNat 3) then (bif ib t11 (Int.ofNat 3) then k ((t0,()),((t1,()),((t6,()),((t7,()),((t8,()),((t9,()),((t10,()),((t11,()),(((w6 (t12 + (w6 ((w6 (tget (0:Int) 3 (tget (Ty.dflt (.arr 3 (.int .u8))) 3 t6 (tn t10)) (tn t24))) * (w6 (tget (0:Int) 3 (tget (Ty.dflt (.arr 3 (.int .u8))) 3 t7 (tn t24)) (tn t11))))))),()),((t15,()),((t16,()),((t19,()),((t20,()),((t23,()),(((w6 (t24 + (1:Int))),()),()))))))))))))))) else none) else none) else none) else none) else kx ((t0,()),((t1,()),((t6,()),((t7,()),((t8,()),((t9,()),((t10,()),((t11,()),((t12,()),((t15,()),((t16,()),((t19,()),((t20,()),((t23,()),((t24,()),()))))))))))))))))
def ru196_10 (F:Nat) (s:ShVal sh196_10) (kx:ShVal sh196_10->Option R196):Option R196:=iter (fun s k => st196_10 F s k kx) F s
abbrev ls196_10 (F:Nat):LS R196:=⟨sh196_10,4,ru196_10 F⟩
abbrev sh196_6:Shape:=[(0,vv i64),(1,vv i64),(6,bb mat),(7,bb mat),(8,bb mat),(9,bb mat),(10,vv i64),(15,vv i64),(16,vv i64),(19,vv i64),(20,vv i64)]
def st196_6 (F:Nat) (s:ShVal sh196_6) (k kx:ShVal sh196_6->Option R196):Option R196 :=
  match s with
  | ((t0,_),(t1,_),(t6,_),(t7,_),(t8,_),(t9,_),(t10,_),(t15,_),(t16,_),(t19,_),(t20,_),_) => (bif decide (t20 < t19) then (ru196_10 F ((t0,()),((t1,()),((t6,()),((t7,()),((t8,()),((t9,()),((t10,()),((t20,()),(((0:Int),()),((t15,()),((t16,()),((t19,()),((t20,()),((t1,()),(((0:Int),()),()))))))))))))))) (fun s' => match s' with | ((t0,_),(t1,_),(t6,_),(t7,_),(t8,_),(t9,_),(t10,_),(t11,_),(t12,_),(t15,_),(t16,_),(t19,_),(t20,_),(t23,_),(t24,_),_) => (bif (!decide (t0 = (0:Int))) then (bif ib t10 (Int.ofNat 3) then (bif ib t11 (Int.ofNat 3) then k ((t0,()),((t1,()),((t6,()),((t7,()),((t8,()),(((tset (tset (w8 (Int.tmod t12 t0)) 3 (tget (Ty.dflt (.arr 3 (.int .u8))) 3 t9 (tn t10)) (tn t11)) 3 t9 (tn t10)),()),((t10,()),((t15,()),((t16,()),((t19,()),(((w6 (t20 + (1:Int))),()),()))))))))))) else none) else none) else none))) else kx ((t0,()),((t1,()),((t6,()),((t7,()),((t8,()),((t9,()),((t10,()),((t15,()),((t16,()),((t19,()),((t20,()),()))))))))))))
def ru196_6 (F:Nat) (s:ShVal sh196_6) (kx:ShVal sh196_6->Option R196):Option R196:=iter (fun s k => st196_6 F s k kx) F s
abbrev ls196_6 (F:Nat):LS R196:=⟨sh196_6,2,ru196_6 F⟩
abbrev sh196_3:Shape:=[(0,vv i64),(1,vv i64),(6,bb mat),(7,bb mat),(8,bb mat),(9,bb mat),(15,vv i64),(16,vv i64)]
def st196_3 (F:Nat) (s:ShVal sh196_3) (k kx:ShVal sh196_3->Option R196):Option R196 :=
  match s with
  | ((t0,_),(t1,_),(t6,_),(t7,_),(t8,_),(t9,_),(t15,_),(t16,_),_) => (bif decide (t16 < t15) then (ru196_6 F ((t0,()),((t1,()),((t6,()),((t7,()),((t8,()),((t9,()),((t16,()),((t15,()),((t16,()),((t1,()),(((0:Int),()),()))))))))))) (fun s' => match s' with | ((t0,_),(t1,_),(t6,_),(t7,_),(t8,_),(t9,_),(t10,_),(t15,_),(t16,_),(t19,_),(t20,_),_) => k ((t0,()),((t1,()),((t6,()),((t7,()),((t8,()),((t9,()),((t15,()),(((w6 (t16 + (1:Int))),()),())))))))))) else kx ((t0,()),((t1,()),((t6,()),((t7,()),((t8,()),((t9,()),((t15,()),((t16,()),())))))))))
def ru196_3 (F:Nat) (s:ShVal sh196_3) (kx:ShVal sh196_3->Option R196):Option R196:=iter (fun s k => st196_3 F s k kx) F s
abbrev ls196_3 (F:Nat):LS R196:=⟨sh196_3,0,ru196_3 F⟩
def fn196 (F:Nat) (x:Args [.v i64,.v i64,.v mat,.v mat]):Option R196 :=
  match x with
  | (x0,x1,x2,x3,_) => (ru196_3 F ((x0,()),((x1,()),((x2,()),((x3,()),(((Ty.dflt (.arr 3 (.arr 3 (.int .u8)))),()),(((tup (Prod Int (Prod Int (Prod Int Unit))) (Ty.dflt (.arr 3 (.int .u8))) 3),()),((x1,()),(((0:Int),()),())))))))) (fun s' => match s' with | ((t0,_),(t1,_),(t6,_),(t7,_),(t8,_),(t9,_),(t15,_),(t16,_),_) => (some (t9,()))))
theorem ev196_10 (F:Nat) (s:ShVal sh196_10) (k kx:ShVal sh196_10->Option R196):evL TT (ct196 ) kp196 [] (loopOf Tryz.f196 10) (envOf sh196_10 s) (fitK sh196_10 k) (fun j e => bif Nat.beq j 4 then fitK sh196_10 kx e else none) kr196 = st196_10 F s k kx:=by
  obtain ⟨⟨t0,_⟩,⟨t1,_⟩,⟨t6,_⟩,⟨t7,_⟩,⟨t8,_⟩,⟨t9,_⟩,⟨t10,_⟩,⟨t11,_⟩,⟨t12,_⟩,⟨t15,_⟩,⟨t16,_⟩,⟨t19,_⟩,⟨t20,_⟩,⟨t23,_⟩,⟨t24,_⟩,_⟩:=s
  kernel_rfl
theorem ok196_10 (F:Nat) (hK:KOK Tryz.prog (ct196 )):LSOK Tryz.prog ⟨54,false,undef⟩ (ls196_10 F) (loopOf Tryz.f196 10) kr196 :=
  loop_ok (st196_10 F) mixed tt_ok hK (by kernel_rfl) (LTOK_by (l:=[]) (by kernel_rfl) trivial) (ev196_10 F)
theorem ev196_6 (F:Nat) (s:ShVal sh196_6) (k kx:ShVal sh196_6->Option R196):evL TT (ct196 ) kp196 [(10,ls196_10 F)] (loopOf Tryz.f196 6) (envOf sh196_6 s) (fitK sh196_6 k) (fun j e => bif Nat.beq j 2 then fitK sh196_6 kx e else none) kr196 = st196_6 F s k kx:=by
  obtain ⟨⟨t0,_⟩,⟨t1,_⟩,⟨t6,_⟩,⟨t7,_⟩,⟨t8,_⟩,⟨t9,_⟩,⟨t10,_⟩,⟨t15,_⟩,⟨t16,_⟩,⟨t19,_⟩,⟨t20,_⟩,_⟩:=s
  kernel_rfl
theorem ok196_6 (F:Nat) (hK:KOK Tryz.prog (ct196 )):LSOK Tryz.prog ⟨54,false,undef⟩ (ls196_6 F) (loopOf Tryz.f196 6) kr196 :=
  loop_ok (st196_6 F) mixed tt_ok hK (by kernel_rfl) (LTOK_by (l:=[loopOf Tryz.f196 10]) (by kernel_rfl) ⟨ls_at (by kernel_rfl) (ok196_10 F hK),trivial⟩) (ev196_6 F)
theorem ev196_3 (F:Nat) (s:ShVal sh196_3) (k kx:ShVal sh196_3->Option R196):evL TT (ct196 ) kp196 [(6,ls196_6 F)] (loopOf Tryz.f196 3) (envOf sh196_3 s) (fitK sh196_3 k) (fun j e => bif Nat.beq j 0 then fitK sh196_3 kx e else none) kr196 = st196_3 F s k kx:=by
  obtain ⟨⟨t0,_⟩,⟨t1,_⟩,⟨t6,_⟩,⟨t7,_⟩,⟨t8,_⟩,⟨t9,_⟩,⟨t15,_⟩,⟨t16,_⟩,_⟩:=s
  kernel_rfl
theorem ok196_3 (F:Nat) (hK:KOK Tryz.prog (ct196 )):LSOK Tryz.prog ⟨54,false,undef⟩ (ls196_3 F) (loopOf Tryz.f196 3) kr196 :=
  loop_ok (st196_3 F) mixed tt_ok hK (by kernel_rfl) (LTOK_by (l:=[loopOf Tryz.f196 6]) (by kernel_rfl) ⟨ls_at (by kernel_rfl) (ok196_6 F hK),trivial⟩) (ev196_3 F)
theorem ev196 (F:Nat) (x:Args [.v i64,.v i64,.v mat,.v mat]):fnK TT (ct196 ) kp196 [mat] [(3,ls196_3 F)] (bodyOf Tryz.f196) [.cell 8 112] [.v i64,.v i64,.v mat,.v mat] false false x = fn196 F x:=by
  obtain ⟨x0,x1,x2,x3,_⟩:=x
  kernel_rfl
theorem ok196 (hK:KOK Tryz.prog (ct196 )) (cf:G196) (h:∀ x y,cf x = some y->∃ F,fn196 F x = some y):KOne Tryz.prog 196 ⟨[.v i64,.v i64,.v mat,.v mat],[mat],false,false,0,cf⟩ :=
  fn_one rfl (c:=bodyOf Tryz.f196) mixed tt_ok hK Tryz.func196 (by kernel_rfl) (by kernel_rfl) (Nat.le_of_ble_eq_true (by kernel_rfl)) (by decide) fun x y hxy => by
    obtain ⟨F,hF⟩:=h x y hxy
    exact ⟨[(3,ls196_3 F)],LTOK_by (l:=[loopOf Tryz.f196 3]) (by kernel_rfl) ⟨ls_at (by kernel_rfl) (ok196_3 F hK),trivial⟩,(ev196 F x).trans hF⟩
abbrev R195:Type:=Ress [.bool]
abbrev G195:Type:=Args [.v (.pair i64 (.pair i64 (.pair (.slice 112 mat) .unit))),.v mat]->Option R195
abbrev kp195:List (Nat × List Nat):=[(0,[2,3]),(1,[4])]
abbrev ct195 (g232:G232):CTab:=[(232,⟨[.v (.slice 112 mat),.v mat],[.bool],false,false,0,g232⟩)]
def fn195 (g232:G232) (F:Nat) (x:Args [.v (.pair i64 (.pair i64 (.pair (.slice 112 mat) .unit))),.v mat]):Option R195 :=
  match x with
  | (x0,x1,_) => (match (g232 (x0.2.2.1,(x1,()))) with | some r5 => (some (r5.1,())) | none => none)
theorem ev195 (g232:G232) (F:Nat) (x:Args [.v (.pair i64 (.pair i64 (.pair (.slice 112 mat) .unit))),.v mat]):fnK TT (ct195 g232 ) kp195 [.bool] [] (bodyOf Tryz.f195) [.tmp 4] [.v (.pair i64 (.pair i64 (.pair (.slice 112 mat) .unit))),.v mat] false false x = fn195 g232 F x:=by
  obtain ⟨x0,x1,_⟩:=x
  kernel_rfl
theorem ok195 (g232:G232) (hK:KOK Tryz.prog (ct195 g232 )) (cf:G195) (h:∀ x y,cf x = some y->∃ F,fn195 g232 F x = some y):KOne Tryz.prog 195 ⟨[.v (.pair i64 (.pair i64 (.pair (.slice 112 mat) .unit))),.v mat],[.bool],false,false,0,cf⟩ :=
  fn_one rfl (c:=bodyOf Tryz.f195) mixed tt_ok hK Tryz.func195 (by kernel_rfl) (by kernel_rfl) (Nat.le_of_ble_eq_true (by kernel_rfl)) (by decide) fun x y hxy => by
    obtain ⟨F,hF⟩:=h x y hxy
    exact ⟨[],LTOK_by (l:=[]) (by kernel_rfl) trivial,(ev195 g232 F x).trans hF⟩
abbrev R124:Type:=Ress [.bool]
abbrev G124:Type:=Args [.v (.pair i64 (.pair i64 (.pair (.slice 112 mat) .unit)))]->Option R124
abbrev kp124:List (Nat × List Nat):=[(0,[1]),(1,[26,1]),(2,[2]),(3,[1,30,28,29]),(4,[31,29,28,30,1]),(5,[3,29,28,30,1,4]),(6,[47,29,28,30,1,4]),(7,[2]),(8,[51,4,1,49,30,28,29,50]),(9,[52,50,29,28,30,49,1,4,51]),(10,[6,50,29,28,30,49,1,4,51]),(11,[64,50,29,28,30,49,1,4,51]),(12,[2]),(13,[51,4,1,49,30,28,29,50]),(14,[1,30,28,29]),(15,[2])]
abbrev ct124 (g193:G193) (g197:G197) (g196:G196) (g195:G195) (g194:G194):CTab:=[(193,⟨[.v i64,.v i64,.v (.slice 112 mat)],[.bool],false,false,0,g193⟩),(197,⟨[.v i64],[mat],false,false,0,g197⟩),(196,⟨[.v i64,.v i64,.v mat,.v mat],[mat],false,false,0,g196⟩),(195,⟨[.v (.pair i64 (.pair i64 (.pair (.slice 112 mat) .unit))),.v mat],[.bool],false,false,0,g195⟩),(194,⟨[.v mat,.v mat],[i64],false,false,0,g194⟩)]
abbrev kr124:Env->Option R124:=endK TT [.tmp 2] [.bool] false false
abbrev sh124_9:Shape:=[(1,.box false [.fz i64 0 false,.fz i64 0 false,.fz (.slice 112 mat) 0 true]),(4,bb mat),(28,.val false [.fz (.slice 112 mat) 0 true]),(29,vv i64),(30,vv i64),(49,.val false [.fz (.slice 112 mat) 0 true]),(50,vv i64),(51,vv i64)]
def st124_9 (g193:G193) (g197:G197) (g196:G196) (g195:G195) (g194:G194) (F:Nat) (s:ShVal sh124_9) (k kx:ShVal sh124_9->Option R124):Option R124 :=
  match s with
  | ((t1_0,t1_1,t1_2,_),(t4,_),(t28,_),(t29,_),(t30,_),(t49,_),(t50,_),(t51,_),_) => (bif decide (t51 < t50) then (bif ib t51 (Int.ofNat (List.length t49)) then (match (g196 (t1_0,(t1_1,(t4,((List.getD t49 (tn t51) (Ty.dflt (.arr 3 (.arr 3 (.int .u8))))),()))))) with | some r34 => (match (g195 ((t1_0,(t1_1,(t1_2,()))),(r34.1,()))) with | some r35 => (bif (!r35.1) then (some (false,())) else k ((t1_0,(t1_1,(t1_2,()))),((t4,()),((t28,()),((t29,()),((t30,()),((t49,()),((t50,()),(((w6 (t51 + (1:Int))),()),()))))))))) | none => none) | none => none) else none) else kx ((t1_0,(t1_1,(t1_2,()))),((t4,()),((t28,()),((t29,()),((t30,()),((t49,()),((t50,()),((t51,()),())))))))))
def ru124_9 (g193:G193) (g197:G197) (g196:G196) (g195:G195) (g194:G194) (F:Nat) (s:ShVal sh124_9) (kx:ShVal sh124_9->Option R124):Option R124:=iter (fun s k => st124_9 g193 g197 g196 g195 g194 F s k kx) F s
abbrev ls124_9 (g193:G193) (g197:G197) (g196:G196) (g195:G195) (g194:G194) (F:Nat):LS R124:=⟨sh124_9,2,ru124_9 g193 g197 g196 g195 g194 F⟩
abbrev sh124_4:Shape:=[(1,.box false [.fz i64 0 false,.fz i64 0 false,.fz (.slice 112 mat) 0 true]),(28,.val false [.fz (.slice 112 mat) 0 true]),(29,vv i64),(30,vv i64)]
def st124_4 (g193:G193) (g197:G197) (g196:G196) (g195:G195) (g194:G194) (F:Nat) (s:ShVal sh124_4) (k kx:ShVal sh124_4->Option R124):Option R124 :=
  match s with
  | ((t1_0,t1_1,t1_2,_),(t28,_),(t29,_),(t30,_),_) => (bif decide (t30 < t29) then (bif ib t30 (Int.ofNat (List.length t28)) then (bif decide ((0:Int) < t30) then (bif ib (w6 (t30 - (1:Int))) (Int.ofNat (List.length t1_2)) then (match (g194 ((List.getD t1_2 (tn (w6 (t30 - (1:Int)))) (Ty.dflt (.arr 3 (.arr 3 (.int .u8))))),((List.getD t28 (tn t30) (Ty.dflt (.arr 3 (.arr 3 (.int .u8))))),()))) with | some r19 => (bif (bif true then decide ((0:Int) ≤ r19.1) else false) then (some (false,())) else (bif decide ((List.length t1_2) ≤ 9223372036854775807) then (ru124_9 g193 g197 g196 g195 g194 F ((t1_0,(t1_1,(t1_2,()))),(((List.getD t28 (tn t30) (Ty.dflt (.arr 3 (.arr 3 (.int .u8))))),()),((t28,()),((t29,()),((t30,()),((t1_2,()),(((Int.ofNat (List.length t1_2)),()),(((0:Int),()),())))))))) (fun s' => match s' with | ((t1_0,t1_1,t1_2,_),(t4,_),(t28,_),(t29,_),(t30,_),(t49,_),(t50,_),(t51,_),_) => k ((t1_0,(t1_1,(t1_2,()))),((t28,()),((t29,()),(((w6 (t30 + (1:Int))),()),())))))) else none)) | none => none) else none) else (bif decide ((List.length t1_2) ≤ 9223372036854775807) then (ru124_9 g193 g197 g196 g195 g194 F ((t1_0,(t1_1,(t1_2,()))),(((List.getD t28 (tn t30) (Ty.dflt (.arr 3 (.arr 3 (.int .u8))))),()),((t28,()),((t29,()),((t30,()),((t1_2,()),(((Int.ofNat (List.length t1_2)),()),(((0:Int),()),())))))))) (fun s' => match s' with | ((t1_0,t1_1,t1_2,_),(t4,_),(t28,_),(t29,_),(t30,_),(t49,_),(t50,_),(t51,_),_) => k ((t1_0,(t1_1,(t1_2,()))),((t28,()),((t29,()),(((w6 (t30 + (1:Int))),()),())))))) else none)) else none) else kx ((t1_0,(t1_1,(t1_2,()))),((t28,()),((t29,()),((t30,()),())))))
def ru124_4 (g193:G193) (g197:G197) (g196:G196) (g195:G195) (g194:G194) (F:Nat) (s:ShVal sh124_4) (kx:ShVal sh124_4->Option R124):Option R124:=iter (fun s k => st124_4 g193 g197 g196 g195 g194 F s k kx) F s
abbrev ls124_4 (g193:G193) (g197:G197) (g196:G196) (g195:G195) (g194:G194) (F:Nat):LS R124:=⟨sh124_4,0,ru124_4 g193 g197 g196 g195 g194 F⟩
def fn124 (g193:G193) (g197:G197) (g196:G196) (g195:G195) (g194:G194) (F:Nat) (x:Args [.v (.pair i64 (.pair i64 (.pair (.slice 112 mat) .unit)))]):Option R124 :=
  match x with
  | (x0,_) => (bif decide ((List.length x0.2.2.1) ≤ 9223372036854775807) then (bif decide ((Int.ofNat (List.length x0.2.2.1)) < (1:Int)) then (some (false,())) else (bif decide ((List.length x0.2.2.1) ≤ 9223372036854775807) then (bif (bif false then true else decide ((48:Int) < (Int.ofNat (List.length x0.2.2.1)))) then (some (false,())) else (match (g193 (x0.1,(x0.2.1,(x0.2.2.1,())))) with | some r8 => (bif (bif false then true else (!r8.1)) then (some (false,())) else (bif decide ((List.length x0.2.2.1) ≤ 9223372036854775807) then (ru124_4 g193 g197 g196 g195 g194 F ((x0.1,(x0.2.1,(x0.2.2.1,()))),((x0.2.2.1,()),(((Int.ofNat (List.length x0.2.2.1)),()),(((0:Int),()),())))) (fun s' => match s' with | ((t1_0,t1_1,t1_2,_),(t28,_),(t29,_),(t30,_),_) => (match (g197 (t1_1,())) with | some r17 => (match (g195 ((t1_0,(t1_1,(t1_2,()))),(r17.1,()))) with | some r18 => (some (r18.1,())) | none => none) | none => none))) else none)) | none => none)) else none)) else none)
theorem ev124_9 (g193:G193) (g197:G197) (g196:G196) (g195:G195) (g194:G194) (F:Nat) (s:ShVal sh124_9) (k kx:ShVal sh124_9->Option R124):evL TT (ct124 g193 g197 g196 g195 g194 ) kp124 [] (loopOf Tryz.f124 9) (envOf sh124_9 s) (fitK sh124_9 k) (fun j e => bif Nat.beq j 2 then fitK sh124_9 kx e else none) kr124 = st124_9 g193 g197 g196 g195 g194 F s k kx:=by
  obtain ⟨⟨t1_0,t1_1,t1_2,_⟩,⟨t4,_⟩,⟨t28,_⟩,⟨t29,_⟩,⟨t30,_⟩,⟨t49,_⟩,⟨t50,_⟩,⟨t51,_⟩,_⟩:=s
  kernel_rfl
theorem ok124_9 (g193:G193) (g197:G197) (g196:G196) (g195:G195) (g194:G194) (F:Nat) (hK:KOK Tryz.prog (ct124 g193 g197 g196 g195 g194 )):LSOK Tryz.prog ⟨72,false,undef⟩ (ls124_9 g193 g197 g196 g195 g194 F) (loopOf Tryz.f124 9) kr124 :=
  loop_ok (st124_9 g193 g197 g196 g195 g194 F) mixed tt_ok hK (by kernel_rfl) (LTOK_by (l:=[]) (by kernel_rfl) trivial) (ev124_9 g193 g197 g196 g195 g194 F)
theorem ev124_4 (g193:G193) (g197:G197) (g196:G196) (g195:G195) (g194:G194) (F:Nat) (s:ShVal sh124_4) (k kx:ShVal sh124_4->Option R124):evL TT (ct124 g193 g197 g196 g195 g194 ) kp124 [(9,ls124_9 g193 g197 g196 g195 g194 F)] (loopOf Tryz.f124 4) (envOf sh124_4 s) (fitK sh124_4 k) (fun j e => bif Nat.beq j 0 then fitK sh124_4 kx e else none) kr124 = st124_4 g193 g197 g196 g195 g194 F s k kx:=by
  obtain ⟨⟨t1_0,t1_1,t1_2,_⟩,⟨t28,_⟩,⟨t29,_⟩,⟨t30,_⟩,_⟩:=s
  kernel_rfl
theorem ok124_4 (g193:G193) (g197:G197) (g196:G196) (g195:G195) (g194:G194) (F:Nat) (hK:KOK Tryz.prog (ct124 g193 g197 g196 g195 g194 )):LSOK Tryz.prog ⟨72,false,undef⟩ (ls124_4 g193 g197 g196 g195 g194 F) (loopOf Tryz.f124 4) kr124 :=
  loop_ok (st124_4 g193 g197 g196 g195 g194 F) mixed tt_ok hK (by kernel_rfl) (LTOK_by (l:=[loopOf Tryz.f124 9]) (by kernel_rfl) ⟨ls_at (by kernel_rfl) (ok124_9 g193 g197 g196 g195 g194 F hK),trivial⟩) (ev124_4 g193 g197 g196 g195 g194 F)
theorem ev124 (g193:G193) (g197:G197) (g196:G196) (g195:G195) (g194:G194) (F:Nat) (x:Args [.v (.pair i64 (.pair i64 (.pair (.slice 112 mat) .unit)))]):fnK TT (ct124 g193 g197 g196 g195 g194 ) kp124 [.bool] [(4,ls124_4 g193 g197 g196 g195 g194 F)] (bodyOf Tryz.f124) [.tmp 2] [.v (.pair i64 (.pair i64 (.pair (.slice 112 mat) .unit)))] false false x = fn124 g193 g197 g196 g195 g194 F x:=by
  obtain ⟨x0,_⟩:=x
  kernel_rfl
theorem ok124 (g193:G193) (g197:G197) (g196:G196) (g195:G195) (g194:G194) (hK:KOK Tryz.prog (ct124 g193 g197 g196 g195 g194 )) (cf:G124) (h:∀ x y,cf x = some y->∃ F,fn124 g193 g197 g196 g195 g194 F x = some y):KOne Tryz.prog 124 ⟨[.v (.pair i64 (.pair i64 (.pair (.slice 112 mat) .unit)))],[.bool],false,false,0,cf⟩ :=
  fn_one rfl (c:=bodyOf Tryz.f124) mixed tt_ok hK Tryz.func124 (by kernel_rfl) (by kernel_rfl) (Nat.le_of_ble_eq_true (by kernel_rfl)) (by decide) fun x y hxy => by
    obtain ⟨F,hF⟩:=h x y hxy
    exact ⟨[(4,ls124_4 g193 g197 g196 g195 g194 F)],LTOK_by (l:=[loopOf Tryz.f124 4]) (by kernel_rfl) ⟨ls_at (by kernel_rfl) (ok124_4 g193 g197 g196 g195 g194 F hK),trivial⟩,(ev124 g193 g197 g196 g195 g194 F x).trans hF⟩
abbrev R125:Type:=Ress [(.slice 2 i64)]
abbrev G125:Type:=Args [.v (.pair i64 (.pair i64 (.pair (.slice 112 mat) .unit)))]->Option R125
abbrev kp125:List (Nat × List Nat):=[(0,[1]),(1,[3,1]),(2,[10,3,1,8,9]),(3,[11,3,10,1,8,9]),(4,[5,3,4,10,1,8,9]),(5,[21,3,4,10,1,8,9]),(6,[10,3,1,8,9]),(7,[10,3,1,8,9]),(8,[2])]
abbrev ct125 (g198:G198):CTab:=[(198,⟨[.v i64,.v i64,.v mat],[(.slice 2 i64)],true,true,0,g198⟩)]
abbrev kr125:Env->Option R125:=endK TT [.tmp 2] [(.slice 2 i64)] true false
abbrev sh125_3:Shape:=[(1,.box false [.fz i64 0 false,.fz i64 0 false,.fz (.slice 112 mat) 0 true]),(3,vr 2 i64 49 false),(8,.val false [.fz (.slice 112 mat) 0 true]),(9,vv i64),(10,vv i64)]
def st125_3 (g198:G198) (F:Nat) (s:ShVal sh125_3) (k kx:ShVal sh125_3->Option R125):Option R125 :=
  match s with
  | ((t1_0,t1_1,t1_2,_),(t3,_),(t8,_),(t9,_),(t10,_),_) => (bif decide (t10 < t9) then (bif ib t10 (Int.ofNat (List.length t8)) then (match (g198 (t1_0,(t1_1,((List.getD t8 (tn t10) (Ty.dflt (.arr 3 (.arr 3 (.int .u8))))),())))) with | some r15 => (bif (!(List.isEmpty r15.1)) then (bif (growOk (List.length t3) (List.length (t10 :: []))) then k ((t1_0,(t1_1,(t1_2,()))),(((t3 ++ (t10 :: [])),()),((t8,()),((t9,()),(((w6 (t10 + (1:Int))),()),()))))) else none) else k ((t1_0,(t1_1,(t1_2,()))),((t3,()),((t8,()),((t9,()),(((w6 (t10 + (1:Int))),()),())))))) | none => none) else none) else kx ((t1_0,(t1_1,(t1_2,()))),((t3,()),((t8,()),((t9,()),((t10,()),()))))))
def ru125_3 (g198:G198) (F:Nat) (s:ShVal sh125_3) (kx:ShVal sh125_3->Option R125):Option R125:=iter (fun s k => st125_3 g198 F s k kx) F s
abbrev ls125_3 (g198:G198) (F:Nat):LS R125:=⟨sh125_3,0,ru125_3 g198 F⟩
def fn125 (g198:G198) (F:Nat) (x:Args [.v (.pair i64 (.pair i64 (.pair (.slice 112 mat) .unit)))]):Option R125 :=
  match x with
  | (x0,_) => (bif decide ((List.length x0.2.2.1) ≤ 9223372036854775807) then (ru125_3 g198 F ((x0.1,(x0.2.1,(x0.2.2.1,()))),(([],()),((x0.2.2.1,()),(((Int.ofNat (List.length x0.2.2.1)),()),(((0:Int),()),()))))) (fun s' => match s' with | ((t1_0,t1_1,t1_2,_),(t3,_),(t8,_),(t9,_),(t10,_),_) => (some (t3,())))) else none)
theorem ev125_3 (g198:G198) (F:Nat) (s:ShVal sh125_3) (k kx:ShVal sh125_3->Option R125):evL TT (ct125 g198 ) kp125 [] (loopOf Tryz.f125 3) (envOf sh125_3 s) (fitK sh125_3 k) (fun j e => bif Nat.beq j 0 then fitK sh125_3 kx e else none) kr125 = st125_3 g198 F s k kx:=by
  obtain ⟨⟨t1_0,t1_1,t1_2,_⟩,⟨t3,_⟩,⟨t8,_⟩,⟨t9,_⟩,⟨t10,_⟩,_⟩:=s
  kernel_rfl
theorem ok125_3 (g198:G198) (F:Nat) (hK:KOK Tryz.prog (ct125 g198 )):LSOK Tryz.prog ⟨28,false,undef⟩ (ls125_3 g198 F) (loopOf Tryz.f125 3) kr125 :=
  loop_ok (st125_3 g198 F) mixed tt_ok hK (by kernel_rfl) (LTOK_by (l:=[]) (by kernel_rfl) trivial) (ev125_3 g198 F)
theorem ev125 (g198:G198) (F:Nat) (x:Args [.v (.pair i64 (.pair i64 (.pair (.slice 112 mat) .unit)))]):fnK TT (ct125 g198 ) kp125 [(.slice 2 i64)] [(3,ls125_3 g198 F)] (bodyOf Tryz.f125) [.tmp 2] [.v (.pair i64 (.pair i64 (.pair (.slice 112 mat) .unit)))] true false x = fn125 g198 F x:=by
  obtain ⟨x0,_⟩:=x
  kernel_rfl
theorem ok125 (g198:G198) (hK:KOK Tryz.prog (ct125 g198 )) (cf:G125) (h:∀ x y,cf x = some y->∃ F,fn125 g198 F x = some y):KOne Tryz.prog 125 ⟨[.v (.pair i64 (.pair i64 (.pair (.slice 112 mat) .unit)))],[(.slice 2 i64)],true,false,0,cf⟩ :=
  fn_one rfl (c:=bodyOf Tryz.f125) mixed tt_ok hK Tryz.func125 (by kernel_rfl) (by kernel_rfl) (Nat.le_of_ble_eq_true (by kernel_rfl)) (by decide) fun x y hxy => by
    obtain ⟨F,hF⟩:=h x y hxy
    exact ⟨[(3,ls125_3 g198 F)],LTOK_by (l:=[loopOf Tryz.f125 3]) (by kernel_rfl) ⟨ls_at (by kernel_rfl) (ok125_3 g198 F hK),trivial⟩,(ev125 g198 F x).trans hF⟩
theorem iter_all_go {S α : Type} {step:S->(S->Option α)->Option α} {r0 r1:Option α} {f:Nat->Bool} {N:Nat} {st:Nat->S} (hs:∀ i,i < N->∀ k,step (st i) k = bif f i then k (st (i + 1)) else r0) (he:∀ k,step (st N) k = r1) :
    ∀ (m i F:Nat),i + m = N->m < F->iter step F (st i) = bif (List.range' i m).all f then r1 else r0
  | 0,i,F,hi,hF => by
    obtain ⟨F,rfl⟩:∃ n,F = n + 1:=⟨F - 1,by omega⟩
    have:i = N:=by omega
    subst this
    simp only [iter,he,List.range'_zero,List.all_nil,cond_true]
  | m + 1,i,F,hi,hF => by
    obtain ⟨F,rfl⟩:∃ n,F = n + 1:=⟨F - 1,by omega⟩
    simp only [iter]
    rw [hs i (by omega),iter_all_go hs he m (i + 1) F (by omega) (by omega),List.range'_succ,List.all_cons]
    cases f i <;> simp
theorem iter_all {S α : Type} {step:S->(S->Option α)->Option α} {r0 r1:Option α} {f:Nat->Bool} {N:Nat} {st:Nat->S} (hs:∀ i,i < N->∀ k,step (st i) k = bif f i then k (st (i + 1)) else r0) (he:∀ k,step (st N) k = r1) (F:Nat) (hF:N < F) :
    iter step F (st 0) = bif (List.range N).all f then r1 else r0:=by
  rw [iter_all_go hs he N 0 F (by omega) hF,List.range_eq_range']
theorem all_range {α : Type} {f : α->Bool} {d : α}:∀ (l:List α),(List.range l.length).all (fun i => f (l.getD i d)) = l.all f:=fun l => by
  rw [Bool.eq_iff_iff,List.all_eq_true,List.all_eq_true]
  constructor
  · intro h x hx
    obtain ⟨i,hi,rfl⟩:=List.mem_iff_getElem.1 hx
    have:=h i (List.mem_range.2 hi)
    rwa [List.getD_eq_getElem?_getD,List.getElem?_eq_getElem hi,Option.getD_some] at this
  · intro h i hi
    have hi:=List.mem_range.1 hi
    rw [List.getD_eq_getElem?_getD,List.getElem?_eq_getElem hi,Option.getD_some]
    exact h _ (List.getElem_mem hi)
theorem all_and {α : Type} {f g : α->Bool}:∀ (l:List α),l.all (fun i => f i && g i) = (l.all f && l.all g)
  | [] => rfl
  | x :: r => by simp only [List.all_cons,all_and r]; cases f x <;> cases g x <;> simp
abbrev DM:Mat:=Ty.dflt mat
def row3 (a b c:Int):ex.den:=(a,b,c,())
def mat3 (a b c:ex.den):Mat:=(a,b,c,())
def uniM (n:Int):Mat:=if n = 1 then mat3 (row3 1 0 0) (row3 0 0 0) (row3 0 0 0) else if n = 2 then mat3 (row3 1 0 0) (row3 0 1 0) (row3 0 0 0) else mat3 (row3 1 0 0) (row3 0 1 0) (row3 0 0 1)
def cf141:G187:=fn187 5
theorem k141:KOne Tryz.prog 187 ⟨[.v i64],[mat],false,false,0,cf141⟩:=ok187 .nil cf141 fun x y h => ⟨5,h⟩
theorem g141_ok {n:Int} (hn:n = 1 ∨ n = 2 ∨ n = 3):cf141 (n,()) = some (uniM n,()):=by rcases hn with rfl | rfl | rfl <;> kernel_rfl
def cf165:G197:=fn197 5
theorem k165:KOne Tryz.prog 197 ⟨[.v i64],[mat],false,false,0,cf165⟩:=ok197 .nil cf165 fun x y h => ⟨5,h⟩
theorem g165_ok {n:Int} (hn:n = 1 ∨ n = 2 ∨ n = 3):cf165 (n,()) = some (uniM n,()):=by rcases hn with rfl | rfl | rfl <;> kernel_rfl
def nzN (p:Int):Nat->Option (Mat × Unit)->Option (Mat × Unit)
  | 0,x => x
  | k + 1,x => bif !decide (p = 0) then nzN p k x else none
theorem nzN_ok {p:Int} (h:p ≠ 0):∀ {k:Nat} {x:Option (Mat × Unit)},nzN p k x = x
  | 0,_ => rfl
  | k + 1,x => by simp only [nzN,deq_f h,Bool.not_false,cond_true]; exact nzN_ok h
def adW (t a b:Int):Int:=w6 (t + w6 (w6 a * w6 b))
def s1W (g h:Mat) (i j:Nat):Int:=adW 0 (me g i 0) (me h 0 j)
def s2W (g h:Mat) (i j:Nat):Int:=adW (s1W g h i j) (me g i 1) (me h 1 j)
def s3W (g h:Mat) (i j:Nat):Int:=adW (s2W g h i j) (me g i 2) (me h 2 j)
def mdW (p x:Int):Int:=w8 (Int.tmod x p)
def tim1 (p:Int) (g h:Mat):Mat:=mat3 (row3 (mdW p (s1W g h 0 0)) 0 0) (row3 0 0 0) (row3 0 0 0)
def tim2 (p:Int) (g h:Mat):Mat:=mat3 (row3 (mdW p (s2W g h 0 0)) (mdW p (s2W g h 0 1)) 0) (row3 (mdW p (s2W g h 1 0)) (mdW p (s2W g h 1 1)) 0) (row3 0 0 0)
def tim3 (p:Int) (g h:Mat):Mat:=mat3 (row3 (mdW p (s3W g h 0 0)) (mdW p (s3W g h 0 1)) (mdW p (s3W g h 0 2))) (row3 (mdW p (s3W g h 1 0)) (mdW p (s3W g h 1 1)) (mdW p (s3W g h 1 2))) (row3 (mdW p (s3W g h 2 0)) (mdW p (s3W g h 2 1)) (mdW p (s3W g h 2 2)))
def timW (p n:Int) (g h:Mat):Mat:=if n = 1 then tim1 p g h else if n = 2 then tim2 p g h else tim3 p g h
theorem e140_1 (p:Int) (g h:Mat):fn186 5 (p,(1:Int),g,h,()) = nzN p 1 (some (tim1 p g h,())):=by kernel_rfl
theorem e140_2 (p:Int) (g h:Mat):fn186 5 (p,(2:Int),g,h,()) = nzN p 4 (some (tim2 p g h,())):=by kernel_rfl
theorem e140_3 (p:Int) (g h:Mat):fn186 5 (p,(3:Int),g,h,()) = nzN p 9 (some (tim3 p g h,())):=by kernel_rfl
theorem e164_1 (p:Int) (g h:Mat):fn196 5 (p,(1:Int),g,h,()) = nzN p 1 (some (tim1 p g h,())):=by kernel_rfl
theorem e164_2 (p:Int) (g h:Mat):fn196 5 (p,(2:Int),g,h,()) = nzN p 4 (some (tim2 p g h,())):=by kernel_rfl
theorem e164_3 (p:Int) (g h:Mat):fn196 5 (p,(3:Int),g,h,()) = nzN p 9 (some (tim3 p g h,())):=by kernel_rfl
def cf140:G186:=fn186 5
theorem k140:KOne Tryz.prog 186 ⟨[.v i64,.v i64,.v mat,.v mat],[mat],false,false,0,cf140⟩:=ok186 .nil cf140 fun x y h => ⟨5,h⟩
def cf164:G196:=fn196 5
theorem k164:KOne Tryz.prog 196 ⟨[.v i64,.v i64,.v mat,.v mat],[mat],false,false,0,cf164⟩:=ok196 .nil cf164 fun x y h => ⟨5,h⟩
theorem g140_ok {p n:Int} {g h:Mat} (hp:p ≠ 0) (hn:n = 1 ∨ n = 2 ∨ n = 3):cf140 (p,n,g,h,()) = some (timW p n g h,()):=by
  rcases hn with rfl | rfl | rfl
  · exact (e140_1 p g h).trans (nzN_ok hp)
  · exact (e140_2 p g h).trans (nzN_ok hp)
  · exact (e140_3 p g h).trans (nzN_ok hp)
theorem g164_ok {p n:Int} {g h:Mat} (hp:p ≠ 0) (hn:n = 1 ∨ n = 2 ∨ n = 3):cf164 (p,n,g,h,()) = some (timW p n g h,()):=by
  rcases hn with rfl | rfl | rfl
  · exact (e164_1 p g h).trans (nzN_ok hp)
  · exact (e164_2 p g h).trans (nzN_ok hp)
  · exact (e164_3 p g h).trans (nzN_ok hp)
def bfB (x y:Int) (r:Option (Bool × Unit)):Option (Bool × Unit):=bif !decide (x = y) then some (decide (x < y),()) else r
theorem e138 (a b:Mat):fn184 5 (a,b,()) = bfB (me a 0 0) (me b 0 0) (bfB (me a 0 1) (me b 0 1) (bfB (me a 0 2) (me b 0 2) (bfB (me a 1 0) (me b 1 0) (bfB (me a 1 1) (me b 1 1) (bfB (me a 1 2) (me b 1 2) (bfB (me a 2 0) (me b 2 0) (bfB (me a 2 1) (me b 2 1) (bfB (me a 2 2) (me b 2 2) (some (false,())))))))))):=by kernel_rfl
theorem bfB3 {x0 x1 x2 y0 y1 y2:Int} {r:Option (Bool × Unit)} (a0 : 0 ≤ x0 ∧ x0 ≤ 255) (a1 : 0 ≤ x1 ∧ x1 ≤ 255) (a2 : 0 ≤ x2 ∧ x2 ≤ 255) (b0 : 0 ≤ y0 ∧ y0 ≤ 255) (b1 : 0 ≤ y1 ∧ y1 ≤ 255) (b2 : 0 ≤ y2 ∧ y2 ≤ 255) :
    bfB x0 y0 (bfB x1 y1 (bfB x2 y2 r)) = bfB (65536 * x0 + 256 * x1 + x2) (65536 * y0 + 256 * y1 + y2) r:=by
  unfold bfB
  by_cases h0:x0 = y0
  · by_cases h1:x1 = y1
    · by_cases h2:x2 = y2
      · rw [deq_t h0,deq_t h1,deq_t h2,deq_t (by omega)]; rfl
      · rw [deq_t h0,deq_t h1,deq_f h2,deq_f (by omega)]
        simp only [Bool.not_true,Bool.not_false,cond_false,cond_true]
        congr 2; rw [decide_eq_decide]; omega
    · rw [deq_t h0,deq_f h1,deq_f (show 65536 * x0 + 256 * x1 + x2 ≠ 65536 * y0 + 256 * y1 + y2 by omega)]
      simp only [Bool.not_true,Bool.not_false,cond_false,cond_true]
      congr 2; rw [decide_eq_decide]; omega
  · rw [deq_f h0,deq_f (show 65536 * x0 + 256 * x1 + x2 ≠ 65536 * y0 + 256 * y1 + y2 by omega)]
    simp only [Bool.not_true,Bool.not_false,cond_false,cond_true]
    congr 2; rw [decide_eq_decide]; omega
theorem okMc_of {g:Mat} (h:okM g = true):okMc g:=fun i j => me_rng h i j
def cf138:G184:=fn184 5
theorem k138:KOne Tryz.prog 184 ⟨[.v mat,.v mat],[.bool],false,false,0,cf138⟩:=ok184 .nil cf138 fun x y h => ⟨5,h⟩
theorem g138_ok {a b:Mat} (ha:okM a = true) (hb:okM b = true):cf138 (a,b,()) = some (decide (keyM a < keyM b),()):=by
  have r:=me_rng ha
  have s:=me_rng hb
  rw [show cf138 (a,b,()) = fn184 5 (a,b,()) from rfl,e138,bfB3 (r 2 0) (r 2 1) (r 2 2) (s 2 0) (s 2 1) (s 2 2),bfB3 (r 1 0) (r 1 1) (r 1 2) (s 1 0) (s 1 1) (s 1 2),bfB3 (r 0 0) (r 0 1) (r 0 2) (s 0 0) (s 0 1) (s 0 2)]
  change bfB (rkM a 0) (rkM b 0) (bfB (rkM a 1) (rkM b 1) (bfB (rkM a 2) (rkM b 2) _)) = _
  have r0:=rkM_rng (okMc_of ha) 0; have r1:=rkM_rng (okMc_of ha) 1; have r2:=rkM_rng (okMc_of ha) 2
  have t0:=rkM_rng (okMc_of hb) 0; have t1:=rkM_rng (okMc_of hb) 1; have t2:=rkM_rng (okMc_of hb) 2
  unfold bfB keyM
  by_cases h0:rkM a 0 = rkM b 0
  · by_cases h1:rkM a 1 = rkM b 1
    · by_cases h2:rkM a 2 = rkM b 2
      · rw [deq_t h0,deq_t h1,deq_t h2]
        simp only [Bool.not_true,cond_false]
        congr 2; rw [eq_comm,decide_eq_false_iff_not]; omega
      · rw [deq_t h0,deq_t h1,deq_f h2]
        simp only [Bool.not_true,Bool.not_false,cond_false,cond_true]
        congr 2; rw [decide_eq_decide]; omega
    · rw [deq_t h0,deq_f h1]
      simp only [Bool.not_true,Bool.not_false,cond_false,cond_true]
      congr 2; rw [decide_eq_decide]; omega
  · rw [deq_f h0]
    simp only [Bool.not_true,Bool.not_false,cond_false,cond_true]
    congr 2; rw [decide_eq_decide]; omega
def fndI (m:Mat) (L:List Mat):Int:=if m ∈ L then (fstM m L:Int) else -1
theorem run139 {m:Mat} {F0 N:Nat}:∀ (r pre:List Mat) (F:Nat),r.length < F->(pre ++ r).length = N->N ≤ 2000000 →
    iter (fun s k => st185_2 F0 s k (fun s' => match s' with | ((t0,_),(t3,_),(t5,_),_) => (some ((-(1:Int)),())))) F ((pre ++ r,()),((m,()),(((pre.length:Int),()),()))) = some (if m ∈ r then ((pre.length + fstM m r:Nat):Int) else -1,())
  | [],pre,F,hF,hl,hN => by
    obtain ⟨F,rfl⟩:∃ f,F = f + 1:=⟨F - 1,by simp at hF; omega⟩
    rw [List.append_nil] at hl ⊢
    simp only [iter,st185_2]
    simp (disch:=omega) only [dln_t,cond_true,ofn,dlt_f,cond_false]
    simp
  | x :: r,pre,F,hF,hl,hN => by
    obtain ⟨F,rfl⟩:∃ f,F = f + 1:=⟨F - 1,by simp at hF; omega⟩
    have l1:pre.length < (pre ++ x :: r).length:=by simp
    have g1:∀ dd,(pre ++ x :: r).getD pre.length dd = x:=fun dd => getD_pre
    have ih:=run139 (m:=m) (F0:=F0) r (pre ++ [x]) F (by simp at hF; omega) (by simpa using hl) hN
    simp only [List.append_assoc,List.singleton_append,List.length_append,List.length_singleton] at ih
    simp only [iter,st185_2]
    simp (disch:=omega) only [dln_t,cond_true,ofn,dlt_t,ib_t,tn_cast,w6_id,g1]
    by_cases q:x = m
    · subst q
      rw [show Ty.eqd (.arr 3 (.arr 3 (.int .u8))) x x = true from eqdM.2 rfl,cond_true]
      simp [fstM]
    · rw [show Ty.eqd (.arr 3 (.arr 3 (.int .u8))) x m = false from Bool.eq_false_iff.2 fun h => q (eqdM.1 h),cond_false]
      refine ih.trans ?_
      have:m ∈ x :: r ↔ m ∈ r:=by simp [Ne.symm q]
      simp only [this,fstM,if_neg (Ne.symm q)]
      split
      · congr 2; omega
      · rfl
def cf139:G185:=fun x => if (show List Mat from x.1).length ≤ 2000000 then some (fndI x.2.1 x.1,()) else none
theorem k139:KOne Tryz.prog 185 ⟨[.v (.slice 112 mat),.v mat],[i64],false,false,0,cf139⟩:=ok185 .nil cf139 fun x y h => by
  obtain ⟨L,m,_⟩:=x
  change List Mat at L
  simp only [cf139] at h
  split at h
  · rename_i hc
    injection h with h; subst h
    refine ⟨L.length + 1,?_⟩
    have:=run139 (m:=m) (F0:=L.length + 1) (N:=L.length) L [] (L.length + 1) (by omega) (by simp) hc
    simp only [List.nil_append,List.length_nil,Nat.zero_add] at this
    exact this
  · cases h
theorem g139_ok {m:Mat} {L:List Mat} (h:L.length ≤ 2000000):cf139 (L,m,()) = some (fndI m L,()):=if_pos h
theorem fndI_neg {m:Mat} {L:List Mat}:decide (fndI m L < 0) = !decide (m ∈ L):=by
  unfold fndI
  by_cases h:m ∈ L
  · rw [if_pos h,decide_eq_true h,dlt_f (by omega)]; rfl
  · rw [if_neg h,decide_eq_false h]; rfl
theorem fndI_nn {m:Mat} {L:List Mat}:decide (0 ≤ fndI m L) = decide (m ∈ L):=by
  unfold fndI
  by_cases h:m ∈ L
  · rw [if_pos h,decide_eq_true h,dle_t (by omega)]
  · rw [if_neg h,decide_eq_false h]; rfl
def cf163:G195:=fun x => if (els x.1).length ≤ 2000000 then some (decide ((show Mat from x.2.1) ∈ els x.1),()) else none
theorem k163:KOne Tryz.prog 195 ⟨[.v (.pair i64 (.pair i64 (.pair (.slice 112 mat) .unit))),.v mat],[.bool],false,false,0,cf163⟩:=ok195 _ (.cons k180 .nil) cf163 fun x y h => by
  obtain ⟨⟨p,n,L,_⟩,m,_⟩:=x
  change List Mat at L
  simp only [cf163] at h
  split at h
  · rename_i hc
    injection h with h; subst h
    have g:cf180 (L,m,()) = some (decide ((show Mat from m) ∈ L),()):=if_pos hc
    exact ⟨0,by simp only [fn195,g]; rfl⟩
  · cases h
theorem g163_ok {p n:Int} {L:List Mat} {m:Mat} (h:L.length ≤ 2000000):cf163 ((p,n,L,()),m,()) = some (decide (m ∈ L),()):=if_pos h
def atM (L:List Mat) (i:Nat):Mat:=L.getD i DM
def srtB' (L:List Mat) (i:Nat):Bool:=decide (i = 0) || decide (keyM (atM L (i - 1)) < keyM (atM L i))
def cloB (p n:Int) (L:List Mat) (i j:Nat):Bool:=decide (timW p n (atM L i) (atM L j) ∈ L)
def grB (g:Gr):Bool :=
  (isP g.1 && inR g.2.1) && (decide ((1:Int) ≤ (els g).length) && decide (((els g).length:Int) ≤ 48)) && ((List.range (els g).length).all fun i => matB g.1 g.2.1 (atM (els g) i)) && ((List.range (els g).length).all fun i => srtB' (els g) i) &&
    ((List.range (els g).length).all fun i => (List.range (els g).length).all fun j => cloB g.1 g.2.1 (els g) i j) && decide (uniM g.2.1 ∈ els g)
theorem okM_at {L:List Mat} (h:L.all okM = true) {i:Nat} (hi:i < L.length):okM (atM L i) = true:=by
  unfold atM
  rw [List.getD_eq_getElem?_getD,List.getElem?_eq_getElem hi,Option.getD_some]
  exact List.all_eq_true.1 h _ (List.getElem_mem hi)
theorem g82_ok (p:Int):cf82 (p,()) = some (isP p,()):=rfl
theorem g73_ok (x lo hi:Int):cf73 (x,lo,hi,()) = some (decide (lo ≤ x) && decide (x ≤ hi),()):=rfl
theorem a1_72 {p n:Int} {L:List Mat} (ho:L.all okM = true) (hl:L.length ≤ 48) {F0:Nat} {kx:ShVal sh118_4->Option R118} (F:Nat) (hF:L.length < F) :
    iter (fun s k => st118_4 cf82 cf73 cf140 cf139 cf141 cf138 cf58 F0 s k kx) F ((p,n,L,()),(((0:Int),()),())) = bif (List.range L.length).all (fun i => matB p n (atM L i) && srtB' L i) then kx ((p,n,L,()),(((L.length:Int),()),())) else some (false,()) :=
  iter_all (st:=fun i => ((p,n,L,()),(((i:Int),()),()))) (fun i hi k => by
    have g1:cf58 (p,n,L.getD i (Ty.dflt mat),()) = some (matB p n (atM L i),()):=g58_ok (okM_at ho hi)
    simp only [st118_4]
    simp (disch:=omega) only [dln_t,cond_true,ofn,dlt_t,ib_t,tn_cast,w6_id]
    rw [g1]
    simp only
    cases matB p n (atM L i) with
    | false => rfl
    | true =>
      simp only [Bool.not_true,cond_false,Bool.true_and]
      by_cases h0:i = 0
      · subst h0
        rw [dlt_f (by omega)]; rfl
      · rw [dlt_t (by omega),cond_true]
        simp (disch:=omega) only [ib_t,cond_true]
        have e:tn ((i:Int) - 1) = i - 1:=by show ((i:Int) - 1).toNat = _; omega
        rw [e]
        have g2:cf138 (L.getD (i - 1) (Ty.dflt mat),L.getD i (Ty.dflt mat),()) = some (decide (keyM (atM L (i - 1)) < keyM (atM L i)),()):=g138_ok (okM_at ho (by omega)) (okM_at ho hi)
        rw [g2]
        simp only [srtB',decide_eq_false h0,Bool.false_or]
        cases decide (keyM (atM L (i - 1)) < keyM (atM L i)) <;> rfl) (fun k => by
    simp only [st118_4]
    simp (disch:=omega) only [dln_t,cond_true,ofn,dlt_f,cond_false]) F hF
theorem a2_72 {p n:Int} {L:List Mat} (hp:p ≠ 0) (hn:n = 1 ∨ n = 2 ∨ n = 3) (hl:L.length ≤ 48) {i:Nat} (hi:i < L.length) {F0:Nat} {kx:ShVal sh118_12->Option R118} (F:Nat) (hF:L.length < F) :
    iter (fun s k => st118_12 cf82 cf73 cf140 cf139 cf141 cf138 cf58 F0 s k kx) F ((p,n,L,()),((((i:Nat):Int),()),(((0:Int),()),()))) = bif (List.range L.length).all (fun j => cloB p n L i j) then kx ((p,n,L,()),(((i:Int),()),(((L.length:Int),()),()))) else some (false,()) :=
  iter_all (st:=fun j => ((p,n,L,()),(((i:Int),()),(((j:Int),()),())))) (fun j hj k => by
    simp only [st118_12]
    simp (disch:=omega) only [dln_t,cond_true,ofn,dlt_t,ib_t,tn_cast,w6_id]
    have g1:cf140 (p,n,L.getD i (Ty.dflt mat),L.getD j (Ty.dflt mat),()) = some (timW p n (atM L i) (atM L j),()):=g140_ok hp hn
    rw [g1]
    simp only
    rw [g139_ok (by omega)]
    simp only
    rw [fndI_neg]
    change (bif !cloB p n L i j then _ else _) = _
    cases cloB p n L i j <;> rfl) (fun k => by
    simp only [st118_12]
    simp (disch:=omega) only [dln_t,cond_true,ofn,dlt_f,cond_false]) F hF
theorem a3_72 {p n:Int} {L:List Mat} (hp:p ≠ 0) (hn:n = 1 ∨ n = 2 ∨ n = 3) (hl:L.length ≤ 48) {F0:Nat} (hF0:L.length < F0) {kx:ShVal sh118_9->Option R118} (F:Nat) (hF:L.length < F) :
    iter (fun s k => st118_9 cf82 cf73 cf140 cf139 cf141 cf138 cf58 F0 s k kx) F ((p,n,L,()),(((0:Int),()),())) = bif (List.range L.length).all (fun i => (List.range L.length).all fun j => cloB p n L i j) then kx ((p,n,L,()),(((L.length:Int),()),())) else some (false,()) :=
  iter_all (st:=fun i => ((p,n,L,()),(((i:Int),()),()))) (fun i hi k => by
    simp only [st118_9,ru118_12]
    simp (disch:=omega) only [dln_t,cond_true,ofn,dlt_t]
    rw [a2_72 hp hn hl hi F0 hF0]
    simp (disch:=omega) only [w6_id]
    rfl) (fun k => by
    simp only [st118_9]
    simp (disch:=omega) only [dln_t,cond_true,ofn,dlt_f,cond_false]) F hF
theorem isP_ne {p:Int} (h:isP p = true):p ≠ 0:=by have:=isP_pos h; omega
noncomputable def cf72:G118:=fun x => if (els x.1).all okM = true ∧ (els x.1).length ≤ 2000000 then some (grB x.1,()) else none
theorem k72:KOne Tryz.prog 118 ⟨[.v (.pair i64 (.pair i64 (.pair (.slice 112 mat) .unit)))],[.bool],false,false,0,cf72⟩:=ok118 _ _ _ _ _ _ _ (.cons k82 (.cons k73 (.cons k140 (.cons k139 (.cons k141 (.cons k138 (.cons k58 .nil))))))) cf72 fun x y h => by
  obtain ⟨⟨p,n,L,_⟩,_⟩:=x
  change List Mat at L
  change Int at p
  change Int at n
  simp only [cf72] at h
  split at h
  · rename_i hc
    injection h with h; subst h
    have ho:L.all okM = true:=hc.1
    have hl:L.length ≤ 2000000:=hc.2
    refine ⟨L.length + 1,?_⟩
    simp only [fn118]
    simp (disch:=omega) only [dln_t,cond_true,ofn]
    rw [g82_ok p,g73_ok n 1 3]
    simp only
    change _ = some ((isP p && inR n) && (decide ((1:Int) ≤ (L.length:Int)) && decide ((L.length:Int) ≤ 48)) && ((List.range L.length).all fun i => matB p n (atM L i)) && ((List.range L.length).all fun i => srtB' L i) && ((List.range L.length).all fun i => (List.range L.length).all fun j => cloB p n L i j) && decide (uniM n ∈ L),())
    cases hP:isP p with
    | false => rfl
    | true =>
      simp only [Bool.not_true,cond_false,Bool.true_and]
      change (bif !(inR n) then _ else _) = _
      cases hR:inR n with
      | false => rfl
      | true =>
        simp only [Bool.not_true,cond_false,Bool.true_and]
        by_cases h1:(L.length:Int) < 1
        · rw [dlt_t h1,dle_f (show (L.length:Int) < 1 from h1)]; rfl
        · rw [dlt_f (show (1:Int) ≤ L.length by omega),dle_t (show (1:Int) ≤ L.length by omega)]
          simp only [cond_false,Bool.true_and]
          by_cases h2:(48:Int) < L.length
          · rw [dlt_t h2,dle_f h2]; rfl
          · rw [dlt_f (show (L.length:Int) ≤ 48 by omega),dle_t (show (L.length:Int) ≤ 48 by omega)]
            simp only [cond_false,Bool.true_and]
            simp only [ru118_4,ru118_9]
            rw [a1_72 ho (by omega) _ (by omega),all_and]
            cases ((List.range L.length).all fun i => matB p n (atM L i)) with
            | false => rfl
            | true =>
              cases ((List.range L.length).all fun i => srtB' L i) with
              | false => rfl
              | true =>
                simp only [Bool.and_self,cond_true,Bool.true_and]
                rw [a3_72 (isP_ne hP) (inR_cases hR) (by omega) (by omega) _ (by omega)]
                cases ((List.range L.length).all fun i => (List.range L.length).all fun j => cloB p n L i j) with
                | false => rfl
                | true =>
                  simp only [cond_true,Bool.true_and]
                  rw [g141_ok (inR_cases hR)]
                  simp only
                  rw [g139_ok (by omega)]
                  simp only
                  rw [fndI_nn]
  · cases h
theorem g72_ok {g:Gr} (h1:(els g).all okM = true) (h2:(els g).length ≤ 2000000):cf72 (g,()) = some (grB g,()):=if_pos ⟨h1,h2⟩
theorem cmp_nn {A B:Mat}:decide ((0:Int) ≤ cmpM A B) = !decide (keyM A < keyM B):=by
  unfold cmpM sgn
  split
  · rename_i h; rw [decide_eq_true h]; rfl
  · rename_i h; rw [decide_eq_false h]; split <;> rfl
theorem g162_ok {A B:Mat} (ha:okM A = true) (hb:okM B = true):cf162 (A,B,()) = some (cmpM A B,()):=if_pos ⟨okMc_of ha,okMc_of hb⟩
theorem a2_127 {p n:Int} {L:List Mat} {g61:G193} {g165:G197} {g162:G194} (hp:p ≠ 0) (hn:n = 1 ∨ n = 2 ∨ n = 3) (hl:L.length ≤ 48) {i:Nat} {F0:Nat} {kx:ShVal sh124_9->Option R124} (F:Nat) (hF:L.length < F) :
    iter (fun s k => st124_9 g61 g165 cf164 cf163 g162 F0 s k kx) F ((p,n,L,()),((atM L i,()),((L,()),(((L.length:Int),()),(((i:Int),()),((L,()),(((L.length:Int),()),(((0:Int),()),())))))))) =
      bif (List.range L.length).all (fun j => cloB p n L i j) then kx ((p,n,L,()),((atM L i,()),((L,()),(((L.length:Int),()),(((i:Int),()),((L,()),(((L.length:Int),()),(((L.length:Int),()),())))))))) else some (false,()) :=
  iter_all (st:=fun j => ((p,n,L,()),((atM L i,()),((L,()),(((L.length:Int),()),(((i:Int),()),((L,()),(((L.length:Int),()),(((j:Int),()),()))))))))) (fun j hj k => by
    simp only [st124_9]
    simp (disch:=omega) only [cond_true,ofn,dlt_t,ib_t,tn_cast,w6_id]
    have g1:cf164 (p,n,atM L i,L.getD j (Ty.dflt mat),()) = some (timW p n (atM L i) (atM L j),()):=g164_ok hp hn
    rw [g1]
    simp only
    rw [g163_ok (by omega)]
    simp only
    change (bif !cloB p n L i j then _ else _) = _
    cases cloB p n L i j <;> rfl) (fun k => by
    simp only [st124_9]
    simp (disch:=omega) only [ofn,dlt_f,cond_false]) F hF
theorem a1_127 {p n:Int} {L:List Mat} {g61:G193} {g165:G197} (hp:p ≠ 0) (hn:n = 1 ∨ n = 2 ∨ n = 3) (ho:L.all okM = true) (hl:L.length ≤ 48) {F0:Nat} (hF0:L.length < F0) {kx:ShVal sh124_4->Option R124} (F:Nat) (hF:L.length < F) :
    iter (fun s k => st124_4 g61 g165 cf164 cf163 cf162 F0 s k kx) F ((p,n,L,()),((L,()),(((L.length:Int),()),(((0:Int),()),())))) =
      bif (List.range L.length).all (fun i => srtB' L i && (List.range L.length).all fun j => cloB p n L i j) then kx ((p,n,L,()),((L,()),(((L.length:Int),()),(((L.length:Int),()),())))) else some (false,()) :=
  iter_all (st:=fun i => ((p,n,L,()),((L,()),(((L.length:Int),()),(((i:Int),()),()))))) (fun i hi k => by
    simp only [st124_4,ru124_9]
    simp (disch:=omega) only [dln_t,cond_true,ofn,dlt_t,ib_t,tn_cast,w6_id]
    have in2:=a2_127 (g61:=g61) (g165:=g165) (g162:=cf162) (i:=i) hp hn hl (F0:=F0) (kx:=fun s' => match s' with | ((t1_0,t1_1,t1_2,_),(t4,_),(t28,_),(t29,_),(t30,_),(t49,_),(t50,_),(t51,_),_) => k ((t1_0,(t1_1,(t1_2,()))),((t28,()),((t29,()),(((w6 (t30 + (1:Int))),()),()))))) F0 hF0
    by_cases h0:i = 0
    · subst h0
      rw [dlt_f (by omega),cond_false]
      refine in2.trans ?_
      simp (disch:=omega) only [w6_id]
      rfl
    · rw [dlt_t (by omega),cond_true]
      simp (disch:=omega) only [ib_t,cond_true]
      have e:tn ((i:Int) - 1) = i - 1:=by show ((i:Int) - 1).toNat = _; omega
      rw [e]
      have g2:cf162 (L.getD (i - 1) (Ty.dflt mat),L.getD i (Ty.dflt mat),()) = some (cmpM (atM L (i - 1)) (atM L i),()):=g162_ok (okM_at ho (by omega)) (okM_at ho hi)
      rw [g2]
      simp only
      rw [cmp_nn]
      simp only [srtB',decide_eq_false h0,Bool.false_or]
      cases decide (keyM (atM L (i - 1)) < keyM (atM L i)) with
      | false => rfl
      | true =>
        simp only [Bool.not_true,cond_false,Bool.true_and]
        refine in2.trans ?_
        simp (disch:=omega) only [w6_id]
        rfl) (fun k => by
    simp only [st124_4]
    simp (disch:=omega) only [ofn,dlt_f,cond_false]) F hF
noncomputable def cf127:G124:=fun x => if (els x.1).all okM = true ∧ (els x.1).length ≤ 2000000 then some (grB x.1,()) else none
theorem k127:KOne Tryz.prog 124 ⟨[.v (.pair i64 (.pair i64 (.pair (.slice 112 mat) .unit)))],[.bool],false,false,0,cf127⟩:=ok124 _ _ _ _ _ (.cons k61 (.cons k165 (.cons k164 (.cons k163 (.cons k162 .nil))))) cf127 fun x y h => by
  obtain ⟨⟨p,n,L,_⟩,_⟩:=x
  change List Mat at L
  change Int at p
  change Int at n
  simp only [cf127] at h
  split at h
  · rename_i hc
    injection h with h; subst h
    have ho:L.all okM = true:=hc.1
    have hl:L.length ≤ 2000000:=hc.2
    refine ⟨L.length + 1,?_⟩
    simp only [fn124]
    simp (disch:=omega) only [dln_t,cond_true,ofn]
    change _ = some ((isP p && inR n) && (decide ((1:Int) ≤ (L.length:Int)) && decide ((L.length:Int) ≤ 48)) && ((List.range L.length).all fun i => matB p n (atM L i)) && ((List.range L.length).all fun i => srtB' L i) && ((List.range L.length).all fun i => (List.range L.length).all fun j => cloB p n L i j) && decide (uniM n ∈ L),())
    have ea:((List.range L.length).all fun i => matB p n (atM L i)) = L.all (matB p n):=all_range (d:=DM) L
    rw [ea]
    skip
    by_cases h1:(L.length:Int) < 1
    · rw [dlt_t h1,dle_f (show (L.length:Int) < 1 from h1)]
      simp only [cond_true,Bool.false_and,Bool.and_false]
    · rw [dlt_f (show (1:Int) ≤ L.length by omega),dle_t (show (1:Int) ≤ L.length by omega)]
      simp only [cond_false,Bool.true_and]
      by_cases h2:(48:Int) < L.length
      · rw [dlt_t h2,dle_f h2]
        simp only [cond_true,Bool.false_and,Bool.and_false]
      · rw [dlt_f (show (L.length:Int) ≤ 48 by omega),dle_t (show (L.length:Int) ≤ 48 by omega)]
        simp only [cond_false,Bool.and_true]
        have e61:cf61 (p,n,L,()) = some (L.all (matB p n) && (isP p && inR n),()):=if_pos ⟨by show L.length ≤ 1000000; omega,ho⟩
        rw [e61]
        simp only
        cases hA:L.all (matB p n) with
        | false => cases isP p <;> cases inR n <;> rfl
        | true =>
          cases hP:isP p with
          | false => rfl
          | true =>
            cases hR:inR n with
            | false => rfl
            | true =>
              simp only [Bool.and_self,Bool.not_true,cond_false,Bool.true_and]
              simp only [ru124_4]
              rw [a1_127 (isP_ne hP) (inR_cases hR) ho (by omega) (by omega) _ (by omega),all_and]
              cases ((List.range L.length).all fun i => srtB' L i) with
              | false => rfl
              | true =>
                simp only [Bool.true_and]
                cases ((List.range L.length).all fun i => (List.range L.length).all fun j => cloB p n L i j) with
                | false => rfl
                | true =>
                  simp only [cond_true,Bool.true_and]
                  rw [g165_ok (inR_cases hR)]
                  simp only
                  rw [g163_ok (by omega)]
  · cases h
theorem g127_ok {g:Gr} (h1:(els g).all okM = true) (h2:(els g).length ≤ 2000000):cf127 (g,()) = some (grB g,()):=if_pos ⟨h1,h2⟩
structure IsG (g:Gr):Prop where
  hP:isP g.1 = true
  hR:inR g.2.1 = true
  len : 1 ≤ (els g).length ∧ (els g).length ≤ 48
  mat:∀ i,i < (els g).length->matB g.1 g.2.1 (atM (els g) i) = true
  srt:∀ i,i < (els g).length->0 < i->keyM (atM (els g) (i - 1)) < keyM (atM (els g) i)
  clo:∀ i j,i < (els g).length->j < (els g).length->timW g.1 g.2.1 (atM (els g) i) (atM (els g) j) ∈ els g
  uni:uniM g.2.1 ∈ els g
theorem grB_is {g:Gr} (h:grB g = true):IsG g:=by
  simp only [grB,Bool.and_eq_true,decide_eq_true_eq,List.all_eq_true,List.mem_range] at h
  obtain ⟨⟨⟨⟨⟨⟨h1,h2⟩,h3,h4⟩,h5⟩,h6⟩,h7⟩,h8⟩:=h
  refine ⟨h1,h2,⟨by omega,by omega⟩,h5,fun i hi h0 => ?_,fun i j hi hj => ?_,h8⟩
  · have:=h6 i hi
    simp only [srtB',Bool.or_eq_true,decide_eq_true_eq] at this
    rcases this with q | q
    · omega
    · exact q
  · have:=h7 i hi j hj
    simpa only [cloB,decide_eq_true_eq] using this
theorem IsG.k {g:Gr} (h:IsG g):∃ k:Nat,g.2.1 = (k:Int) ∧ 1 ≤ k ∧ k ≤ 3:=by
  rcases inR_cases h.hR with q | q | q
  · exact ⟨1,q,by omega,by omega⟩
  · exact ⟨2,q,by omega,by omega⟩
  · exact ⟨3,q,by omega,by omega⟩
def accF (f:Nat->Bool) (i:Nat):List Int:=((List.range i).filter f).map fun (i:Nat) => (i:Int)
theorem accF_succ {f:Nat->Bool} {i:Nat}:accF f (i + 1) = if f i = true then accF f i ++ [(i:Int)] else accF f i:=by
  unfold accF
  rw [List.range_succ,List.filter_append,List.map_append]
  cases h:f i <;> simp [h]
theorem accF_len {f:Nat->Bool} {i:Nat}:(accF f i).length ≤ i:=by
  unfold accF
  rw [List.length_map]
  exact Nat.le_trans (List.length_filter_le _ _) (by simp)
def refB (p:Int) (n:Int) (L:List Mat) (i:Nat):Bool:=decide ((echM p (tn n) (atM L i)).length = 1)
def reflL (p n:Int) (L:List Mat):List Int:=accF (refB p n L) L.length
theorem run126 {p n:Int} {L:List Mat} (hl:L.length ≤ 1000000) {g94:G188} (hg:∀ i,i < L.length->g94 (p,n,atM L i,()) = some (refB p n L i,())) {F:Nat} (hF:L.length < F):fn119 g94 F ((p,n,L,()),()) = some (reflL p n L,()):=by
  refine iter_run L.length F (fun i => ((p,n,L,()),((accF (refB p n L) i,()),(((i:Int),()),())))) hF (fun i hi k => ?_) (fun k => ?_)
  · have hla:(accF (refB p n L) i).length ≤ i:=accF_len
    simp only [st119_3]
    simp (disch:=omega) only [dln_t,cond_true,ofn,dlt_t,ib_t,tn_cast,w6_id]
    have g1:g94 (p,n,L.getD i (Ty.dflt mat),()) = some (refB p n L i,()):=hg i hi
    rw [g1]
    simp only
    rw [accF_succ]
    cases refB p n L i with
    | false => rfl
    | true =>
      rw [grow_t (by simp; omega)]; rfl
  · simp only [st119_3]
    simp (disch:=omega) only [dln_t,cond_true,ofn,dlt_f,cond_false]
    rfl
noncomputable def cf126:G119:=fun x => if grB x.1 = true ∧ (els x.1).all okM = true then some (reflL x.1.1 x.1.2.1 (els x.1),()) else none
theorem k126:KOne Tryz.prog 119 ⟨[.v (.pair i64 (.pair i64 (.pair (.slice 112 mat) .unit)))],[.slice 2 i64],true,false,0,cf126⟩:=ok119 _ (.cons k94 .nil) cf126 fun x y h => by
  obtain ⟨⟨p,n,L,u⟩,_⟩:=x
  change List Mat at L
  change Int at p
  change Int at n
  simp only [cf126] at h
  split at h
  · rename_i hc
    injection h with h; subst h
    have G:=grB_is hc.1
    have ho:L.all okM = true:=hc.2
    have hl:=G.len
    change 1 ≤ L.length ∧ L.length ≤ 48 at hl
    refine ⟨L.length + 1,run126 (by omega) (fun i hi => ?_) (by omega)⟩
    obtain ⟨hP,k,e,k1,k3,hr,_⟩:=matB_is (G.mat i hi)
    change n = (k:Int) at e
    subst e
    exact g94_ok (okM_at ho hi) hP k3 hr
  · cases h
theorem run128 {p n:Int} {L:List Mat} (hl:L.length ≤ 1000000) {g95:G198} (hg:∀ i,i < L.length->∃ r,g95 (p,n,atM L i,()) = some (r,()) ∧ (!(r:List Int).isEmpty) = refB p n L i) {F:Nat} (hF:L.length < F):fn125 g95 F ((p,n,L,()),()) = some (reflL p n L,()):=by
  simp only [fn125,ofn]
  rw [dln_t (show L.length ≤ 9223372036854775807 by omega),cond_true]
  refine iter_run L.length F (fun i => ((p,n,L,()),((accF (refB p n L) i,()),((L,()),(((L.length:Int),()),(((i:Int),()),())))))) hF (fun i hi k => ?_) (fun k => ?_)
  · have hla:(accF (refB p n L) i).length ≤ i:=accF_len
    simp only [st125_3]
    simp (disch:=omega) only [cond_true,ofn,dlt_t,ib_t,tn_cast,w6_id]
    obtain ⟨r,g1,g2⟩:=hg i hi
    have g1:g95 (p,n,L.getD i (Ty.dflt mat),()) = some (r,()):=g1
    rw [g1]
    simp only
    rw [accF_succ,g2]
    cases refB p n L i with
    | false => rfl
    | true =>
      rw [grow_t (by simp; omega)]; rfl
  · simp only [st125_3]
    simp (disch:=omega) only [ofn,dlt_f,cond_false]
    rfl
noncomputable def cf128:G125:=fun x => if grB x.1 = true ∧ (els x.1).all okM = true then some (reflL x.1.1 x.1.2.1 (els x.1),()) else none
theorem k128:KOne Tryz.prog 125 ⟨[.v (.pair i64 (.pair i64 (.pair (.slice 112 mat) .unit)))],[.slice 2 i64],true,false,0,cf128⟩:=ok125 _ (.cons k95 .nil) cf128 fun x y h => by
  obtain ⟨⟨p,n,L,u⟩,_⟩:=x
  change List Mat at L
  change Int at p
  change Int at n
  simp only [cf128] at h
  split at h
  · rename_i hc
    injection h with h; subst h
    have G:=grB_is hc.1
    have ho:L.all okM = true:=hc.2
    have hl:=G.len
    change 1 ≤ L.length ∧ L.length ≤ 48 at hl
    refine ⟨L.length + 1,run128 (by omega) (fun i hi => ?_) (by omega)⟩
    obtain ⟨hP,k,e,k1,k3,hr,_⟩:=matB_is (G.mat i hi)
    change n = (k:Int) at e
    subst e
    exact ⟨_,g95_ok (okM_at ho hi) hP ⟨k1,k3⟩ hr,root_empty hP (okM_at ho hi) ⟨k1,k3⟩ hr⟩
  · cases h
theorem reflL_len {p n:Int} {L:List Mat}:(reflL p n L).length ≤ L.length:=accF_len
theorem okG_of {g:Gr} (h:okV (.pair i64 (.pair i64 (.pair (.slice 111 mat) .unit))) g = true):(els g).length ≤ 9223372036854775807 ∧ (els g).all okM = true:=by
  obtain ⟨p,n,L,u⟩:=g
  simp only [okV,Bool.and_true,Bool.and_eq_true,decide_eq_true_eq] at h
  exact ⟨h.2.2.1,h.2.2.2⟩
abbrev R49:Type:=Ress [poly,i64]
abbrev G49:Type:=Args [.v (.pair i64 (.pair i64 (.pair (.slice 112 mat) .unit)))]->Option R49
abbrev kp49:List (Nat × List Nat):=[(0,[1,2]),(1,[11,1,2]),(2,[3,2]),(3,[1,4,2]),(4,[17,1,4,2]),(5,[3,2]),(6,[5,4,1,2]),(7,[6,5,4,1,2]),(8,[28,6,5,4,1,2]),(10,[7,6,5,4,1,2]),(11,[6,5,4,1,2]),(9,[6,5,4,1,2]),(12,[3,2])]
abbrev ct49 (g118:G118) (g122:G122) (g121:G121) (g120:G120) (g119:G119):CTab:=[(118,⟨[.v (.pair i64 (.pair i64 (.pair (.slice 112 mat) .unit)))],[.bool],false,false,0,g118⟩),(122,⟨[.v i64,.v i64,.v mat],[poly],true,false,0,g122⟩),(121,⟨[.v poly,.v poly],[poly,.bool],true,false,0,g121⟩),(120,⟨[.v i64,.v i64,.v ex,.v i64],[poly],true,false,0,g120⟩),(119,⟨[.v (.pair i64 (.pair i64 (.pair (.slice 112 mat) .unit)))],[(.slice 2 i64)],true,false,0,g119⟩)]
abbrev kr49:Env->Option R49:=endK TT [.cell 2 34,.tmp 3] [poly,i64] true false
abbrev sh49_8:Shape:=[(1,.box false [.fz i64 0 false,.fz i64 0 false,.fz (.slice 112 mat) 0 true]),(2,.box false [.fz i64 0 false,.fz i64 0 false,.rt 135 term 35 false true true]),(4,vr 2 i64 65 false),(5,.box false [.fz i64 0 false,.fz i64 0 false,.rt 135 term 83 false true false]),(6,vv i64)]
def st49_8 (g118:G118) (g122:G122) (g121:G121) (g120:G120) (g119:G119) (F:Nat) (s:ShVal sh49_8) (k kx:ShVal sh49_8->Option R49):Option R49 :=
  match s with
  | ((t1_0,t1_1,t1_2,_),(t2_0,t2_1,t2_2,_),(t4,_),(t5_0,t5_1,t5_2,_),(t6,_),_) => (bif decide ((List.length t4) ≤ 9223372036854775807) then (bif decide (t6 < (Int.ofNat (List.length t4))) then (bif ib t6 (Int.ofNat (List.length t4)) then (bif ib (List.getD t4 (tn t6) (0:Int)) (Int.ofNat (List.length t1_2)) then (match (g122 (t1_0,(t1_1,((List.getD t1_2 (tn (List.getD t4 (tn t6) (0:Int))) (Ty.dflt (.arr 3 (.arr 3 (.int .u8))))),())))) with | some r28 => (match (g121 ((t5_0,(t5_1,(t5_2,()))),((r28.1.1,(r28.1.2.1,(r28.1.2.2.1,()))),()))) with | some r29 => k ((t1_0,(t1_1,(t1_2,()))),((t2_0,(t2_1,(t2_2,()))),((t4,()),((r29.1.1,(r29.1.2.1,(r29.1.2.2.1,()))),(((w6 (t6 + (1:Int))),()),()))))) | none => none) | none => none) else none) else none) else kx ((t1_0,(t1_1,(t1_2,()))),((t2_0,(t2_1,(t2_2,()))),((t4,()),((t5_0,(t5_1,(t5_2,()))),((t6,()),())))))) else none)
def ru49_8 (g118:G118) (g122:G122) (g121:G121) (g120:G120) (g119:G119) (F:Nat) (s:ShVal sh49_8) (kx:ShVal sh49_8->Option R49):Option R49:=iter (fun s k => st49_8 g118 g122 g121 g120 g119 F s k kx) F s
abbrev ls49_8 (g118:G118) (g122:G122) (g121:G121) (g120:G120) (g119:G119) (F:Nat):LS R49:=⟨sh49_8,0,ru49_8 g118 g122 g121 g120 g119 F⟩
def fn49 (g118:G118) (g122:G122) (g121:G121) (g120:G120) (g119:G119) (F:Nat) (x:Args [.v (.pair i64 (.pair i64 (.pair (.slice 112 mat) .unit)))]):Option R49 :=
  match x with
  | (x0,_) => (match (g118 ((x0.1,(x0.2.1,(x0.2.2.1,()))),())) with | some r8 => (bif (!r8.1) then (some (((Ty.dflt (.pair (.int .i64) (.pair (.int .i64) (.pair (.slice 135 (.pair (.arr 3 (.int .u8)) (.pair (.int .i64) .unit))) .unit)))).1,((Ty.dflt (.pair (.int .i64) (.pair (.int .i64) (.pair (.slice 135 (.pair (.arr 3 (.int .u8)) (.pair (.int .i64) .unit))) .unit)))).2.1,((Ty.dflt (.pair (.int .i64) (.pair (.int .i64) (.pair (.slice 135 (.pair (.arr 3 (.int .u8)) (.pair (.int .i64) .unit))) .unit)))).2.2.1,()))),((1:Int),()))) else (match (g119 ((x0.1,(x0.2.1,(x0.2.2.1,()))),())) with | some r10 => (bif decide ((List.length r10.1) ≤ 9223372036854775807) then (bif decide ((12:Int) < (Int.ofNat (List.length r10.1))) then (some (((Ty.dflt (.pair (.int .i64) (.pair (.int .i64) (.pair (.slice 135 (.pair (.arr 3 (.int .u8)) (.pair (.int .i64) .unit))) .unit)))).1,((Ty.dflt (.pair (.int .i64) (.pair (.int .i64) (.pair (.slice 135 (.pair (.arr 3 (.int .u8)) (.pair (.int .i64) .unit))) .unit)))).2.1,((Ty.dflt (.pair (.int .i64) (.pair (.int .i64) (.pair (.slice 135 (.pair (.arr 3 (.int .u8)) (.pair (.int .i64) .unit))) .unit)))).2.2.1,()))),((3:Int),()))) else (match (g120 (x0.1,(x0.2.1,((tup Int (0:Int) 3),((1:Int),()))))) with | some r13 => (ru49_8 g118 g122 g121 g120 g119 F ((x0.1,(x0.2.1,(x0.2.2.1,()))),(((Ty.dflt (.pair (.int .i64) (.pair (.int .i64) (.pair (.slice 135 (.pair (.arr 3 (.int .u8)) (.pair (.int .i64) .unit))) .unit)))).1,((Ty.dflt (.pair (.int .i64) (.pair (.int .i64) (.pair (.slice 135 (.pair (.arr 3 (.int .u8)) (.pair (.int .i64) .unit))) .unit)))).2.1,((Ty.dflt (.pair (.int .i64) (.pair (.int .i64) (.pair (.slice 135 (.pair (.arr 3 (.int .u8)) (.pair (.int .i64) .unit))) .unit)))).2.2.1,()))),((r10.1,()),((r13.1.1,(r13.1.2.1,(r13.1.2.2.1,()))),(((0:Int),()),()))))) (fun s' => match s' with | ((t1_0,t1_1,t1_2,_),(t2_0,t2_1,t2_2,_),(t4,_),(t5_0,t5_1,t5_2,_),(t6,_),_) => (some ((t5_0,(t5_1,(t5_2,()))),((0:Int),()))))) | none => none)) else none) | none => none)) | none => none)
theorem ev49_8 (g118:G118) (g122:G122) (g121:G121) (g120:G120) (g119:G119) (F:Nat) (s:ShVal sh49_8) (k kx:ShVal sh49_8->Option R49):evL TT (ct49 g118 g122 g121 g120 g119 ) kp49 [] (loopOf Tryz.f49 8) (envOf sh49_8 s) (fitK sh49_8 k) (fun j e => bif Nat.beq j 0 then fitK sh49_8 kx e else none) kr49 = st49_8 g118 g122 g121 g120 g119 F s k kx:=by
  obtain ⟨⟨t1_0,t1_1,t1_2,_⟩,⟨t2_0,t2_1,t2_2,_⟩,⟨t4,_⟩,⟨t5_0,t5_1,t5_2,_⟩,⟨t6,_⟩,_⟩:=s
  kernel_rfl
theorem ok49_8 (g118:G118) (g122:G122) (g121:G121) (g120:G120) (g119:G119) (F:Nat) (hK:KOK Tryz.prog (ct49 g118 g122 g121 g120 g119 )):LSOK Tryz.prog ⟨51,false,undef⟩ (ls49_8 g118 g122 g121 g120 g119 F) (loopOf Tryz.f49 8) kr49 :=
  loop_ok (st49_8 g118 g122 g121 g120 g119 F) mixed tt_ok hK (by kernel_rfl) (LTOK_by (l:=[]) (by kernel_rfl) trivial) (ev49_8 g118 g122 g121 g120 g119 F)
theorem ev49 (g118:G118) (g122:G122) (g121:G121) (g120:G120) (g119:G119) (F:Nat) (x:Args [.v (.pair i64 (.pair i64 (.pair (.slice 112 mat) .unit)))]):fnK TT (ct49 g118 g122 g121 g120 g119 ) kp49 [poly,i64] [(8,ls49_8 g118 g122 g121 g120 g119 F)] (bodyOf Tryz.f49) [.cell 2 34,.tmp 3] [.v (.pair i64 (.pair i64 (.pair (.slice 112 mat) .unit)))] true false x = fn49 g118 g122 g121 g120 g119 F x:=by
  obtain ⟨x0,_⟩:=x
  kernel_rfl
theorem ok49 (g118:G118) (g122:G122) (g121:G121) (g120:G120) (g119:G119) (hK:KOK Tryz.prog (ct49 g118 g122 g121 g120 g119 )) (cf:G49) (h:∀ x y,cf x = some y->∃ F,fn49 g118 g122 g121 g120 g119 F x = some y):KOne Tryz.prog 49 ⟨[.v (.pair i64 (.pair i64 (.pair (.slice 112 mat) .unit)))],[poly,i64],true,false,0,cf⟩ :=
  fn_one rfl (c:=bodyOf Tryz.f49) mixed tt_ok hK Tryz.func49 (by kernel_rfl) (by kernel_rfl) (Nat.le_of_ble_eq_true (by kernel_rfl)) (by decide) fun x y hxy => by
    obtain ⟨F,hF⟩:=h x y hxy
    exact ⟨[(8,ls49_8 g118 g122 g121 g120 g119 F)],LTOK_by (l:=[loopOf Tryz.f49 8]) (by kernel_rfl) ⟨ls_at (by kernel_rfl) (ok49_8 g118 g122 g121 g120 g119 F hK),trivial⟩,(ev49 g118 g122 g121 g120 g119 F x).trans hF⟩
abbrev R51:Type:=Ress [poly,i64]
abbrev G51:Type:=Args [.v (.pair i64 (.pair i64 (.pair (.slice 112 mat) .unit)))]->Option R51
abbrev kp51:List (Nat × List Nat):=[(0,[1,2]),(1,[10,1,2]),(2,[3,2]),(3,[1,4,2]),(4,[16,1,4,2]),(5,[3,2]),(6,[4,5,1,2]),(7,[25,5,1,23,2,24]),(8,[26,25,5,1,23,2,24]),(9,[7,25,5,1,23,2,24]),(10,[25,5,1,23,2,24]),(11,[25,5,1,23,2,24]),(12,[3,2])]
abbrev ct51 (g124:G124) (g128:G128) (g127:G127) (g126:G126) (g125:G125):CTab:=[(124,⟨[.v (.pair i64 (.pair i64 (.pair (.slice 112 mat) .unit)))],[.bool],false,false,0,g124⟩),(128,⟨[.v i64,.v i64,.v mat],[poly],true,false,0,g128⟩),(127,⟨[.v poly,.v poly],[poly],true,false,0,g127⟩),(126,⟨[.v i64,.v i64,.v i64],[poly],true,false,0,g126⟩),(125,⟨[.v (.pair i64 (.pair i64 (.pair (.slice 112 mat) .unit)))],[(.slice 2 i64)],true,false,0,g125⟩)]
abbrev kr51:Env->Option R51:=endK TT [.cell 2 34,.tmp 3] [poly,i64] true false
abbrev sh51_8:Shape:=[(1,.box false [.fz i64 0 false,.fz i64 0 false,.fz (.slice 112 mat) 0 true]),(2,.box false [.fz i64 0 false,.fz i64 0 false,.rt 135 term 35 false true true]),(5,.box false [.fz i64 0 false,.fz i64 0 false,.rt 135 term 83 false true false]),(23,vr 2 i64 369 false),(24,vv i64),(25,vv i64)]
def st51_8 (g124:G124) (g128:G128) (g127:G127) (g126:G126) (g125:G125) (F:Nat) (s:ShVal sh51_8) (k kx:ShVal sh51_8->Option R51):Option R51 :=
  match s with
  | ((t1_0,t1_1,t1_2,_),(t2_0,t2_1,t2_2,_),(t5_0,t5_1,t5_2,_),(t23,_),(t24,_),(t25,_),_) => (bif decide (t25 < t24) then (bif ib t25 (Int.ofNat (List.length t23)) then (bif ib (List.getD t23 (tn t25) (0:Int)) (Int.ofNat (List.length t1_2)) then (match (g128 (t1_0,(t1_1,((List.getD t1_2 (tn (List.getD t23 (tn t25) (0:Int))) (Ty.dflt (.arr 3 (.arr 3 (.int .u8))))),())))) with | some r30 => (match (g127 ((t5_0,(t5_1,(t5_2,()))),((r30.1.1,(r30.1.2.1,(r30.1.2.2.1,()))),()))) with | some r31 => k ((t1_0,(t1_1,(t1_2,()))),((t2_0,(t2_1,(t2_2,()))),((r31.1.1,(r31.1.2.1,(r31.1.2.2.1,()))),((t23,()),((t24,()),(((w6 (t25 + (1:Int))),()),())))))) | none => none) | none => none) else none) else none) else kx ((t1_0,(t1_1,(t1_2,()))),((t2_0,(t2_1,(t2_2,()))),((t5_0,(t5_1,(t5_2,()))),((t23,()),((t24,()),((t25,()),())))))))
def ru51_8 (g124:G124) (g128:G128) (g127:G127) (g126:G126) (g125:G125) (F:Nat) (s:ShVal sh51_8) (kx:ShVal sh51_8->Option R51):Option R51:=iter (fun s k => st51_8 g124 g128 g127 g126 g125 F s k kx) F s
abbrev ls51_8 (g124:G124) (g128:G128) (g127:G127) (g126:G126) (g125:G125) (F:Nat):LS R51:=⟨sh51_8,0,ru51_8 g124 g128 g127 g126 g125 F⟩
def fn51 (g124:G124) (g128:G128) (g127:G127) (g126:G126) (g125:G125) (F:Nat) (x:Args [.v (.pair i64 (.pair i64 (.pair (.slice 112 mat) .unit)))]):Option R51 :=
  match x with
  | (x0,_) => (match (g124 ((x0.1,(x0.2.1,(x0.2.2.1,()))),())) with | some r8 => (bif (!r8.1) then (some (((Ty.dflt (.pair (.int .i64) (.pair (.int .i64) (.pair (.slice 135 (.pair (.arr 3 (.int .u8)) (.pair (.int .i64) .unit))) .unit)))).1,((Ty.dflt (.pair (.int .i64) (.pair (.int .i64) (.pair (.slice 135 (.pair (.arr 3 (.int .u8)) (.pair (.int .i64) .unit))) .unit)))).2.1,((Ty.dflt (.pair (.int .i64) (.pair (.int .i64) (.pair (.slice 135 (.pair (.arr 3 (.int .u8)) (.pair (.int .i64) .unit))) .unit)))).2.2.1,()))),((1:Int),()))) else (match (g125 ((x0.1,(x0.2.1,(x0.2.2.1,()))),())) with | some r10 => (bif decide ((List.length r10.1) ≤ 9223372036854775807) then (bif decide ((12:Int) < (Int.ofNat (List.length r10.1))) then (some (((Ty.dflt (.pair (.int .i64) (.pair (.int .i64) (.pair (.slice 135 (.pair (.arr 3 (.int .u8)) (.pair (.int .i64) .unit))) .unit)))).1,((Ty.dflt (.pair (.int .i64) (.pair (.int .i64) (.pair (.slice 135 (.pair (.arr 3 (.int .u8)) (.pair (.int .i64) .unit))) .unit)))).2.1,((Ty.dflt (.pair (.int .i64) (.pair (.int .i64) (.pair (.slice 135 (.pair (.arr 3 (.int .u8)) (.pair (.int .i64) .unit))) .unit)))).2.2.1,()))),((3:Int),()))) else (match (g126 (x0.1,(x0.2.1,((1:Int),())))) with | some r13 => (bif decide ((List.length r10.1) ≤ 9223372036854775807) then (ru51_8 g124 g128 g127 g126 g125 F ((x0.1,(x0.2.1,(x0.2.2.1,()))),(((Ty.dflt (.pair (.int .i64) (.pair (.int .i64) (.pair (.slice 135 (.pair (.arr 3 (.int .u8)) (.pair (.int .i64) .unit))) .unit)))).1,((Ty.dflt (.pair (.int .i64) (.pair (.int .i64) (.pair (.slice 135 (.pair (.arr 3 (.int .u8)) (.pair (.int .i64) .unit))) .unit)))).2.1,((Ty.dflt (.pair (.int .i64) (.pair (.int .i64) (.pair (.slice 135 (.pair (.arr 3 (.int .u8)) (.pair (.int .i64) .unit))) .unit)))).2.2.1,()))),((r13.1.1,(r13.1.2.1,(r13.1.2.2.1,()))),((r10.1,()),(((Int.ofNat (List.length r10.1)),()),(((0:Int),()),())))))) (fun s' => match s' with | ((t1_0,t1_1,t1_2,_),(t2_0,t2_1,t2_2,_),(t5_0,t5_1,t5_2,_),(t23,_),(t24,_),(t25,_),_) => (some ((t5_0,(t5_1,(t5_2,()))),((0:Int),()))))) else none) | none => none)) else none) | none => none)) | none => none)
theorem ev51_8 (g124:G124) (g128:G128) (g127:G127) (g126:G126) (g125:G125) (F:Nat) (s:ShVal sh51_8) (k kx:ShVal sh51_8->Option R51):evL TT (ct51 g124 g128 g127 g126 g125 ) kp51 [] (loopOf Tryz.f51 8) (envOf sh51_8 s) (fitK sh51_8 k) (fun j e => bif Nat.beq j 0 then fitK sh51_8 kx e else none) kr51 = st51_8 g124 g128 g127 g126 g125 F s k kx:=by
  obtain ⟨⟨t1_0,t1_1,t1_2,_⟩,⟨t2_0,t2_1,t2_2,_⟩,⟨t5_0,t5_1,t5_2,_⟩,⟨t23,_⟩,⟨t24,_⟩,⟨t25,_⟩,_⟩:=s
  kernel_rfl
theorem ok51_8 (g124:G124) (g128:G128) (g127:G127) (g126:G126) (g125:G125) (F:Nat) (hK:KOK Tryz.prog (ct51 g124 g128 g127 g126 g125 )):LSOK Tryz.prog ⟨43,false,undef⟩ (ls51_8 g124 g128 g127 g126 g125 F) (loopOf Tryz.f51 8) kr51 :=
  loop_ok (st51_8 g124 g128 g127 g126 g125 F) mixed tt_ok hK (by kernel_rfl) (LTOK_by (l:=[]) (by kernel_rfl) trivial) (ev51_8 g124 g128 g127 g126 g125 F)
theorem ev51 (g124:G124) (g128:G128) (g127:G127) (g126:G126) (g125:G125) (F:Nat) (x:Args [.v (.pair i64 (.pair i64 (.pair (.slice 112 mat) .unit)))]):fnK TT (ct51 g124 g128 g127 g126 g125 ) kp51 [poly,i64] [(8,ls51_8 g124 g128 g127 g126 g125 F)] (bodyOf Tryz.f51) [.cell 2 34,.tmp 3] [.v (.pair i64 (.pair i64 (.pair (.slice 112 mat) .unit)))] true false x = fn51 g124 g128 g127 g126 g125 F x:=by
  obtain ⟨x0,_⟩:=x
  kernel_rfl
theorem ok51 (g124:G124) (g128:G128) (g127:G127) (g126:G126) (g125:G125) (hK:KOK Tryz.prog (ct51 g124 g128 g127 g126 g125 )) (cf:G51) (h:∀ x y,cf x = some y->∃ F,fn51 g124 g128 g127 g126 g125 F x = some y):KOne Tryz.prog 51 ⟨[.v (.pair i64 (.pair i64 (.pair (.slice 112 mat) .unit)))],[poly,i64],true,false,0,cf⟩ :=
  fn_one rfl (c:=bodyOf Tryz.f51) mixed tt_ok hK Tryz.func51 (by kernel_rfl) (by kernel_rfl) (Nat.le_of_ble_eq_true (by kernel_rfl)) (by decide) fun x y hxy => by
    obtain ⟨F,hF⟩:=h x y hxy
    exact ⟨[(8,ls51_8 g124 g128 g127 g126 g125 F)],LTOK_by (l:=[loopOf Tryz.f51 8]) (by kernel_rfl) ⟨ls_at (by kernel_rfl) (ok51_8 g124 g128 g127 g126 g125 F hK),trivial⟩,(ev51 g124 g128 g127 g126 g125 F x).trans hF⟩
theorem accF_get {f:Nat->Bool} {N k:Nat} (h:k < (accF f N).length) (d:Int):∃ i:Nat,(accF f N).getD k d = (i:Int) ∧ i < N ∧ f i = true:=by
  have hm:(accF f N).getD k d ∈ accF f N:=by rw [List.getD_eq_getElem?_getD,List.getElem?_eq_getElem h,Option.getD_some]; exact List.getElem_mem h
  generalize (accF f N).getD k d = x at hm
  unfold accF at hm
  obtain ⟨i,hi,e⟩:=List.mem_map.1 hm
  rw [List.mem_filter,List.mem_range] at hi
  exact ⟨i,e.symm,hi.1,hi.2⟩
def mirP (p:Int) (n:Nat) (L:List Mat) (R:List Int):Nat->List term.den
  | 0 => oneP p e0 1
  | k + 1 => timesP p (mirP p n L R k) (formP p n (atM L (tn (R.getD k 0))))
theorem one_fineM {p:Int} (hp : 0 < p):CanT p (oneP p e0 1) ∧ DegLe 0 (oneP p e0 1):=by
  obtain ⟨c1,c2⟩:=putP_can (p:=p) (ts:=[]) (e:=e0) (x:=1) (by omega) can_nil okX_e0
  refine ⟨c1,degLe_of c1 fun e he => ?_⟩
  have q:=c2 e
  rw [show coT (oneP p e0 1) e = coT (putP p [] e0 1) e from rfl,q]
  have : ¬ e = e0:=fun z => by rw [z] at he; exact absurd he (by decide)
  rw [if_neg this]; rfl
theorem form_fine {p:Int} {n:Nat} {g:Mat} (hp : 0 < p) (hn:n ≤ 3):CanT p (formP p n g) ∧ DegLe 1 (formP p n g):=⟨(linP_can (f:=formF p n g) hp hn).1,linP_deg (f:=formF p n g) hp hn⟩
theorem mir_fine {p:Int} {n:Nat} {L:List Mat} {R:List Int} (hp : 0 < p) (hn:n ≤ 3):∀ k:Nat,k ≤ 12->CanT p (mirP p n L R k) ∧ DegLe (k:Int) (mirP p n L R k)
  | 0,_ => one_fineM hp
  | k + 1,h => by
    obtain ⟨a1,a2⟩:=mir_fine (L:=L) (R:=R) hp hn k (by omega)
    obtain ⟨b1,b2⟩:=form_fine (g:=atM L (tn (R.getD k 0))) hp hn
    exact ⟨(timesP_can hp (small a1 a2 (by omega)) (small b1 b2 (by omega))).1,by
      have:=timesP_deg hp a1 b1 a2 b2 (by omega) (by omega)
      simp only [mirP]; push_cast; exact this⟩
theorem mir_mul {p v:Int} {n:Nat} {L:List Mat} {R:List Int} (hp : 0 < p ∧ p ≤ 1000000) (hn:n ≤ 3) {k:Nat} (h:k < 12) :
    cf99 ((p,v,mirP p n L R k,()),(p,v,formP p n (atM L (tn (R.getD k 0))),()),()) = some ((p,v,mirP p n L R (k + 1),()),true,()) ∧
    cf106 ((p,v,mirP p n L R k,()),(p,v,formP p n (atM L (tn (R.getD k 0))),()),()) = some ((p,v,mirP p n L R (k + 1),()),()):=by
  obtain ⟨a1,a2⟩:=mir_fine (L:=L) (R:=R) hp.1 hn k (by omega)
  obtain ⟨b1,b2⟩:=form_fine (g:=atM L (tn (R.getD k 0))) hp.1 hn
  have hf:fits (mirP p n L R k) (formP p n (atM L (tn (R.getD k 0)))) = true:=by
    unfold fits
    have q1:=degI_rng a1 a2 (by omega)
    have q2:=degI_rng b1 b2 (by omega)
    rw [decide_eq_true (by omega:degI (mirP p n L R k) + degI (formP p n (atM L (tn (R.getD k 0)))) ≤ 12),Bool.or_true]
  refine ⟨?_,?_⟩
  · have:=g99_ok (v:=v) (p:=p) (a:=mirP p n L R k) (b:=formP p n (atM L (tn (R.getD k 0)))) ⟨by omega,a1,b1,a2.mono (by omega),b2.mono (by omega)⟩
    rw [this,hf]; unfold timesO; rw [hf]; rfl
  · exact g106_ok ⟨by omega,a1,b1,a2.mono (by omega),b2.mono (by omega)⟩
noncomputable def cf335:G49:=fn49 cf72 cf113 cf99 cf96 cf126 20
theorem k335:KOne Tryz.prog 49 ⟨[.v (.pair i64 (.pair i64 (.pair (.slice 112 mat) .unit)))],[poly,i64],true,false,0,cf335⟩:=ok49 _ _ _ _ _ (.cons k72 (.cons k113 (.cons k99 (.cons k96 (.cons k126 .nil))))) cf335 fun x y h => ⟨20,h⟩
noncomputable def cf336:G51:=fn51 cf127 cf114 cf106 cf102 cf128 20
theorem k336:KOne Tryz.prog 51 ⟨[.v (.pair i64 (.pair i64 (.pair (.slice 112 mat) .unit)))],[poly,i64],true,false,0,cf336⟩:=ok51 _ _ _ _ _ (.cons k127 (.cons k114 (.cons k106 (.cons k102 (.cons k128 .nil))))) cf336 fun x y h => ⟨20,h⟩
theorem refl_at {p:Int} {n:Nat} {L:List Mat} (G:IsG (p,(n:Int),L,())) (ho:L.all okM = true) {k:Nat} (h:k < (reflL p (n:Int) L).length):∃ i:Nat,(reflL p (n:Int) L).getD k 0 = (i:Int) ∧ i < L.length ∧ okM (atM L i) = true ∧ (echM p n (atM L i)).length = 1 ∧ ∃ q,rngB p q (atM L i) = true:=by
  obtain ⟨i,e,hi,hf⟩:=accF_get h 0
  obtain ⟨_,k,ek,_,_,hr,_⟩:=matB_is (G.mat i hi)
  refine ⟨i,e,hi,okM_at ho hi,?_,_,hr⟩
  exact of_decide_eq_true hf
theorem e335 {p:Int} {n:Nat} {L:List Mat} (h:grB (p,(n:Int),L,()) = true) (ho:L.all okM = true) (hl:L.length ≤ 2000000) (hn : 1 ≤ n ∧ n ≤ 3) (hq:(reflL p (n:Int) L).length ≤ 12):cf335 ((p,(n:Int),L,()),()) = some ((p,(n:Int),mirP p n L (reflL p n L) (reflL p n L).length,()),0,()):=by
  have G:=grB_is h
  have hP:isP p = true:=G.hP
  have hp:=isP_pos hP
  have e1:cf72 ((p,(n:Int),L,()),()) = some (grB (p,(n:Int),L,()),()):=g72_ok ho hl
  have a1:cf126 ((p,(n:Int),L,()),()) = some (reflL p n L,()):=if_pos ⟨h,ho⟩
  simp only [cf335,fn49]
  rw [e1,h]
  simp only [Bool.not_true,cond_false]
  rw [a1]
  simp only
  rw [dln_t (by omega),cond_true,ofn,dlt_f (by omega),cond_false,show tup Int (0:Int) 3 = e0 from rfl,g96_ok (by omega) okX_e0 (by omega)]
  simp only
  refine iter_run (step:=fun s k => st49_8 cf72 cf113 cf99 cf96 cf126 20 s k _) (r:=some ((p,(n:Int),mirP p n L (reflL p n L) (reflL p n L).length,()),(0:Int),())) (reflL p (n:Int) L).length 20 (fun i => ((p,(n:Int),L,()),((Ty.dflt poly),((reflL p (n:Int) L,()),((p,(n:Int),mirP p n L (reflL p n L) i,()),(((i:Int),()),())))))) (by omega) (fun i hi k => ?_) (fun k => ?_)
  · obtain ⟨j,ej,hj,oj,rj,q,hr⟩:=refl_at G ho hi
    have hm:=(mir_mul (p:=p) (v:=(n:Int)) (L:=L) (R:=reflL p n L) (by omega) hn.2 (by omega:i < 12)).1
    simp only [st49_8]
    rw [dln_t (by omega),cond_true,ofn,dlt_t (by omega),cond_true,ib_t (by omega) (by omega),cond_true,tn_cast]
    rw [ej] at hm ⊢
    rw [ofn,ib_t (by omega) (by omega),cond_true]
    rw [tn_cast] at hm ⊢
    rw [show L.getD j (Ty.dflt (.arr 3 (.arr 3 (.int .u8)))) = atM L j from rfl,g113_ok oj hP hn hr rj]
    simp only
    rw [hm]
    simp only
    rw [w6_id (by omega) (by omega)]
    rfl
  · simp only [st49_8]
    rw [dln_t (by omega),cond_true,ofn,dlt_f (by omega),cond_false]
theorem e336 {p:Int} {n:Nat} {L:List Mat} (h:grB (p,(n:Int),L,()) = true) (ho:L.all okM = true) (hl:L.length ≤ 2000000) (hn : 1 ≤ n ∧ n ≤ 3) (hq:(reflL p (n:Int) L).length ≤ 12):cf336 ((p,(n:Int),L,()),()) = some ((p,(n:Int),mirP p n L (reflL p n L) (reflL p n L).length,()),0,()):=by
  have G:=grB_is h
  have hP:isP p = true:=G.hP
  have hp:=isP_pos hP
  have e1:cf127 ((p,(n:Int),L,()),()) = some (grB (p,(n:Int),L,()),()):=g127_ok ho hl
  have a1:cf128 ((p,(n:Int),L,()),()) = some (reflL p n L,()):=if_pos ⟨h,ho⟩
  simp only [cf336,fn51]
  rw [e1,h]
  simp only [Bool.not_true,cond_false]
  rw [a1]
  simp only
  rw [dln_t (by omega),cond_true,ofn,dlt_f (by omega),cond_false,g102_ok (by omega)]
  simp only [cond_true]
  refine iter_run (step:=fun s k => st51_8 cf127 cf114 cf106 cf102 cf128 20 s k _) (r:=some ((p,(n:Int),mirP p n L (reflL p n L) (reflL p n L).length,()),(0:Int),())) (reflL p (n:Int) L).length 20 (fun i => ((p,(n:Int),L,()),((Ty.dflt poly),((p,(n:Int),mirP p n L (reflL p n L) i,()),((reflL p (n:Int) L,()),((((reflL p (n:Int) L).length:Int),()),(((i:Int),()),()))))))) (by omega) (fun i hi k => ?_) (fun k => ?_)
  · obtain ⟨j,ej,hj,oj,rj,q,hr⟩:=refl_at G ho hi
    have hm:=(mir_mul (p:=p) (v:=(n:Int)) (L:=L) (R:=reflL p n L) (by omega) hn.2 (by omega:i < 12)).2
    simp only [st51_8]
    rw [dlt_t (by omega),cond_true,ofn,ib_t (by omega) (by omega),cond_true,tn_cast]
    rw [ej] at hm ⊢
    rw [ofn,ib_t (by omega) (by omega),cond_true]
    rw [tn_cast] at hm ⊢
    rw [show L.getD j (Ty.dflt (.arr 3 (.arr 3 (.int .u8)))) = atM L j from rfl,g114_ok oj hP hn hr rj]
    simp only
    rw [hm]
    simp only
    rw [w6_id (by omega) (by omega)]
    rfl
  · simp only [st51_8]
    rw [dlt_f (by omega),cond_false]
theorem same335 {g:Gr} (ho:(els g).all okM = true) (hl:(els g).length ≤ 2000000):∃ (q v:Int) (T:List term.den) (c:Int),T.length ≤ 1000000 ∧ cf335 (g,()) = some ((q,v,T,()),c,()) ∧ cf336 (g,()) = some ((q,v,T,()),c,()):=by
  obtain ⟨p,n,L,u⟩:=g
  change List Mat at L
  change Int at p
  change Int at n
  have ho:L.all okM = true:=ho
  have hl:L.length ≤ 2000000:=hl
  show ∃ (q v:Int) (T:List term.den) (c:Int),T.length ≤ 1000000 ∧ cf335 ((p,n,L,()),()) = some ((q,v,T,()),c,()) ∧ cf336 ((p,n,L,()),()) = some ((q,v,T,()),c,())
  have e1:cf72 ((p,n,L,()),()) = some (grB (p,n,L,()),()):=g72_ok ho hl
  have e2:cf127 ((p,n,L,()),()) = some (grB (p,n,L,()),()):=g127_ok ho hl
  cases h:grB (p,n,L,()) with
  | false =>
    refine ⟨0,0,[],1,by simp,?_,?_⟩
    · simp only [cf335,fn49]; rw [e1,h]; rfl
    · simp only [cf336,fn51]; rw [e2,h]; rfl
  | true =>
    have G:=grB_is h
    obtain ⟨k,ek,k1,k3⟩:=G.k
    change n = (k:Int) at ek
    subst ek
    have hlen:L.length ≤ 48:=G.len.2
    have hrl:(reflL p (k:Int) L).length ≤ L.length:=reflL_len
    by_cases hq:(reflL p (k:Int) L).length ≤ 12
    · have hp:=isP_pos (show isP p = true from G.hP)
      obtain ⟨c1,c2⟩:=mir_fine (p:=p) (n:=k) (L:=L) (R:=reflL p k L) (by omega) k3 _ hq
      have hle:=can_len c1 c2 (by omega)
      exact ⟨_,_,_,_,by omega,e335 h ho hl ⟨k1,k3⟩ hq,e336 h ho hl ⟨k1,k3⟩ hq⟩
    · have a1:cf126 ((p,(k:Int),L,()),()) = some (reflL p k L,()):=if_pos ⟨h,ho⟩
      have a2:cf128 ((p,(k:Int),L,()),()) = some (reflL p k L,()):=if_pos ⟨h,ho⟩
      refine ⟨0,0,[],3,by simp,?_,?_⟩
      · simp only [cf335,fn49]
        rw [e1,h]
        simp only [Bool.not_true,cond_false]
        rw [a1]
        simp only
        rw [dln_t (by omega),cond_true,ofn,dlt_t (by omega)]; rfl
      · simp only [cf336,fn51]
        rw [e2,h]
        simp only [Bool.not_true,cond_false]
        rw [a2]
        simp only
        rw [dln_t (by omega),cond_true,ofn,dlt_t (by omega)]; rfl
abbrev R10:Type:=Ress [.bool]
abbrev G10:Type:=Args [.v (.pair i64 (.pair i64 (.pair (.slice 111 mat) .unit)))]->Option R10
abbrev kp10:List (Nat × List Nat):=[(0,[1]),(1,[3,1]),(2,[3,1]),(3,[18,1]),(4,[2]),(5,[5,4,1]),(6,[6,5,4,1]),(7,[6,8,7,5,4,1]),(8,[40,6,8,7,5,4,1]),(9,[2]),(10,[45,1,4,5,7,8,6]),(11,[2]),(12,[6,9,8,7,5,4,1]),(13,[9,8,7,5,4,1]),(14,[61,7,5,4,1]),(15,[2]),(16,[10,1,4,5,7]),(17,[1,4,5,10,7]),(18,[11,1,4,5,10,7]),(19,[1,4,5,10,7,11]),(20,[69,1,4,5,10,7,11]),(21,[2]),(22,[72,7,10,5,4,1]),(23,[2]),(24,[12,4,13,5,10,7]),(25,[87,10,7]),(26,[2]),(27,[7,11,10]),(28,[10,11]),(29,[92,10,11]),(30,[2]),(31,[95]),(32,[2]),(33,[2])]
abbrev ct10 (g30:G30) (g54:G54) (g55:G55) (g53:G53) (g52:G52) (g51:G51) (g49:G49) (g50:G50) (g48:G48):CTab:=[(30,⟨[.v poly,.v poly],[.bool],false,false,0,g30⟩),(54,⟨[.v poly,.v i64],[poly,i64],false,false,1,g54⟩),(55,⟨[.v poly,.v i64],[i64],false,false,0,g55⟩),(53,⟨[.v (.pair i64 (.pair i64 (.pair (.slice 112 mat) .unit))),.v i64],[(.pair i64 (.pair i64 (.pair (.slice 112 mat) .unit))),i64],false,false,1,g53⟩),(52,⟨[.v (.pair i64 (.pair i64 (.pair (.slice 112 mat) .unit))),.v (.pair i64 (.pair i64 (.pair (.slice 112 mat) .unit)))],[.bool],false,false,0,g52⟩),(51,⟨[.v (.pair i64 (.pair i64 (.pair (.slice 112 mat) .unit)))],[poly,i64],true,false,0,g51⟩),(49,⟨[.v (.pair i64 (.pair i64 (.pair (.slice 112 mat) .unit)))],[poly,i64],true,false,0,g49⟩),(50,⟨[.v (.pair i64 (.pair i64 (.pair (.slice 111 mat) .unit)))],[(.pair i64 (.pair i64 (.pair (.slice 112 mat) .unit)))],true,false,0,g50⟩),(48,⟨[.v (.pair i64 (.pair i64 (.pair (.slice 111 mat) .unit))),.v i64],[i64],false,false,0,g48⟩)]
def fn10 (g30:G30) (g54:G54) (g55:G55) (g53:G53) (g52:G52) (g51:G51) (g49:G49) (g50:G50) (g48:G48) (F:Nat) (x:Args [.v (.pair i64 (.pair i64 (.pair (.slice 111 mat) .unit)))]):Option R10 :=
  match x with
  | (x0,_) => (match (g48 ((x0.1,(x0.2.1,(x0.2.2.1,()))),((1048576:Int),()))) with | some r13 => (bif decide (r13.1 < (0:Int)) then (some (true,())) else (match (g50 ((x0.1,(x0.2.1,(x0.2.2.1,()))),())) with | some r16 => (match (g49 ((r16.1.1,(r16.1.2.1,(r16.1.2.2.1,()))),())) with | some r17 => (match (g50 ((x0.1,(x0.2.1,(x0.2.2.1,()))),())) with | some r19 => (match (g51 ((r19.1.1,(r19.1.2.1,(r19.1.2.2.1,()))),())) with | some r21 => (match (g30 ((r21.1.1,(r21.1.2.1,(r21.1.2.2.1,()))),((r17.1.1,(r17.1.2.1,(r17.1.2.2.1,()))),()))) with | some r23 => (bif (!r23.1) then (some (false,())) else (bif (bif false then true else (!decide (r21.2.1 = r17.2.1))) then (some (false,())) else (match (g50 ((x0.1,(x0.2.1,(x0.2.2.1,()))),())) with | some r25 => (match (g52 ((r19.1.1,(r19.1.2.1,(r19.1.2.2.1,()))),((r25.1.1,(r25.1.2.1,(r25.1.2.2.1,()))),()))) with | some r26 => (bif (!r26.1) then (some (false,())) else (match (g53 ((r19.1.1,(r19.1.2.1,(r19.1.2.2.1,()))),((1:Int),()))) with | some r29 => (bif decide (r29.2.1 < (0:Int)) then (some (false,())) else (match (g30 ((r21.1.1,(r21.1.2.1,(r21.1.2.2.1,()))),((r17.1.1,(r17.1.2.1,(r17.1.2.2.1,()))),()))) with | some r31 => (bif (bif false then true else (!r31.1)) then (some (false,())) else (bif (bif false then true else (!decide (r21.2.1 = r17.2.1))) then (some (false,())) else (match (g54 ((r21.1.1,(r21.1.2.1,(r21.1.2.2.1,()))),((1:Int),()))) with | some r34 => (match (g55 ((r21.1.1,(r21.1.2.1,(r34.1.2.2.1,()))),((1:Int),()))) with | some r37 => (bif decide (r37.1 < (0:Int)) then (some (false,())) else (bif (!decide (r37.1 = r34.2.1)) then (some (false,())) else (match (g50 ((x0.1,(x0.2.1,(x0.2.2.1,()))),())) with | some r41 => (match (g51 ((r41.1.1,(r41.1.2.1,(r41.1.2.2.1,()))),())) with | some r42 => (match (g30 ((r42.1.1,(r42.1.2.1,(r42.1.2.2.1,()))),((r17.1.1,(r17.1.2.1,(r17.1.2.2.1,()))),()))) with | some r44 => (bif (!r44.1) then (some (false,())) else (bif (bif false then true else (!decide (r42.2.1 = r17.2.1))) then (some (false,())) else (match (g55 ((r21.1.1,(r21.1.2.1,(r34.1.2.2.1,()))),((1:Int),()))) with | some r47 => (bif decide (r47.1 < (0:Int)) then (some (false,())) else (bif (!decide (r47.1 = r34.2.1)) then (some (false,())) else (some (true,())))) | none => none))) | none => none) | none => none) | none => none))) | none => none) | none => none))) | none => none)) | none => none)) | none => none) | none => none))) | none => none) | none => none) | none => none) | none => none) | none => none)) | none => none)
theorem ev10 (g30:G30) (g54:G54) (g55:G55) (g53:G53) (g52:G52) (g51:G51) (g49:G49) (g50:G50) (g48:G48) (F:Nat) (x:Args [.v (.pair i64 (.pair i64 (.pair (.slice 111 mat) .unit)))]):fnK TT (ct10 g30 g54 g55 g53 g52 g51 g49 g50 g48 ) kp10 [.bool] [] (bodyOf Tryz.f10) [.tmp 2] [.v (.pair i64 (.pair i64 (.pair (.slice 111 mat) .unit)))] false false x = fn10 g30 g54 g55 g53 g52 g51 g49 g50 g48 F x:=by
  obtain ⟨x0,_⟩:=x
  kernel_rfl
theorem ok10 (g30:G30) (g54:G54) (g55:G55) (g53:G53) (g52:G52) (g51:G51) (g49:G49) (g50:G50) (g48:G48) (hK:KOK Tryz.prog (ct10 g30 g54 g55 g53 g52 g51 g49 g50 g48 )) (cf:G10) (h:∀ x y,cf x = some y->∃ F,fn10 g30 g54 g55 g53 g52 g51 g49 g50 g48 F x = some y):KOne Tryz.prog 10 ⟨[.v (.pair i64 (.pair i64 (.pair (.slice 111 mat) .unit)))],[.bool],false,false,0,cf⟩ :=
  fn_one rfl (c:=bodyOf Tryz.f10) mixed tt_ok hK Tryz.func10 (by kernel_rfl) (by kernel_rfl) (Nat.le_of_ble_eq_true (by kernel_rfl)) (by decide) fun x y hxy => by
    obtain ⟨F,hF⟩:=h x y hxy
    exact ⟨[],LTOK_by (l:=[]) (by kernel_rfl) trivial,(ev10 g30 g54 g55 g53 g52 g51 g49 g50 g48 F x).trans hF⟩
theorem law307_one:KOne Tryz.prog 10 ⟨[.v (.pair i64 (.pair i64 (.pair (.slice 111 mat) .unit)))],[.bool],false,false,0,fun x => bif okA [.v (.pair i64 (.pair i64 (.pair (.slice 111 mat) .unit)))] x then some (true,()) else none⟩ :=
  ok10 _ _ _ _ _ _ _ _ _ (.cons k39 (.cons k40 (.cons k41 (.cons k35 (.cons k34 (.cons k336 (.cons k335 (.cons k32 (.cons k30 .nil))))))))) _ fun x y h => by
    obtain ⟨g,_⟩:=x
    change Gr at g
    cases hx:okA [.v (.pair i64 (.pair i64 (.pair (.slice 111 mat) .unit)))] (g,()) with
    | false => simp only [hx,cond_false] at h; cases h
    | true =>
      simp only [hx,cond_true] at h
      injection h with h; subst h
      refine ⟨0,?_⟩
      simp only [okA,Bool.and_true] at hx
      obtain ⟨x1,x2⟩:=okG_of hx
      have c30:=g30_ok x1
      obtain ⟨p,n,L,u⟩:=g
      simp only [fn10]
      rw [c30]
      simp only
      by_cases hsz:sz30 (p,n,L,u) < 0
      · rw [dlt_t hsz,cond_true]
      · rw [dlt_f (by omega),cond_false]
        have hL:=sz30_small (by omega : 0 ≤ sz30 (p,n,L,u))
        have hL2:(els (p,n,L,u)).length ≤ 2000000:=by omega
        obtain ⟨q,v,T,c,hl,e1,e2⟩:=same335 x2 hL2
        have c32:=g32_ok hL2
        have c34:=g34_ok hL2
        have c35:=g35_ok (k:=1) hL2
        have c39:=g39_ok (p:=q) (v:=v) hl
        have c40:=g40_ok (p:=q) (v:=v) (k:=1) hl (by omega)
        have c41:=g41_ok (p:=q) (v:=v) (k:=1) (n:=T.length) hl (by omega)
        simp (disch:=omega) only [c32,e1,e2,c34,c35,c39,c40,c41,Bool.not_true,cond_false,cond_true,deq_t,decide_true,dlt_f]
end Go.Proofs.YtmdpmnjnpnjppaaGreatEv
