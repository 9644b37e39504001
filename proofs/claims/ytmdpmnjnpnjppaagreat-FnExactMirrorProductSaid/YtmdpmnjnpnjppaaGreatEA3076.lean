/- The program's operations on plain typed data, that the machine does the same, what the functions come to, and what they give (part 6). No condition. -/
import Derived.Test.YtmdpmnjnpnjppaaGreatEA3075
set_option linter.unusedVariables false
set_option linter.unusedSimpArgs false
namespace Go.Proofs.YtmdpmnjnpnjppaaGreatEv
open Go Go.RowKit
abbrev R222:Type:=Ress [.bool]
abbrev G222:Type:=Args [.v i64]->Option R222
abbrev kp222:List (Nat × List Nat):=[(0,[0]),(1,[2])]
abbrev ct222:CTab:=[]
def fn222 (F:Nat) (x:Args [.v i64]):Option R222 :=
  match x with
  | (x0,_) => (some ((!decide (x0 = (0:Int))),()))
theorem ev222 (F:Nat) (x:Args [.v i64]):fnK TT (ct222 ) kp222 [.bool] [] (bodyOf Tryz.f222) [.tmp 2] [.v i64] false false x = fn222 F x:=by
  obtain ⟨x0,_⟩:=x
  kernel_rfl
theorem ok222 (hK:KOK Tryz.prog (ct222 )) (cf:G222) (h:∀ x y,cf x = some y->∃ F,fn222 F x = some y):KOne Tryz.prog 222 ⟨[.v i64],[.bool],false,false,0,cf⟩ :=
  fn_one rfl (c:=bodyOf Tryz.f222) mixed tt_ok hK Tryz.func222 (by kernel_rfl) (by kernel_rfl) (Nat.le_of_ble_eq_true (by kernel_rfl)) (by decide) fun x y hxy => by
    obtain ⟨F,hF⟩:=h x y hxy
    exact ⟨[],LTOK_by (l:=[]) (by kernel_rfl) trivial,(ev222 F x).trans hF⟩
abbrev R221:Type:=Ress [i64]
abbrev G221:Type:=Args [.v (.slice 2 i64),.fn 222]->Option R221
abbrev kp221:List (Nat × List Nat):=[(0,[0,1]),(1,[8,0,1,7]),(2,[9,7,1,0,8]),(3,[7,1,0,8,5]),(4,[16,7,1,0,8,5]),(5,[4]),(6,[8,0,1,7]),(7,[4])]
abbrev ct221 (g222:G222):CTab:=[(222,⟨[.v i64],[.bool],false,false,0,g222⟩)]
abbrev kr221:Env->Option R221:=endK TT [.tmp 4] [i64] false false
abbrev sh221_2:Shape:=[(0,.val false [.fz (.slice 2 i64) 0 true]),(1,.fn 222 []),(7,vv i64),(8,vv i64)]
def st221_2 (g222:G222) (F:Nat) (s:ShVal sh221_2) (k kx:ShVal sh221_2->Option R221):Option R221 :=
  match s with
  | ((t0,_),_,(t7,_),(t8,_),_) => (bif decide (t8 < t7) then (bif ib t8 (Int.ofNat (List.length t0)) then (match (g222 ((List.getD t0 (tn t8) (0:Int)),())) with | some r11 => (bif r11.1 then (some (t8,())) else k ((t0,()),((),((t7,()),(((w6 (t8 + (1:Int))),()),()))))) | none => none) else none) else kx ((t0,()),((),((t7,()),((t8,()),())))))
def ru221_2 (g222:G222) (F:Nat) (s:ShVal sh221_2) (kx:ShVal sh221_2->Option R221):Option R221:=iter (fun s k => st221_2 g222 F s k kx) F s
abbrev ls221_2 (g222:G222) (F:Nat):LS R221:=⟨sh221_2,0,ru221_2 g222 F⟩
def fn221 (g222:G222) (F:Nat) (x:Args [.v (.slice 2 i64),.fn 222]):Option R221 :=
  match x with
  | (x0,x1,_) => (bif decide ((List.length x0) ≤ 9223372036854775807) then (ru221_2 g222 F ((x0,()),((),(((Int.ofNat (List.length x0)),()),(((0:Int),()),())))) (fun s' => match s' with | ((t0,_),_,(t7,_),(t8,_),_) => (some ((-(1:Int)),())))) else none)
theorem ev221_2 (g222:G222) (F:Nat) (s:ShVal sh221_2) (k kx:ShVal sh221_2->Option R221):evL TT (ct221 g222 ) kp221 [] (loopOf Tryz.f221 2) (envOf sh221_2 s) (fitK sh221_2 k) (fun j e => bif Nat.beq j 0 then fitK sh221_2 kx e else none) kr221 = st221_2 g222 F s k kx:=by
  obtain ⟨⟨t0,_⟩,_,⟨t7,_⟩,⟨t8,_⟩,_⟩:=s
  kernel_rfl
theorem ok221_2 (g222:G222) (F:Nat) (hK:KOK Tryz.prog (ct221 g222 )):LSOK Tryz.prog ⟨19,false,undef⟩ (ls221_2 g222 F) (loopOf Tryz.f221 2) kr221 :=
  loop_ok (st221_2 g222 F) mixed tt_ok hK (by kernel_rfl) (LTOK_by (l:=[]) (by kernel_rfl) trivial) (ev221_2 g222 F)
theorem ev221 (g222:G222) (F:Nat) (x:Args [.v (.slice 2 i64),.fn 222]):fnK TT (ct221 g222 ) kp221 [i64] [(2,ls221_2 g222 F)] (bodyOf Tryz.f221) [.tmp 4] [.v (.slice 2 i64),.fn 222] false false x = fn221 g222 F x:=by
  obtain ⟨x0,x1,_⟩:=x
  kernel_rfl
theorem ok221 (g222:G222) (hK:KOK Tryz.prog (ct221 g222 )) (cf:G221) (h:∀ x y,cf x = some y->∃ F,fn221 g222 F x = some y):KOne Tryz.prog 221 ⟨[.v (.slice 2 i64),.fn 222],[i64],false,false,0,cf⟩ :=
  fn_one rfl (c:=bodyOf Tryz.f221) mixed tt_ok hK Tryz.func221 (by kernel_rfl) (by kernel_rfl) (Nat.le_of_ble_eq_true (by kernel_rfl)) (by decide) fun x y hxy => by
    obtain ⟨F,hF⟩:=h x y hxy
    exact ⟨[(2,ls221_2 g222 F)],LTOK_by (l:=[loopOf Tryz.f221 2]) (by kernel_rfl) ⟨ls_at (by kernel_rfl) (ok221_2 g222 F hK),trivial⟩,(ev221 g222 F x).trans hF⟩
abbrev R172:Type:=Ress [i64]
abbrev G172:Type:=Args [.v (.slice 2 i64)]->Option R172
abbrev kp172:List (Nat × List Nat):=[(0,[0]),(1,[2])]
abbrev ct172 (g221:G221):CTab:=[(221,⟨[.v (.slice 2 i64),.fn 222],[i64],false,false,0,g221⟩)]
def fn172 (g221:G221) (F:Nat) (x:Args [.v (.slice 2 i64)]):Option R172 :=
  match x with
  | (x0,_) => (match (g221 (x0,((),()))) with | some r4 => (some (r4.1,())) | none => none)
theorem ev172 (g221:G221) (F:Nat) (x:Args [.v (.slice 2 i64)]):fnK TT (ct172 g221 ) kp172 [i64] [] (bodyOf Tryz.f172) [.tmp 2] [.v (.slice 2 i64)] false false x = fn172 g221 F x:=by
  obtain ⟨x0,_⟩:=x
  kernel_rfl
theorem ok172 (g221:G221) (hK:KOK Tryz.prog (ct172 g221 )) (cf:G172) (h:∀ x y,cf x = some y->∃ F,fn172 g221 F x = some y):KOne Tryz.prog 172 ⟨[.v (.slice 2 i64)],[i64],false,false,0,cf⟩ :=
  fn_one rfl (c:=bodyOf Tryz.f172) mixed tt_ok hK Tryz.func172 (by kernel_rfl) (by kernel_rfl) (Nat.le_of_ble_eq_true (by kernel_rfl)) (by decide) fun x y hxy => by
    obtain ⟨F,hF⟩:=h x y hxy
    exact ⟨[],LTOK_by (l:=[]) (by kernel_rfl) trivial,(ev172 g221 F x).trans hF⟩
abbrev R201:Type:=Ress [i64]
abbrev G201:Type:=Args [.v i64,.v i64]->Option R201
abbrev kp201:List (Nat × List Nat):=[(0,[1,0]),(1,[5,1,0]),(2,[8,0,1,5]),(4,[16,0,1,5]),(5,[4]),(3,[5,1,0]),(6,[4])]
abbrev ct201:CTab:=[]
abbrev kr201:Env->Option R201:=endK TT [.tmp 4] [i64] false false
abbrev sh201_2:Shape:=[(0,vv i64),(1,vv i64),(5,vv i64)]
def st201_2 (F:Nat) (s:ShVal sh201_2) (k kx:ShVal sh201_2->Option R201):Option R201 :=
  match s with
  | ((t0,_),(t1,_),(t5,_),_) => (bif decide (t5 < t1) then (bif (!decide (t1 = (0:Int))) then (bif decide ((Int.tmod (w6 (t0 * t5)) t1) = (1:Int)) then (some (t5,())) else k ((t0,()),((t1,()),(((w6 (t5 + (1:Int))),()),())))) else none) else kx ((t0,()),((t1,()),((t5,()),()))))
def ru201_2 (F:Nat) (s:ShVal sh201_2) (kx:ShVal sh201_2->Option R201):Option R201:=iter (fun s k => st201_2 F s k kx) F s
abbrev ls201_2 (F:Nat):LS R201:=⟨sh201_2,0,ru201_2 F⟩
def fn201 (F:Nat) (x:Args [.v i64,.v i64]):Option R201 :=
  match x with
  | (x0,x1,_) => (ru201_2 F ((x0,()),((x1,()),(((1:Int),()),()))) (fun s' => match s' with | ((t0,_),(t1,_),(t5,_),_) => (some ((0:Int),()))))
theorem ev201_2 (F:Nat) (s:ShVal sh201_2) (k kx:ShVal sh201_2->Option R201):evL TT (ct201 ) kp201 [] (loopOf Tryz.f201 2) (envOf sh201_2 s) (fitK sh201_2 k) (fun j e => bif Nat.beq j 0 then fitK sh201_2 kx e else none) kr201 = st201_2 F s k kx:=by
  obtain ⟨⟨t0,_⟩,⟨t1,_⟩,⟨t5,_⟩,_⟩:=s
  kernel_rfl
theorem ok201_2 (F:Nat) (hK:KOK Tryz.prog (ct201 )):LSOK Tryz.prog ⟨18,false,undef⟩ (ls201_2 F) (loopOf Tryz.f201 2) kr201 :=
  loop_ok (st201_2 F) mixed tt_ok hK (by kernel_rfl) (LTOK_by (l:=[]) (by kernel_rfl) trivial) (ev201_2 F)
theorem ev201 (F:Nat) (x:Args [.v i64,.v i64]):fnK TT (ct201 ) kp201 [i64] [(2,ls201_2 F)] (bodyOf Tryz.f201) [.tmp 4] [.v i64,.v i64] false false x = fn201 F x:=by
  obtain ⟨x0,x1,_⟩:=x
  kernel_rfl
theorem ok201 (hK:KOK Tryz.prog (ct201 )) (cf:G201) (h:∀ x y,cf x = some y->∃ F,fn201 F x = some y):KOne Tryz.prog 201 ⟨[.v i64,.v i64],[i64],false,false,0,cf⟩ :=
  fn_one rfl (c:=bodyOf Tryz.f201) mixed tt_ok hK Tryz.func201 (by kernel_rfl) (by kernel_rfl) (Nat.le_of_ble_eq_true (by kernel_rfl)) (by decide) fun x y hxy => by
    obtain ⟨F,hF⟩:=h x y hxy
    exact ⟨[(2,ls201_2 F)],LTOK_by (l:=[loopOf Tryz.f201 2]) (by kernel_rfl) ⟨ls_at (by kernel_rfl) (ok201_2 F hK),trivial⟩,(ev201 F x).trans hF⟩
abbrev R173:Type:=Ress [(.slice 2 i64)]
abbrev G173:Type:=Args [.v i64,.v (.slice 44 (.slice 2 i64)),.v (.slice 2 i64)]->Option R173
abbrev kp173:List (Nat × List Nat):=[(0,[2,1,0]),(1,[1,2,0]),(2,[16,2,0,14,15]),(3,[17,0,2,16,14,15]),(4,[8,0,2,16,14,15]),(5,[8,0,9,2,16,14,15]),(6,[26,8,0,9,2,16,14,15]),(7,[29,0,9,2,27,16,14,15,28]),(8,[30,29,0,9,2,27,16,14,15,28]),(9,[10,11,29,0,9,2,27,16,14,15,28]),(10,[29,0,9,2,27,16,14,15,28]),(11,[29,0,9,2,27,16,14,15,28]),(12,[16,2,0,14,15]),(13,[6])]
abbrev ct173 (g223:G223) (g172:G172):CTab:=[(223,⟨[.v (.slice 2 i64)],[(.slice 2 i64)],true,false,0,g223⟩),(172,⟨[.v (.slice 2 i64)],[i64],false,false,0,g172⟩)]
abbrev kr173:Env->Option R173:=endK TT [.tmp 6] [(.slice 2 i64)] true false
abbrev sh173_8:Shape:=[(0,vv i64),(2,vr 2 i64 33 false),(9,vv i64),(14,.val false [.fz (.slice 44 (.slice 2 i64)) 0 true]),(15,vv i64),(16,vv i64),(27,.val false [.fz (.slice 2 i64) 0 true]),(28,vv i64),(29,vv i64)]
def st173_8 (g223:G223) (g172:G172) (F:Nat) (s:ShVal sh173_8) (k kx:ShVal sh173_8->Option R173):Option R173 :=
  match s with
  | ((t0,_),(t2,_),(t9,_),(t14,_),(t15,_),(t16,_),(t27,_),(t28,_),(t29,_),_) => (bif decide (t29 < t28) then (bif ib t29 (Int.ofNat (List.length t27)) then (bif ib t29 (Int.ofNat (List.length t2)) then (bif (!decide (t0 = (0:Int))) then (bif ib t29 (Int.ofNat (List.length t2)) then k ((t0,()),(((List.set t2 (tn t29) (Int.tmod (w6 ((List.getD t2 (tn t29) (0:Int)) + (w6 ((w6 (t0 - t9)) * (List.getD t27 (tn t29) (0:Int)))))) t0)),()),((t9,()),((t14,()),((t15,()),((t16,()),((t27,()),((t28,()),(((w6 (t29 + (1:Int))),()),()))))))))) else none) else none) else none) else none) else kx ((t0,()),((t2,()),((t9,()),((t14,()),((t15,()),((t16,()),((t27,()),((t28,()),((t29,()),()))))))))))
def ru173_8 (g223:G223) (g172:G172) (F:Nat) (s:ShVal sh173_8) (kx:ShVal sh173_8->Option R173):Option R173:=iter (fun s k => st173_8 g223 g172 F s k kx) F s
abbrev ls173_8 (g223:G223) (g172:G172) (F:Nat):LS R173:=⟨sh173_8,2,ru173_8 g223 g172 F⟩
abbrev sh173_3:Shape:=[(0,vv i64),(2,vr 2 i64 33 false),(14,.val false [.fz (.slice 44 (.slice 2 i64)) 0 true]),(15,vv i64),(16,vv i64)]
def st173_3 (g223:G223) (g172:G172) (F:Nat) (s:ShVal sh173_3) (k kx:ShVal sh173_3->Option R173):Option R173 :=
  match s with
  | ((t0,_),(t2,_),(t14,_),(t15,_),(t16,_),_) => (bif decide (t16 < t15) then (bif ib t16 (Int.ofNat (List.length t14)) then (match (g172 ((List.getD t14 (tn t16) []),())) with | some r17 => (bif ib r17.1 (Int.ofNat (List.length t2)) then (bif (!decide ((List.getD t2 (tn r17.1) (0:Int)) = (0:Int))) then (bif decide ((List.length (List.getD t14 (tn t16) [])) ≤ 9223372036854775807) then (ru173_8 g223 g172 F ((t0,()),((t2,()),(((List.getD t2 (tn r17.1) (0:Int)),()),((t14,()),((t15,()),((t16,()),(((List.getD t14 (tn t16) []),()),(((Int.ofNat (List.length (List.getD t14 (tn t16) []))),()),(((0:Int),()),()))))))))) (fun s' => match s' with | ((t0,_),(t2,_),(t9,_),(t14,_),(t15,_),(t16,_),(t27,_),(t28,_),(t29,_),_) => k ((t0,()),((t2,()),((t14,()),((t15,()),(((w6 (t16 + (1:Int))),()),()))))))) else none) else k ((t0,()),((t2,()),((t14,()),((t15,()),(((w6 (t16 + (1:Int))),()),())))))) else none) | none => none) else none) else kx ((t0,()),((t2,()),((t14,()),((t15,()),((t16,()),()))))))
def ru173_3 (g223:G223) (g172:G172) (F:Nat) (s:ShVal sh173_3) (kx:ShVal sh173_3->Option R173):Option R173:=iter (fun s k => st173_3 g223 g172 F s k kx) F s
abbrev ls173_3 (g223:G223) (g172:G172) (F:Nat):LS R173:=⟨sh173_3,0,ru173_3 g223 g172 F⟩
def fn173 (g223:G223) (g172:G172) (F:Nat) (x:Args [.v i64,.v (.slice 44 (.slice 2 i64)),.v (.slice 2 i64)]):Option R173 :=
  match x with
  | (x0,x1,x2,_) => (match (g223 (x2,())) with | some r7 => (bif decide ((List.length x1) ≤ 9223372036854775807) then (ru173_3 g223 g172 F ((x0,()),((r7.1,()),((x1,()),(((Int.ofNat (List.length x1)),()),(((0:Int),()),()))))) (fun s' => match s' with | ((t0,_),(t2,_),(t14,_),(t15,_),(t16,_),_) => (some (t2,())))) else none) | none => none)
theorem ev173_8 (g223:G223) (g172:G172) (F:Nat) (s:ShVal sh173_8) (k kx:ShVal sh173_8->Option R173):evL TT (ct173 g223 g172 ) kp173 [] (loopOf Tryz.f173 8) (envOf sh173_8 s) (fitK sh173_8 k) (fun j e => bif Nat.beq j 2 then fitK sh173_8 kx e else none) kr173 = st173_8 g223 g172 F s k kx:=by
  obtain ⟨⟨t0,_⟩,⟨t2,_⟩,⟨t9,_⟩,⟨t14,_⟩,⟨t15,_⟩,⟨t16,_⟩,⟨t27,_⟩,⟨t28,_⟩,⟨t29,_⟩,_⟩:=s
  kernel_rfl
theorem ok173_8 (g223:G223) (g172:G172) (F:Nat) (hK:KOK Tryz.prog (ct173 g223 g172 )):LSOK Tryz.prog ⟨52,false,undef⟩ (ls173_8 g223 g172 F) (loopOf Tryz.f173 8) kr173 :=
  loop_ok (st173_8 g223 g172 F) mixed tt_ok hK (by kernel_rfl) (LTOK_by (l:=[]) (by kernel_rfl) trivial) (ev173_8 g223 g172 F)
theorem ev173_3 (g223:G223) (g172:G172) (F:Nat) (s:ShVal sh173_3) (k kx:ShVal sh173_3->Option R173):evL TT (ct173 g223 g172 ) kp173 [(8,ls173_8 g223 g172 F)] (loopOf Tryz.f173 3) (envOf sh173_3 s) (fitK sh173_3 k) (fun j e => bif Nat.beq j 0 then fitK sh173_3 kx e else none) kr173 = st173_3 g223 g172 F s k kx:=by
  obtain ⟨⟨t0,_⟩,⟨t2,_⟩,⟨t14,_⟩,⟨t15,_⟩,⟨t16,_⟩,_⟩:=s
  kernel_rfl
theorem ok173_3 (g223:G223) (g172:G172) (F:Nat) (hK:KOK Tryz.prog (ct173 g223 g172 )):LSOK Tryz.prog ⟨52,false,undef⟩ (ls173_3 g223 g172 F) (loopOf Tryz.f173 3) kr173 :=
  loop_ok (st173_3 g223 g172 F) mixed tt_ok hK (by kernel_rfl) (LTOK_by (l:=[loopOf Tryz.f173 8]) (by kernel_rfl) ⟨ls_at (by kernel_rfl) (ok173_8 g223 g172 F hK),trivial⟩) (ev173_3 g223 g172 F)
theorem ev173 (g223:G223) (g172:G172) (F:Nat) (x:Args [.v i64,.v (.slice 44 (.slice 2 i64)),.v (.slice 2 i64)]):fnK TT (ct173 g223 g172 ) kp173 [(.slice 2 i64)] [(3,ls173_3 g223 g172 F)] (bodyOf Tryz.f173) [.tmp 6] [.v i64,.v (.slice 44 (.slice 2 i64)),.v (.slice 2 i64)] true false x = fn173 g223 g172 F x:=by
  obtain ⟨x0,x1,x2,_⟩:=x
  kernel_rfl
theorem ok173 (g223:G223) (g172:G172) (hK:KOK Tryz.prog (ct173 g223 g172 )) (cf:G173) (h:∀ x y,cf x = some y->∃ F,fn173 g223 g172 F x = some y):KOne Tryz.prog 173 ⟨[.v i64,.v (.slice 44 (.slice 2 i64)),.v (.slice 2 i64)],[(.slice 2 i64)],true,false,0,cf⟩ :=
  fn_one rfl (c:=bodyOf Tryz.f173) mixed tt_ok hK Tryz.func173 (by kernel_rfl) (by kernel_rfl) (Nat.le_of_ble_eq_true (by kernel_rfl)) (by decide) fun x y hxy => by
    obtain ⟨F,hF⟩:=h x y hxy
    exact ⟨[(3,ls173_3 g223 g172 F)],LTOK_by (l:=[loopOf Tryz.f173 3]) (by kernel_rfl) ⟨ls_at (by kernel_rfl) (ok173_3 g223 g172 F hK),trivial⟩,(ev173 g223 g172 F x).trans hF⟩
abbrev R224:Type:=Ress [(.slice 44 (.slice 2 i64))]
abbrev G224:Type:=Args [.v i64,.v (.slice 44 (.slice 2 i64)),.v (.slice 2 i64)]->Option R224
abbrev kp224:List (Nat × List Nat):=[(0,[2,0,1]),(1,[2,0,1]),(2,[2,0,7,1]),(3,[19,2,0,7,1]),(4,[6]),(5,[0,8,2,1]),(6,[29,0,8,2,1,28]),(7,[30,29,0,8,2,1,28]),(8,[9,29,0,8,2,1,28]),(9,[29,0,8,2,1,28]),(10,[29,0,8,2,1,28]),(11,[46,2,0,1,44,45]),(12,[47,46,2,0,1,44,45]),(13,[10,11,46,2,0,1,44,45]),(14,[46,2,0,1,44,45]),(15,[46,2,0,1,44,45]),(16,[6])]
abbrev ct224 (g173:G173) (g201:G201) (g172:G172):CTab:=[(173,⟨[.v i64,.v (.slice 44 (.slice 2 i64)),.v (.slice 2 i64)],[(.slice 2 i64)],true,false,0,g173⟩),(201,⟨[.v i64,.v i64],[i64],false,false,0,g201⟩),(172,⟨[.v (.slice 2 i64)],[i64],false,false,0,g172⟩)]
abbrev kr224:Env->Option R224:=endK TT [.tmp 6] [(.slice 44 (.slice 2 i64))] true false
abbrev sh224_7:Shape:=[(0,vv i64),(1,vr 44 (.slice 2 i64) 17 false),(2,vr 2 i64 33 false),(8,vv i64),(28,vv i64),(29,vv i64)]
def st224_7 (g173:G173) (g201:G201) (g172:G172) (F:Nat) (s:ShVal sh224_7) (k kx:ShVal sh224_7->Option R224):Option R224 :=
  match s with
  | ((t0,_),(t1,_),(t2,_),(t8,_),(t28,_),(t29,_),_) => (bif decide (t29 < t28) then (bif ib t29 (Int.ofNat (List.length t2)) then (bif (!decide (t0 = (0:Int))) then (bif ib t29 (Int.ofNat (List.length t2)) then k ((t0,()),((t1,()),(((List.set t2 (tn t29) (Int.tmod (w6 ((List.getD t2 (tn t29) (0:Int)) * t8)) t0)),()),((t8,()),((t28,()),(((w6 (t29 + (1:Int))),()),())))))) else none) else none) else none) else kx ((t0,()),((t1,()),((t2,()),((t8,()),((t28,()),((t29,()),())))))))
def ru224_7 (g173:G173) (g201:G201) (g172:G172) (F:Nat) (s:ShVal sh224_7) (kx:ShVal sh224_7->Option R224):Option R224:=iter (fun s k => st224_7 g173 g201 g172 F s k kx) F s
abbrev ls224_7 (g173:G173) (g201:G201) (g172:G172) (F:Nat):LS R224:=⟨sh224_7,0,ru224_7 g173 g201 g172 F⟩
abbrev sh224_12:Shape:=[(0,vv i64),(1,vr 44 (.slice 2 i64) 17 false),(2,vr 2 i64 33 false),(44,vr 44 (.slice 2 i64) 17 false),(45,vv i64),(46,vv i64)]
def st224_12 (g173:G173) (g201:G201) (g172:G172) (F:Nat) (s:ShVal sh224_12) (k kx:ShVal sh224_12->Option R224):Option R224 :=
  match s with
  | ((t0,_),(t1,_),(t2,_),(t44,_),(t45,_),(t46,_),_) => (bif decide (t46 < t45) then (bif ib t46 (Int.ofNat (List.length t44)) then (match (g173 (t0,((t2 :: []),((List.getD t44 (tn t46) []),())))) with | some r31 => (bif ib t46 (Int.ofNat (List.length t1)) then k ((t0,()),(((List.set t1 (tn t46) r31.1),()),((t2,()),(((List.set t44 (tn t46) r31.1),()),((t45,()),(((w6 (t46 + (1:Int))),()),())))))) else none) | none => none) else none) else kx ((t0,()),((t1,()),((t2,()),((t44,()),((t45,()),((t46,()),())))))))
def ru224_12 (g173:G173) (g201:G201) (g172:G172) (F:Nat) (s:ShVal sh224_12) (kx:ShVal sh224_12->Option R224):Option R224:=iter (fun s k => st224_12 g173 g201 g172 F s k kx) F s
abbrev ls224_12 (g173:G173) (g201:G201) (g172:G172) (F:Nat):LS R224:=⟨sh224_12,2,ru224_12 g173 g201 g172 F⟩
def fn224 (g173:G173) (g201:G201) (g172:G172) (F:Nat) (x:Args [.v i64,.v (.slice 44 (.slice 2 i64)),.v (.slice 2 i64)]):Option R224 :=
  match x with
  | (x0,x1,x2,_) => (match (g173 (x0,(x1,(x2,())))) with | some r8 => (match (g172 (r8.1,())) with | some r10 => (bif decide (r10.1 < (0:Int)) then (some (x1,())) else (bif ib r10.1 (Int.ofNat (List.length r8.1)) then (match (g201 ((List.getD r8.1 (tn r10.1) (0:Int)),(x0,()))) with | some r13 => (bif decide ((List.length r8.1) ≤ 9223372036854775807) then (ru224_7 g173 g201 g172 F ((x0,()),((x1,()),((r8.1,()),((r13.1,()),(((Int.ofNat (List.length r8.1)),()),(((0:Int),()),())))))) (fun s' => match s' with | ((t0,_),(t1,_),(t2,_),(t8,_),(t28,_),(t29,_),_) => (bif decide ((List.length t1) ≤ 9223372036854775807) then (ru224_12 g173 g201 g172 F ((t0,()),((t1,()),((t2,()),((t1,()),(((Int.ofNat (List.length t1)),()),(((0:Int),()),())))))) (fun s' => match s' with | ((t0,_),(t1,_),(t2,_),(t44,_),(t45,_),(t46,_),_) => (bif (growOk (List.length t1) (List.length (t2 :: []))) then (some ((t1 ++ (t2 :: [])),())) else none))) else none))) else none) | none => none) else none)) | none => none) | none => none)
theorem ev224_7 (g173:G173) (g201:G201) (g172:G172) (F:Nat) (s:ShVal sh224_7) (k kx:ShVal sh224_7->Option R224):evL TT (ct224 g173 g201 g172 ) kp224 [] (loopOf Tryz.f224 7) (envOf sh224_7 s) (fitK sh224_7 k) (fun j e => bif Nat.beq j 0 then fitK sh224_7 kx e else none) kr224 = st224_7 g173 g201 g172 F s k kx:=by
  obtain ⟨⟨t0,_⟩,⟨t1,_⟩,⟨t2,_⟩,⟨t8,_⟩,⟨t28,_⟩,⟨t29,_⟩,_⟩:=s
  kernel_rfl
theorem ok224_7 (g173:G173) (g201:G201) (g172:G172) (F:Nat) (hK:KOK Tryz.prog (ct224 g173 g201 g172 )):LSOK Tryz.prog ⟨64,false,undef⟩ (ls224_7 g173 g201 g172 F) (loopOf Tryz.f224 7) kr224 :=
  loop_ok (st224_7 g173 g201 g172 F) mixed tt_ok hK (by kernel_rfl) (LTOK_by (l:=[]) (by kernel_rfl) trivial) (ev224_7 g173 g201 g172 F)
theorem ev224_12 (g173:G173) (g201:G201) (g172:G172) (F:Nat) (s:ShVal sh224_12) (k kx:ShVal sh224_12->Option R224):evL TT (ct224 g173 g201 g172 ) kp224 [] (loopOf Tryz.f224 12) (envOf sh224_12 s) (fitK sh224_12 k) (fun j e => bif Nat.beq j 2 then fitK sh224_12 kx e else none) kr224 = st224_12 g173 g201 g172 F s k kx:=by
  obtain ⟨⟨t0,_⟩,⟨t1,_⟩,⟨t2,_⟩,⟨t44,_⟩,⟨t45,_⟩,⟨t46,_⟩,_⟩:=s
  kernel_rfl
theorem ok224_12 (g173:G173) (g201:G201) (g172:G172) (F:Nat) (hK:KOK Tryz.prog (ct224 g173 g201 g172 )):LSOK Tryz.prog ⟨64,false,undef⟩ (ls224_12 g173 g201 g172 F) (loopOf Tryz.f224 12) kr224 :=
  loop_ok (st224_12 g173 g201 g172 F) mixed tt_ok hK (by kernel_rfl) (LTOK_by (l:=[]) (by kernel_rfl) trivial) (ev224_12 g173 g201 g172 F)
theorem ev224 (g173:G173) (g201:G201) (g172:G172) (F:Nat) (x:Args [.v i64,.v (.slice 44 (.slice 2 i64)),.v (.slice 2 i64)]):fnX TT (ct224 g173 g201 g172 ) kp224 .i64 44 (.slice 2 i64) (.slice 2 i64) (.slice 44 (.slice 2 i64)) [(7,ls224_7 g173 g201 g172 F),(12,ls224_12 g173 g201 g172 F)] (bodyOf Tryz.f224) [.tmp 6] x = fn224 g173 g201 g172 F x:=by
  obtain ⟨x0,x1,x2,_⟩:=x
  kernel_rfl
theorem ok224 (g173:G173) (g201:G201) (g172:G172) (hK:KOK Tryz.prog (ct224 g173 g201 g172 )) (cf:G224) (h:∀ x y,cf x = some y->∃ F,fn224 g173 g201 g172 F x = some y):KOne Tryz.prog 224 ⟨[.v i64,.v (.slice 44 (.slice 2 i64)),.v (.slice 2 i64)],[(.slice 44 (.slice 2 i64))],true,false,2,cf⟩ :=
  fnX_one (c:=bodyOf Tryz.f224) mixed tt_ok hK Tryz.func224 (by kernel_rfl) (by kernel_rfl) (Nat.le_of_ble_eq_true (by kernel_rfl)) (by decide) fun x y hxy => by
    obtain ⟨F,hF⟩:=h x y hxy
    exact ⟨[(7,ls224_7 g173 g201 g172 F),(12,ls224_12 g173 g201 g172 F)],LTOK_by (l:=[loopOf Tryz.f224 7,loopOf Tryz.f224 12]) (by kernel_rfl) ⟨ls_at (by kernel_rfl) (ok224_7 g173 g201 g172 F hK),⟨ls_at (by kernel_rfl) (ok224_12 g173 g201 g172 F hK),trivial⟩⟩,(ev224 g173 g201 g172 F x).trans hF⟩
abbrev R226:Type:=Ress [i64]
abbrev G226:Type:=Args [.v (.slice 2 i64),.v (.slice 2 i64)]->Option R226
abbrev kp226:List (Nat × List Nat):=[(0,[0,1]),(1,[4])]
abbrev ct226 (g172:G172):CTab:=[(172,⟨[.v (.slice 2 i64)],[i64],false,false,0,g172⟩)]
def fn226 (g172:G172) (F:Nat) (x:Args [.v (.slice 2 i64),.v (.slice 2 i64)]):Option R226 :=
  match x with
  | (x0,x1,_) => (match (g172 (x0,())) with | some r5 => (match (g172 (x1,())) with | some r6 => (some ((w6 (r5.1 - r6.1)),())) | none => none) | none => none)
theorem ev226 (g172:G172) (F:Nat) (x:Args [.v (.slice 2 i64),.v (.slice 2 i64)]):fnK TT (ct226 g172 ) kp226 [i64] [] (bodyOf Tryz.f226) [.tmp 4] [.v (.slice 2 i64),.v (.slice 2 i64)] false false x = fn226 g172 F x:=by
  obtain ⟨x0,x1,_⟩:=x
  kernel_rfl
theorem ok226 (g172:G172) (hK:KOK Tryz.prog (ct226 g172 )) (cf:G226) (h:∀ x y,cf x = some y->∃ F,fn226 g172 F x = some y):KOne Tryz.prog 226 ⟨[.v (.slice 2 i64),.v (.slice 2 i64)],[i64],false,false,0,cf⟩ :=
  fn_one rfl (c:=bodyOf Tryz.f226) mixed tt_ok hK Tryz.func226 (by kernel_rfl) (by kernel_rfl) (Nat.le_of_ble_eq_true (by kernel_rfl)) (by decide) fun x y hxy => by
    obtain ⟨F,hF⟩:=h x y hxy
    exact ⟨[],LTOK_by (l:=[]) (by kernel_rfl) trivial,(ev226 g172 F x).trans hF⟩
abbrev R176:Type:=Ress [(.slice 44 (.slice 2 i64))]
abbrev G176:Type:=Args [.v i64,.v (.slice 44 (.slice 2 i64))]->Option R176
abbrev kp176:List (Nat × List Nat):=[(0,[1,0]),(1,[1,5,0]),(2,[11,5,0,9,10]),(3,[12,5,11,0,9,10]),(4,[5,7,11,0,9,10]),(5,[11,5,0,9,10]),(6,[11,5,0,9,10]),(7,[5]),(8,[4])]
abbrev ct176 (g225:G225) (g224:G224):CTab:=[(225,⟨[.v (.slice 44 (.slice 2 i64)),.fn 226],[(.slice 44 (.slice 2 i64))],false,false,1,g225⟩),(224,⟨[.v i64,.v (.slice 44 (.slice 2 i64)),.v (.slice 2 i64)],[(.slice 44 (.slice 2 i64))],true,false,2,g224⟩)]
abbrev kr176:Env->Option R176:=endK TT [.tmp 4] [(.slice 44 (.slice 2 i64))] true false
abbrev sh176_3:Shape:=[(0,vv i64),(5,vr 44 (.slice 2 i64) 81 false),(9,.val false [.fz (.slice 44 (.slice 2 i64)) 0 true]),(10,vv i64),(11,vv i64)]
def st176_3 (g225:G225) (g224:G224) (F:Nat) (s:ShVal sh176_3) (k kx:ShVal sh176_3->Option R176):Option R176 :=
  match s with
  | ((t0,_),(t5,_),(t9,_),(t10,_),(t11,_),_) => (bif decide (t11 < t10) then (bif ib t11 (Int.ofNat (List.length t9)) then (match (g224 (t0,(t5,((List.getD t9 (tn t11) []),())))) with | some r15 => k ((t0,()),((r15.1,()),((t9,()),((t10,()),(((w6 (t11 + (1:Int))),()),()))))) | none => none) else none) else kx ((t0,()),((t5,()),((t9,()),((t10,()),((t11,()),()))))))
def ru176_3 (g225:G225) (g224:G224) (F:Nat) (s:ShVal sh176_3) (kx:ShVal sh176_3->Option R176):Option R176:=iter (fun s k => st176_3 g225 g224 F s k kx) F s
abbrev ls176_3 (g225:G225) (g224:G224) (F:Nat):LS R176:=⟨sh176_3,0,ru176_3 g225 g224 F⟩
def fn176 (g225:G225) (g224:G224) (F:Nat) (x:Args [.v i64,.v (.slice 44 (.slice 2 i64))]):Option R176 :=
  match x with
  | (x0,x1,_) => (bif decide ((List.length x1) ≤ 9223372036854775807) then (ru176_3 g225 g224 F ((x0,()),(([],()),((x1,()),(((Int.ofNat (List.length x1)),()),(((0:Int),()),()))))) (fun s' => match s' with | ((t0,_),(t5,_),(t9,_),(t10,_),(t11,_),_) => (match (g225 (t5,((),()))) with | some r13 => (some ((bif ((Nat.beq 44 44) && ((Nat.beq 2 2) && true)) then r13.1 else []),())) | none => none))) else none)
theorem ev176_3 (g225:G225) (g224:G224) (F:Nat) (s:ShVal sh176_3) (k kx:ShVal sh176_3->Option R176):evL TT (ct176 g225 g224 ) kp176 [] (loopOf Tryz.f176 3) (envOf sh176_3 s) (fitK sh176_3 k) (fun j e => bif Nat.beq j 0 then fitK sh176_3 kx e else none) kr176 = st176_3 g225 g224 F s k kx:=by
  obtain ⟨⟨t0,_⟩,⟨t5,_⟩,⟨t9,_⟩,⟨t10,_⟩,⟨t11,_⟩,_⟩:=s
  kernel_rfl
theorem ok176_3 (g225:G225) (g224:G224) (F:Nat) (hK:KOK Tryz.prog (ct176 g225 g224 )):LSOK Tryz.prog ⟨23,false,undef⟩ (ls176_3 g225 g224 F) (loopOf Tryz.f176 3) kr176 :=
  loop_ok (st176_3 g225 g224 F) mixed tt_ok hK (by kernel_rfl) (LTOK_by (l:=[]) (by kernel_rfl) trivial) (ev176_3 g225 g224 F)
theorem ev176 (g225:G225) (g224:G224) (F:Nat) (x:Args [.v i64,.v (.slice 44 (.slice 2 i64))]):fnK TT (ct176 g225 g224 ) kp176 [(.slice 44 (.slice 2 i64))] [(3,ls176_3 g225 g224 F)] (bodyOf Tryz.f176) [.tmp 4] [.v i64,.v (.slice 44 (.slice 2 i64))] true false x = fn176 g225 g224 F x:=by
  obtain ⟨x0,x1,_⟩:=x
  kernel_rfl
theorem ok176 (g225:G225) (g224:G224) (hK:KOK Tryz.prog (ct176 g225 g224 )) (cf:G176) (h:∀ x y,cf x = some y->∃ F,fn176 g225 g224 F x = some y):KOne Tryz.prog 176 ⟨[.v i64,.v (.slice 44 (.slice 2 i64))],[(.slice 44 (.slice 2 i64))],true,false,0,cf⟩ :=
  fn_one rfl (c:=bodyOf Tryz.f176) mixed tt_ok hK Tryz.func176 (by kernel_rfl) (by kernel_rfl) (Nat.le_of_ble_eq_true (by kernel_rfl)) (by decide) fun x y hxy => by
    obtain ⟨F,hF⟩:=h x y hxy
    exact ⟨[(3,ls176_3 g225 g224 F)],LTOK_by (l:=[loopOf Tryz.f176 3]) (by kernel_rfl) ⟨ls_at (by kernel_rfl) (ok176_3 g225 g224 F hK),trivial⟩,(ev176 g225 g224 F x).trans hF⟩
def cf178:G222:=fn222 0
theorem k178:KOne Tryz.prog 222 ⟨[.v i64],[.bool],false,false,0,cf178⟩:=ok222 .nil cf178 fun x y h => ⟨0,h⟩
theorem g178_ok (a:Int):cf178 (a,()) = some (!decide (a = 0),()):=rfl
def c177 (l:List Int):Option (Int × Unit):=if l.length ≤ 1000000 then some (ldI l,()) else none
def cf177:G221:=fun x => c177 x.1
theorem k177:KOne Tryz.prog 221 ⟨[.v (.slice 2 i64),.fn 222],[i64],false,false,0,cf177⟩:=ok221 _ (.cons k178 .nil) cf177 fun x y h => by
  obtain ⟨l,_,_⟩:=x
  simp only [cf177,c177] at h
  split at h
  · rename_i hc
    injection h with h; subst h
    have hle:=ld_le l
    refine ⟨l.length + 1,?_⟩
    simp (disch:=omega) only [fn221,ru221_2,dln_t,cond_true,ofn]
    refine iter_run (ld l) _ (fun i => ((l,()),((),(((l.length:Int),()),((i:Int),()),())))) (by omega) (fun i hi k => ?_) (fun k => ?_)
    · have h0:l.getD i 0 = 0:=ld_zero l i hi
      simp (disch:=omega) only [st221_2,ofn,dlt_t,ib_t,tn_cast,cond_true,h0,g178_ok,deq_t,Bool.not_true,cond_false,w6_id]
      rfl
    · by_cases q:ld l = l.length
      · simp (disch:=omega) only [st221_2,dlt_f,cond_false,ldI,if_pos q]
      · have hne:l.getD (ld l) 0 ≠ 0:=ld_ne l (by omega)
        have g:cf178 (l.getD (ld l) 0,()) = some (true,()):=by rw [g178_ok,deq_f hne]; rfl
        simp (disch:=omega) only [st221_2,ofn,dlt_t,ib_t,tn_cast,cond_true,g,ldI,if_neg q]
  · cases h
def cf157:G172:=fn172 cf177 0
theorem k157:KOne Tryz.prog 172 ⟨[.v (.slice 2 i64)],[i64],false,false,0,cf157⟩:=ok172 _ (.cons k177 .nil) cf157 fun x y h => ⟨0,h⟩
theorem g157_ok {l:List Int} (h:l.length ≤ 1000000):cf157 (l,()) = some (ldI l,()):=by
  have:cf177 (l,(),()) = some (ldI l,()):=if_pos h
  simp only [cf157,fn172,this]
theorem g91_ok {l:List Int} (h:l.length ≤ 1000000):cf91 (l,()) = some (l,()):=if_pos h
theorem run79 {p x:Int} (hp : 2 ≤ p ∧ p ≤ 13) (hx : 0 ≤ x ∧ x < p) {F0:Nat}:∀ (f F:Nat) (k:Int),1 ≤ k->p - k < f->f < F →
    iter (fun s k => st201_2 F0 s k (fun s' => match s' with | ((t0,_),(t1,_),(t5,_),_) => (some ((0:Int),())))) F ((x,()),((p,()),((k,()),()))) = some (invA p (x % p) f k,())
  | 0,F,k,h1,h2,h3 => by
    obtain ⟨F,rfl⟩:∃ f,F = f + 1:=⟨F - 1,by omega⟩
    simp (disch:=omega) only [iter,st201_2,dlt_f,cond_false,invA]
  | f + 1,F,k,h1,h2,h3 => by
    obtain ⟨F,rfl⟩:∃ f,F = f + 1:=⟨F - 1,by omega⟩
    have r:x % p = x:=Int.emod_eq_of_lt hx.1 hx.2
    by_cases q:k < p
    · have s:=sq_rng (p:=p) (by omega) hx.1 hx.2 (show 0 ≤ k by omega) q
      have e:Int.tmod (w6 (x * k)) p = k * (x % p) % p:=by rw [w6_id (by omega) (by omega),Int.tmod_eq_emod_of_nonneg s.1,r,Int.mul_comm]
      have ih:=fun k h1 h2 => run79 hp hx (F0:=F0) f F k h1 h2 (by omega)
      simp only [iter]
      generalize iter _ F = G at ih ⊢
      simp (disch:=omega) only [st201_2,dlt_t,cond_true,deq_f,Bool.not_false,e]
      by_cases z:k * (x % p) % p = 1
      · rw [decide_eq_true z]; simp only [cond_true,invA,if_pos q,if_pos z]
      · rw [decide_eq_false z]
        simp (disch:=omega) only [cond_false,w6_id]
        rw [ih (k + 1) (by omega) (by omega)]
        simp only [invA,if_pos q,if_neg z]
    · simp (disch:=omega) only [iter,st201_2,dlt_f,cond_false,invA,if_neg q]
def c79 (x p:Int):Option (Int × Unit):=if (2 ≤ p ∧ p ≤ 13) ∧ (0 ≤ x ∧ x < p) then some (inv p x,()) else none
def cf79:G201:=fun x => c79 x.1 x.2.1
theorem k79:KOne Tryz.prog 201 ⟨[.v i64,.v i64],[i64],false,false,0,cf79⟩:=ok201 .nil cf79 fun x y h => by
  obtain ⟨a,p,_⟩:=x
  simp only [cf79,c79] at h
  split at h
  · rename_i hc
    injection h with h; subst h
    exact ⟨20,run79 hc.1 hc.2 13 20 1 (by omega) (by omega) (by omega)⟩
  · cases h
theorem g79_ok {x p:Int} (hp : 2 ≤ p ∧ p ≤ 13) (hx : 0 ≤ x ∧ x < p):cf79 (x,p,()) = some (inv p x,()):=if_pos ⟨hp,hx⟩
theorem less_el {p n x a:Int} (hp : 2 ≤ p ∧ p ≤ 13) (hx : 0 ≤ x ∧ x < p) (hn : 0 ≤ n ∧ n < p) (ha : 0 ≤ a ∧ a < p):Int.tmod (w6 (x + w6 (w6 (p - n) * a))) p = (x - n * a) % p:=by
  have h1:w6 (p - n) = p - n:=w6_id (by omega) (by omega)
  have s:=mul_rng (a:=p - n) (b:=a) (c:=14) (d:=14) (by omega) (by omega) ha.1 (by omega)
  rw [h1,w6_id (x:=(p - n) * a) (by omega) (by omega),w6_id (by omega) (by omega),Int.tmod_eq_emod_of_nonneg (by omega)]
  have:x + (p - n) * a = x - n * a + p * a:=by rw [Int.sub_mul]; omega
  rw [this,Int.add_mul_emod_self_left]
theorem less_in {p n:Int} {m:Nat} {r o:List Int} (hp : 2 ≤ p ∧ p ≤ 13) (hn : 0 ≤ n ∧ n < p) (h1:Can p m r) (h2:Can p m o) (hm:m ≤ 1000000) {F0 F:Nat} (hF:m < F) {out:List (List Int)} {a b:Int} {kx:ShVal sh173_8->Option R173} :
    iter (fun s k => st173_8 cf91 cf157 F0 s k kx) F ((p,()),((r,()),((n,()),((out,()),((a,()),((b,()),((o,()),(((m:Int),()),(((0:Int),()),()))))))))) =
      kx ((p,()),((subm p n r o,()),((n,()),((out,()),((a,()),((b,()),((o,()),(((m:Int),()),(((m:Int),()),()))))))))):=by
  have l1:=h1.len
  have l2:=h2.len
  have l3:(subm p n r o).length = r.length:=subm_len (by omega)
  have key:=iter_run (step:=fun s k => st173_8 cf91 cf157 F0 s k kx) (r:=kx ((p,()),((subm p n r o,()),((n,()),((out,()),((a,()),((b,()),((o,()),(((m:Int),()),(((m:Int),()),()))))))))))
    m F (fun i => ((p,()),(((subm p n r o).take i ++ r.drop i,()),((n,()),((out,()),((a,()),((b,()),((o,()),(((m:Int),()),(((i:Int),()),())))))))))) hF (fun i hi k => ?_) (fun k => ?_)
  · simpa using key
  · have z1:=split_len (i:=i) l3 (by omega)
    have g1:=split_get (i:=i) l3 (by omega)
    have s1:=split_set (i:=i) l3 (by omega)
    have e:=less_el hp (h1.rng i) hn (h2.rng i)
    rw [← el_subm (by omega)] at e
    rw [← s1]
    generalize (subm p n r o).take i ++ r.drop i = L at *
    have go:o.getD i 0 = el o i:=rfl
    have wi:w6 ((i:Int) + 1) = ((i + 1:Nat):Int):=by rw [w6_id (by omega) (by omega)]; rfl
    simp (disch:=omega) only [st173_8,ofn,dlt_t,cond_true,ib_t,tn_cast,deq_f,Bool.not_false,g1,go,e,wi]
  · rw [show (subm p n r o).take m ++ r.drop m = subm p n r o by rw [← l1,List.drop_length,List.append_nil,← l3,List.take_length]]
    simp (disch:=omega) only [st173_8,dlt_f,cond_false]
theorem run156 {p:Int} {m:Nat} {out:List (List Int)} {r:List Int} (hp : 2 ≤ p ∧ p ≤ 13) (hc:∀ o ∈ out,Can p m o ∧ ld o < m) (hr:Can p m r) (hm:m ≤ 1000000) (ho:out.length ≤ 1000000):fn173 cf91 cf157 (out.length + m + 1) (p,out,r,()) = some (rest p out r,()):=by
  simp only [fn173,ru173_3]
  rw [g91_ok (by rw [hr.len]; exact hm)]
  simp (disch:=omega) only [dln_t,cond_true,ofn]
  have key:=iter_run (step:=fun s k => st173_3 cf91 cf157 (out.length + m + 1) s k (fun s' => match s' with | ((t0,_),(t2,_),(t14,_),(t15,_),(t16,_),_) => (some (t2,())))) (r:=some (rest p out r,())) out.length (out.length + m + 1) (fun i => ((p,()),((rest p (out.take i) r,()),((out,()),(((out.length:Int),()),(((i:Int),()),())))))) (by omega) (fun i hi kk => ?_) (fun kk => ?_)
  · simpa [rest] using key
  · have ho1:out.getD i [] = out[i]:=by simp [List.getD_eq_getElem?_getD,List.getElem?_eq_getElem hi]
    have hmem:out[i] ∈ out:=List.getElem_mem hi
    have co:=(hc _ hmem).1
    have lo:=(hc _ hmem).2
    have cr:Can p m (rest p (out.take i) r):=rest_can (by omega) (fun o h => (hc o (List.mem_of_mem_take h)).1) hr
    rw [show List.take (i + 1) out = List.take i out ++ [out[i]] from take_snoc hi,rest_snoc]
    generalize rest p (List.take i out) r = own at *
    generalize out[i] = o at *
    have g1:=g157_ok (l:=o) (by rw [co.len]; exact hm)
    rw [ldI_lt co.len lo] at g1
    have lw:=cr.len
    have lo2:=co.len
    have z:=cr.rng (ld o)
    by_cases q:el own (ld o) = 0
    · have q':own.getD (ld o) 0 = 0:=q
      rw [q,subm_zero cr co.len]
      simp (disch:=omega) only [st173_3,cond_true,ofn,dlt_t,ib_t,tn_cast,ho1,g1,q',decide_true,Bool.not_true,cond_false,w6_id]
      rfl
    · have q':own.getD (ld o) 0 ≠ 0:=q
      have li:=less_in hp z cr co hm (F0:=out.length + m + 1) (F:=out.length + m + 1) (by omega) (out:=out) (a:=(out.length:Int)) (b:=(i:Int)) (kx:=fun s' => match s' with | ((t0,_),(t2,_),(t9,_),(t14,_),(t15,_),(t16,_),(t27,_),(t28,_),(t29,_),_) => kk ((t0,()),((t2,()),((t14,()),((t15,()),(((w6 (t16 + (1:Int))),()),()))))))
      have ge:own.getD (ld o) 0 = el own (ld o):=rfl
      simp (disch:=first | omega | exact q') only [st173_3,cond_true,ofn,dlt_t,ib_t,tn_cast,ho1,g1,deq_f,Bool.not_false,dln_t,lo2,ru173_8]
      rw [ge,li]
      simp (disch:=omega) only [w6_id]
      rfl
  · rw [List.take_length]
    simp (disch:=omega) only [st173_3,dlt_f,cond_false]
open Classical in
noncomputable def c156 (p:Int) (out:List (List Int)) (r:List Int):Option (List Int × Unit):=if (2 ≤ p ∧ p ≤ 13) ∧ (∀ o ∈ out,Can p r.length o ∧ ld o < r.length) ∧ Can p r.length r ∧ r.length ≤ 1000000 ∧ out.length ≤ 1000000 then some (rest p out r,()) else none
noncomputable def cf156:G173:=fun x => c156 x.1 x.2.1 x.2.2.1
theorem k156:KOne Tryz.prog 173 ⟨[.v i64,.v (.slice 44 (.slice 2 i64)),.v (.slice 2 i64)],[.slice 2 i64],true,false,0,cf156⟩:=ok173 _ _ (.cons k91 (.cons k157 .nil)) cf156 fun x y h => by
  obtain ⟨p,out,r,_⟩:=x
  simp only [cf156,c156] at h
  split at h
  · rename_i hc
    injection h with h; subst h
    exact ⟨_,run156 hc.1 hc.2.1 hc.2.2.1 hc.2.2.2.1 hc.2.2.2.2⟩
  · cases h
theorem g156_ok {p:Int} {m:Nat} {out:List (List Int)} {r:List Int} (hp : 2 ≤ p ∧ p ≤ 13) (hc:∀ o ∈ out,Can p m o ∧ ld o < m) (hr:Can p m r) (hm:m ≤ 1000000) (ho:out.length ≤ 1000000):cf156 (p,out,r,()) = some (rest p out r,()) :=
  if_pos ⟨hp,by rw [hr.len]; exact hc,by rw [hr.len]; exact hr,by rw [hr.len]; exact hm,ho⟩
theorem scale_in {p c:Int} {m:Nat} {own:List Int} (hp : 2 ≤ p ∧ p ≤ 13) (hc : 0 ≤ c ∧ c < p) (h1:Can p m own) (hm:m ≤ 1000000) {g156:G173} {g79:G201} {g157:G172} {F0 F:Nat} (hF:m < F) {out:List (List Int)} {kx:ShVal sh224_7->Option R224} :
    iter (fun s k => st224_7 g156 g79 g157 F0 s k kx) F ((p,()),((out,()),((own,()),((c,()),(((m:Int),()),(((0:Int),()),())))))) =
      kx ((p,()),((out,()),((scl p c own,()),((c,()),(((m:Int),()),(((m:Int),()),())))))):=by
  have hl:(scl p c own).length = own.length:=scl_len
  have lw:=h1.len
  have key:=iter_run (step:=fun s k => st224_7 g156 g79 g157 F0 s k kx) (r:=kx ((p,()),((out,()),((scl p c own,()),((c,()),(((m:Int),()),(((m:Int),()),())))))))
    m F (fun j => ((p,()),((out,()),(((scl p c own).take j ++ own.drop j,()),((c,()),(((m:Int),()),(((j:Int),()),()))))))) hF (fun j hj k => ?_) (fun k => ?_)
  · simpa using key
  · have l1:=split_len (i:=j) hl (by omega)
    have g1:=split_get (i:=j) hl (by omega)
    have s1:=split_set (i:=j) hl (by omega)
    have z:=h1.rng j
    have z2:=sq_rng (p:=p) (by omega) z.1 z.2 hc.1 hc.2
    have e:Int.tmod (w6 (el own j * c)) p = el (scl p c own) j:=by rw [w6_id (by omega) (by omega),Int.tmod_eq_emod_of_nonneg z2.1,el_scl]
    rw [← s1]
    generalize (scl p c own).take j ++ own.drop j = L at *
    have wi:w6 ((j:Int) + 1) = ((j + 1:Nat):Int):=by rw [w6_id (by omega) (by omega)]; rfl
    simp (disch:=omega) only [st224_7,cond_true,ofn,dlt_t,ib_t,tn_cast,deq_f,Bool.not_false,g1,e,wi]
  · rw [show (scl p c own).take m ++ own.drop m = scl p c own by rw [← lw,List.drop_length,List.append_nil,← hl,List.take_length]]
    simp (disch:=omega) only [st224_7,dlt_f,cond_false]
theorem split_getL {a b:List (List Int)} {i:Nat} (h:a.length = b.length) (hi:i < a.length):(a.take i ++ b.drop i).getD i [] = b[i]'(by omega):=by
  simp only [List.getD_eq_getElem?_getD]
  rw [List.getElem?_append_right (by simp; omega),List.length_take,Nat.min_eq_left (by omega),List.getElem?_drop]
  simp [List.getElem?_eq_getElem (show i < b.length by omega)]
theorem split_setL {a b:List (List Int)} {i:Nat} (h:a.length = b.length) (hi:i < a.length):(a.take i ++ b.drop i).set i a[i] = a.take (i + 1) ++ b.drop (i + 1):=by
  rw [take_snoc hi,List.set_append_right _ _ (by simp; omega)]
  rw [List.length_take,Nat.min_eq_left (by omega),Nat.sub_self,List.append_assoc]
  congr 1
  rw [List.drop_eq_getElem_cons (show i < b.length by omega)]
  rfl
theorem red_step {p:Int} {own o x:List Int} {L:List (List Int)} {n j:Nat} (hn:n ≤ 1000000) (hj:j < n) (l1:L.length = n) (g1:L.getD j [] = o) (g2:cf156 (p,[own],o,()) = some (x,())) {F0:Nat} {k kx:ShVal sh224_12->Option R224} :
    st224_12 cf156 cf79 cf157 F0 ((p,()),((L,()),((own,()),((L,()),(((n:Int),()),(((j:Int),()),())))))) k kx = k ((p,()),((L.set j x,()),((own,()),((L.set j x,()),(((n:Int),()),((((j + 1:Nat):Int),()),())))))):=by
  have wi:w6 ((j:Int) + 1) = ((j + 1:Nat):Int):=by rw [w6_id (by omega) (by omega)]; rfl
  simp (disch:=omega) only [st224_12,cond_true,ofn,dlt_t,ib_t,tn_cast,g1,g2,wi]
theorem red_in {p:Int} {m at_:Nat} {own:List Int} {out:List (List Int)} (hp : 2 ≤ p ∧ p ≤ 13) (ho:Can p m own) (hl:ld own = at_) (ht:at_ < m) (hc:∀ o ∈ out,Can p m o) (hm:m ≤ 1000000) (hn:out.length ≤ 1000000) {F0 F:Nat} (hF:out.length < F) {kx:ShVal sh224_12->Option R224} :
    iter (fun s k => st224_12 cf156 cf79 cf157 F0 s k kx) F ((p,()),((out,()),((own,()),((out,()),(((out.length:Int),()),(((0:Int),()),())))))) =
      kx ((p,()),((out.map (red p own at_),()),((own,()),((out.map (red p own at_),()),(((out.length:Int),()),(((out.length:Int),()),())))))):=by
  have hlm:(out.map (red p own at_)).length = out.length:=by simp
  have key:=iter_run (step:=fun s k => st224_12 cf156 cf79 cf157 F0 s k kx) (r:=kx ((p,()),((out.map (red p own at_),()),((own,()),((out.map (red p own at_),()),(((out.length:Int),()),(((out.length:Int),()),())))))))
    out.length F (fun j => ((p,()),(((out.map (red p own at_)).take j ++ out.drop j,()),((own,()),(((out.map (red p own at_)).take j ++ out.drop j,()),(((out.length:Int),()),(((j:Int),()),()))))))) hF (fun j hj k => ?_) (fun k => ?_)
  · simpa using key
  · have l1:((out.map (red p own at_)).take j ++ out.drop j).length = out.length:=by simp; omega
    have g1:=split_getL (i:=j) hlm (by omega)
    have s1:=split_setL (i:=j) hlm (by omega)
    have co:=hc out[j] (List.getElem_mem hj)
    have g2:cf156 (p,[own],out[j],()) = some (red p own at_ out[j],()):=by
      have:=g156_ok (p:=p) (out:=[own]) (r:=out[j]) hp (fun o h => by rw [List.mem_singleton.1 h]; exact ⟨ho,by rw [hl]; exact ht⟩) co hm (by simp)
      rw [this]
      simp only [rest,red,hl]
    have em:(out.map (red p own at_))[j]'(by simpa using hj) = red p own at_ out[j]:=by simp
    rw [em] at s1
    rw [← s1]
    exact red_step (by omega) hj l1 g1 g2
  · rw [show (out.map (red p own at_)).take out.length ++ out.drop out.length = out.map (red p own at_) by rw [List.drop_length,List.append_nil,← hlm,List.take_length]]
    simp (disch:=omega) only [st224_12,dlt_f,cond_false]
theorem run172 {p:Int} {m:Nat} {out b:List (List Int)} {r:List Int} (hP:isP p = true) (hb:out.Perm b) (rr:RR p m b) (hr:Can p m r) (hm:m ≤ 1000000) (hn:out.length ≤ 500000):fn224 cf156 cf79 cf157 (m + out.length + 1) (p,out,r,()) = some (takeL p out r,()):=by
  have hp:=isP_pos hP
  have hc:∀ o ∈ out,Can p m o ∧ ld o < m:=fun o ho => ⟨rr.can o (hb.mem_iff.1 ho),rr.lt o (hb.mem_iff.1 ho)⟩
  have g1:=g156_ok (p:=p) (out:=out) (r:=r) (by omega) hc hr hm (by omega)
  have cr:Can p m (rest p out r):=rest_can (by omega) (fun o h => (hc o h).1) hr
  have lr:=cr.len
  simp only [fn224,g1]
  rw [g157_ok (by omega)]
  simp only
  unfold takeL
  by_cases q:ld (rest p out r) = (rest p out r).length
  · rw [if_pos q]
    simp (disch:=omega) only [ldI,if_pos q,dlt_t,cond_true]
  · rw [if_neg q]
    have hle:=ld_le (rest p out r)
    have w:=own_of hP rr hr (by rw [← rest_perm (by omega) hb rr hr]; exact q)
    rw [← rest_perm (by omega) hb rr hr] at w
    have z:=cr.rng (ld (rest p out r))
    have hne:=ld_ne (rest p out r) (by omega)
    have hmod:el (rest p out r) (ld (rest p out r)) % p ≠ 0:=by rw [cr.mod]; exact hne
    obtain ⟨i1,i2⟩:=inv_ok hP hmod
    have g2:=g79_ok (p:=p) (x:=el (rest p out r) (ld (rest p out r))) (by omega) z
    have ge:(rest p out r).getD (ld (rest p out r)) 0 = el (rest p out r) (ld (rest p out r)):=rfl
    have e0:ldI (rest p out r) = (ld (rest p out r):Int):=ldI_of (by omega)
    simp (disch:=omega) only [e0,dlt_f,cond_false,ib_t,ofn,tn_cast,cond_true,ge,g2,dln_t,lr,ru224_7]
    rw [scale_in (by omega) (by omega) cr hm (by omega)]
    simp (disch:=omega) only [dln_t,cond_true,ofn,ru224_12]
    rw [red_in (by omega) w.can w.led w.lt (fun o ho => (hc o ho).1) hm (by omega) (by omega)]
    have ll:((out.map (red p (scl p (inv p (el (rest p out r) (ld (rest p out r)))) (rest p out r)) (ld (rest p out r)))).length) = out.length:=by simp
    simp (disch:=omega) only [grow_t,ll,List.length_singleton,cond_true]
noncomputable def c172 (p:Int) (out:List (List Int)) (r:List Int):Option (List (List Int) × Unit):=by
  classical exact if isP p = true ∧ (∃ b,out.Perm b ∧ RR p r.length b) ∧ Can p r.length r ∧ r.length ≤ 1000000 ∧ out.length ≤ 500000 then some (takeL p out r,()) else none
noncomputable def cf172:G224:=fun x => c172 x.1 x.2.1 x.2.2.1
theorem k172:KOne Tryz.prog 224 ⟨[.v i64,.v (.slice 44 (.slice 2 i64)),.v (.slice 2 i64)],[.slice 44 (.slice 2 i64)],true,false,2,cf172⟩:=ok224 _ _ _ (.cons k156 (.cons k79 (.cons k157 .nil))) cf172 fun x y h => by
  obtain ⟨p,out,r,_⟩:=x
  simp only [cf172,c172] at h
  split at h
  · rename_i hc
    injection h with h; subst h
    obtain ⟨h1,⟨b,h2,h3⟩,h4,h5,h6⟩:=hc
    exact ⟨_,run172 h1 h2 h3 h4 h5 h6⟩
  · cases h
theorem g172_ok {p:Int} {m:Nat} {out b:List (List Int)} {r:List Int} (hP:isP p = true) (hb:out.Perm b) (rr:RR p m b) (hr:Can p m r) (hm:m ≤ 1000000) (hn:out.length ≤ 500000):cf172 (p,out,r,()) = some (takeL p out r,()) :=
  if_pos ⟨hP,⟨b,hb,by rw [hr.len]; exact rr⟩,by rw [hr.len]; exact hr,by rw [hr.len]; exact hm,hn⟩
def c174 (a b:List Int):Option (Int × Unit):=if a.length ≤ 1000000 ∧ b.length ≤ 1000000 then some (ldI a - ldI b,()) else none
def cf174:G226:=fun x => c174 x.1 x.2.1
theorem ldI_rng {a:List Int} : -1 ≤ ldI a ∧ ldI a ≤ a.length:=by
  have:=ld_le a
  unfold ldI; split <;> omega
theorem k174:KOne Tryz.prog 226 ⟨[.v (.slice 2 i64),.v (.slice 2 i64)],[i64],false,false,0,cf174⟩:=ok226 _ (.cons k157 .nil) cf174 fun x y h => by
  obtain ⟨a,b,_⟩:=x
  simp only [cf174,c174] at h
  split at h
  · rename_i hc
    injection h with h; subst h
    have r1:=ldI_rng (a:=a)
    have r2:=ldI_rng (a:=b)
    refine ⟨0,?_⟩
    simp only [fn226,g157_ok hc.1,g157_ok hc.2]
    rw [w6_id (by omega) (by omega)]
  · cases h
noncomputable def cf173:G225:=by
  classical exact fun x => if x.1.length ≤ 1000000 ∧ (∀ r ∈ x.1,r.length ≤ 1000000) ∧ (x.1.map ldI).Nodup then some (sortK ldI x.1,()) else none
theorem k173:KOne Tryz.prog 225 ⟨[.v (.slice 44 (.slice 2 i64)),.fn 226],[.slice 44 (.slice 2 i64)],false,false,1,cf173⟩:=by
  refine ⟨fun q => (by cases q),fun _ => ?_,fun q => (by cases q),Tryz.f225,Tryz.func225,by decide,rfl⟩
  have eg:∀ args w,(callFunc 226 args).run Tryz.prog w = .ok (.enter 226 args) w:=fun args w => by
    have:=Tryz.func226
    simp only [callFunc,Sem.run_bind,run_program,Result.andThen_ok,this]
    rw [if_neg (by decide),if_neg (by decide)]; rfl
  exact sortRows_ok (ρ:=Tryz.l225_ren) (good:=fun r:List Int => r.length ≤ 1000000) (cf:=fun a b:List Int => ldI a - ldI b) (key:=ldI) (u:=.slice 2 i64) Tryz.l225 rfl rfl (k174.ok rfl) (fun a b ha hb => if_pos ⟨ha,hb⟩) (fun a b _ _ => by omega) eg fun x y h => by
    simp only [cf173] at h
    split at h
    · rename_i hc
      injection h with h; subst h
      exact ⟨hc.1,hc.2.1,hc.2.2,rfl⟩
    · cases h
theorem g173_ok {l:List (List Int)} (h1:l.length ≤ 1000000) (h2:∀ r ∈ l,r.length ≤ 1000000) (h3:(l.map ldI).Nodup):cf173 (l,(),()) = some (sortK ldI l,()):=if_pos ⟨h1,h2,h3⟩
theorem run145 {p:Int} {m:Nat} {rows:List (List Int)} (hP:isP p = true) (hr:∀ r ∈ rows,Can p m r) (hm:m ≤ 1000000) (hn:rows.length ≤ 400000):fn176 cf173 cf172 (rows.length + 1) (p,rows,()) = some (ech p rows,()):=by
  simp only [fn176,ru176_3]
  simp (disch:=omega) only [dln_t,cond_true,ofn]
  have hp:=isP_pos hP
  have key:=iter_run (step:=fun s k => st176_3 cf173 cf172 (rows.length + 1) s k (fun s' => match s' with | ((t0,_),(t5,_),(t9,_),(t10,_),(t11,_),_) => (match (cf173 (t5,((),()))) with | some r13 => (some ((bif ((Nat.beq 24 24) && ((Nat.beq 2 2) && true)) then r13.1 else []),())) | none => none))) (r:=some (ech p rows,())) rows.length (rows.length + 1) (fun i => ((p,()),(((rows.take i).foldl (takeL p) [],()),((rows,()),(((rows.length:Int),()),(((i:Int),()),())))))) (by omega) (fun i hi k => ?_) (fun k => ?_)
  · exact key
  · have ho1:rows.getD i [] = rows[i]:=by simp [List.getD_eq_getElem?_getD,List.getElem?_eq_getElem hi]
    have hcut:∀ r ∈ rows.take i,Can p m r:=fun r h => hr r (List.mem_of_mem_take h)
    have hpm:((rows.take i).foldl (takeL p) []).Perm (ech p (rows.take i)):=fold_perm hP (.refl _) .nil hcut
    have hlen:((rows.take i).foldl (takeL p) []).length ≤ i:=by have:=takes_len (p:=p) (rows:=rows.take i) (out:=[]); simp at this; omega
    have g:=g172_ok hP hpm (ech_RR hP hcut) (hr rows[i] (List.getElem_mem hi)) hm (by omega)
    rw [show List.take (i + 1) rows = List.take i rows ++ [rows[i]] from take_snoc hi,List.foldl_append]
    simp only [List.foldl_cons,List.foldl_nil]
    generalize (rows.take i).foldl (takeL p) [] = L at *
    have wi:w6 ((i:Int) + 1) = ((i + 1:Nat):Int):=by rw [w6_id (by omega) (by omega)]; rfl
    simp (disch:=omega) only [st176_3,cond_true,ofn,dlt_t,ib_t,tn_cast,ho1,g,wi]
  · rw [List.take_length]
    obtain ⟨e1,e2⟩:=sort_ech hP hr
    have hlen:(rows.foldl (takeL p) []).length ≤ rows.length:=by have:=takes_len (p:=p) (rows:=rows) (out:=[]); simpa using this
    have g:=g173_ok (l:=rows.foldl (takeL p) []) (by omega) (fun r h => by rw [(take_mem hP hr r h).1.len]; exact hm) e2
    rw [e1] at g
    simp (disch:=omega) only [st176_3,dlt_f,cond_false,g]
    rfl
noncomputable def c145 (p:Int) (rows:List (List Int)):Option (List (List Int) × Unit):=by
  classical exact if isP p = true ∧ (∃ m,m ≤ 1000000 ∧ ∀ r ∈ rows,Can p m r) ∧ rows.length ≤ 400000 then some (ech p rows,()) else none
noncomputable def cf145:G176:=fun x => c145 x.1 x.2.1
theorem k145:KOne Tryz.prog 176 ⟨[.v i64,.v (.slice 44 (.slice 2 i64))],[.slice 44 (.slice 2 i64)],true,false,0,cf145⟩:=ok176 _ _ (.cons k173 (.cons k172 .nil)) cf145 fun x y h => by
  obtain ⟨p,rows,_⟩:=x
  simp only [cf145,c145] at h
  split at h
  · rename_i hc
    injection h with h; subst h
    obtain ⟨h1,⟨m,h2,h3⟩,h4⟩:=hc
    exact ⟨_,run145 h1 h3 h2 h4⟩
  · cases h
theorem g145_ok {p:Int} {m:Nat} {rows:List (List Int)} (hP:isP p = true) (hr:∀ r ∈ rows,Can p m r) (hm:m ≤ 1000000) (hn:rows.length ≤ 400000):cf145 (p,rows,()) = some (ech p rows,()):=if_pos ⟨hP,⟨m,hm,hr⟩,hn⟩
section
variable {p:Int} {m n:Nat}
theorem RR.incr {out:List (List Int)} (rr:RR p m out) {i j:Nat} (hij:i < j) (hj:j < out.length):ld (out[i]'(by omega)) < ld out[j] :=
  (List.pairwise_iff_getElem.1 rr.ord i j (by omega) hj hij).1
theorem RR.ge {out:List (List Int)} (rr:RR p m out):∀ (i:Nat) (hi:i < out.length),i ≤ ld out[i]
  | 0,_ => Nat.zero_le _
  | i + 1,hi => by
    have h1:=rr.ge i (by omega)
    have h2:=rr.incr (i:=i) (j:=i + 1) (by omega) hi
    omega
theorem RR.le {out:List (List Int)} (rr:RR p m out) (h:∀ r ∈ out,ld r < out.length):∀ (k i:Nat) (hi:i < out.length),out.length - 1 - i = k->ld out[i] ≤ i
  | 0,i,hi,hk => by
    have:=h _ (List.getElem_mem hi); omega
  | k + 1,i,hi,hk => by
    have h1:=rr.le h k (i + 1) (by omega) (by omega)
    have h2:=rr.incr (i:=i) (j:=i + 1) (by omega) (by omega)
    omega
theorem RR.all {out:List (List Int)} (rr:RR p m out) (h:∀ r ∈ out,ld r < out.length) (i:Nat) (hi:i < out.length):ld out[i] = i:=by
  have h1:=rr.ge i hi
  have h2:=rr.le h _ i hi rfl
  omega
theorem lin_zero {S:Nat->Prop} (hp : 0 < p):Lin p m (fun r => ∀ i,S i->el r i = 0) where
  sub k a b ha hb qa qb i hi:=by rw [el_subm (by rw [ha.len,hb.len]),qa i hi,qb i hi]; simp
  scl c a ha qa i hi:=by rw [el_scl,qa i hi]; simp
theorem unit_len (hP:isP p = true) {rows:List (List Int)} (hl:rows.length = n) (hr:∀ r ∈ rows,Can p (n + n) r) (hu:∀ (i:Nat) (hi:i < rows.length),el rows[i] (n + i) = 1 ∧ ∀ i',i < i'->i' < n->el rows[i] (n + i') = 0) :
    ∀ i,i ≤ n->(ech p (rows.take i)).length = i ∧ ∀ r ∈ ech p (rows.take i),∀ i',i ≤ i'->i' < n->el r (n + i') = 0
  | 0,_ => by simp [ech]
  | i + 1,hi => by
    have hp:=isP_pos hP
    obtain ⟨h1,h2⟩:=unit_len hP hl hr hu i (by omega)
    have hil:i < rows.length:=by omega
    have e:ech p (rows.take (i + 1)) = stepR p (ech p (rows.take i)) rows[i]:=by
      rw [List.take_add_one,List.getElem?_eq_getElem hil]; simp only [Option.toList_some,ech,List.foldl_append,List.foldl_cons,List.foldl_nil]
    have rr:RR p (n + n) (ech p (rows.take i)):=ech_RR hP fun r h => hr r (List.mem_of_mem_take h)
    have cr:=hr _ (List.getElem_mem hil)
    obtain ⟨u1,u2⟩:=hu i hil
    rw [e]
    generalize ech p (rows.take i) = out at *
    generalize rows[i] = r at *
    have k1:el (rest p out r) (n + i) = 1:=by
      rw [rest_keep (m:=n + n) (by omega) (fun o ho => ⟨rr.can o ho,h2 o ho i (Nat.le_refl _) (by omega)⟩) cr]; exact u1
    have k2:ld (rest p out r) ≠ (rest p out r).length:=by
      have:=ld_lt (r:=rest p out r) (i:=n + i) (by rw [k1]; omega); omega
    refine ⟨by unfold stepR; rw [if_neg k2,ins_len,h1],fun x hx i' h3 h4 => ?_⟩
    have:=stepR_lin hP (lin_zero (p:=p) (m:=n + n) (S:=fun j => ∃ i',i + 1 ≤ i' ∧ i' < n ∧ j = n + i') (by omega)) rr cr
      (fun o ho j hj => by obtain ⟨i',q1,q2,rfl⟩:=hj; exact h2 o ho i' (by omega) q2) (fun j hj => by obtain ⟨i',q1,q2,rfl⟩:=hj; exact u2 i' (by omega) q2) x hx
    exact this _ ⟨i',h3,h4,rfl⟩
def sumN:Nat->(Nat->Int)->Int
  | 0,_ => 0
  | n + 1,f => sumN n f + f n
theorem sumN_mod {x G:Nat->Int} (hp:p ≠ 0):∀ n,p ∣ sumN n (fun l => x l % p * G l) - sumN n (fun l => x l * G l)
  | 0 => by simp [sumN]
  | n + 1 => by
    obtain ⟨u,hu⟩:=sumN_mod (x:=x) (G:=G) hp n
    have e:=Int.emod_def (x n) p
    refine ⟨u - x n / p * G n,?_⟩
    simp only [sumN]
    rw [e]
    grind
theorem sumN_sub {x y G:Nat->Int} {k:Int}:∀ n,sumN n (fun l => (x l - k * y l) * G l) = sumN n (fun l => x l * G l) - k * sumN n (fun l => y l * G l)
  | 0 => by simp [sumN]
  | n + 1 => by simp only [sumN]; rw [sumN_sub n]; grind
theorem sumN_mul {x G:Nat->Int} {c:Int}:∀ n,sumN n (fun l => (x l * c) * G l) = sumN n (fun l => x l * G l) * c
  | 0 => by simp [sumN]
  | n + 1 => by simp only [sumN]; rw [sumN_mul n]; grind
def Half (p:Int) (n:Nat) (G:Nat->Nat->Int) (r:List Int):Prop:=∀ j,j < n->p ∣ el r j - sumN n (fun l => el r (n + l) * G l j)
theorem half_lin (hp:p ≠ 0) {G:Nat->Nat->Int}:Lin p (n + n) (Half p n G) where
  sub k a b ha hb qa qb j hj:=by
    have hl:a.length = b.length:=by rw [ha.len,hb.len]
    simp only [el_subm hl]
    obtain ⟨u1,h1⟩:=qa j hj
    obtain ⟨u2,h2⟩:=qb j hj
    obtain ⟨u3,h3⟩:=sumN_mod (x:=fun l => el a (n + l) - k * el b (n + l)) (G:=fun l => G l j) hp n
    simp only [sumN_sub (x:=fun l => el a (n + l)) (y:=fun l => el b (n + l))] at h3
    have e:=Int.emod_def (el a j - k * el b j) p
    refine ⟨u1 - k * u2 - u3 - (el a j - k * el b j) / p,?_⟩
    rw [e]
    grind
  scl c a ha qa j hj:=by
    simp only [el_scl]
    obtain ⟨u1,h1⟩:=qa j hj
    obtain ⟨u3,h3⟩:=sumN_mod (x:=fun l => el a (n + l) * c) (G:=fun l => G l j) hp n
    simp only [sumN_mul (x:=fun l => el a (n + l))] at h3
    have e:=Int.emod_def (el a j * c) p
    refine ⟨u1 * c - u3 - el a j * c / p,?_⟩
    rw [e]
    grind
theorem led_or {out:List (List Int)} (rr:RR p (n + n) out) (hl:out.length = n):(∀ (i:Nat) (hi:i < out.length),ld out[i] = i) ∨ ∃ r ∈ out,(∀ j,j < n->el r j = 0) ∧ ∃ l,l < n ∧ el r (n + l) = 1:=by
  by_cases h:∀ r ∈ out,ld r < out.length
  · exact .inl fun i hi => rr.all h i hi
  · right
    obtain ⟨r,hr⟩:=Classical.not_forall.1 h
    obtain ⟨hr,hge⟩:=Classical.not_imp.1 hr
    refine ⟨r,hr,fun j hj => ld_zero r j (by omega),ld r - n,?_,?_⟩
    · have:=rr.lt r hr; omega
    · rw [show n + (ld r - n) = ld r by omega]; exact rr.one r hr
theorem led_unit {out:List (List Int)} (rr:RR p (n + n) out) (hl:out.length = n) (h:∀ (i:Nat) (hi:i < out.length),ld out[i] = i) (i j:Nat) (hi:i < out.length) (hj:j < out.length):el out[i] j = if i = j then 1 else 0:=by
  by_cases q:i = j
  · subst q
    rw [if_pos rfl]
    have:=rr.one _ (List.getElem_mem hi); rw [h i hi] at this; exact this
  · rw [if_neg q]
    rcases Nat.lt_or_ge i j with z | z
    · have:=(List.pairwise_iff_getElem.1 rr.ord i j hi hj z).2; rw [h j hj] at this; exact this
    · exact ld_zero _ j (by rw [h i hi]; omega)
def det1 (G:Nat->Nat->Int):Int:=G 0 0
def det2 (G:Nat->Nat->Int):Int:=G 0 0 * G 1 1 - G 0 1 * G 1 0
def det3 (G:Nat->Nat->Int):Int:=G 0 0 * (G 1 1 * G 2 2 - G 1 2 * G 2 1) - G 0 1 * (G 1 0 * G 2 2 - G 1 2 * G 2 0) + G 0 2 * (G 1 0 * G 2 1 - G 1 1 * G 2 0)
def detN (n:Nat) (G:Nat->Nat->Int):Int:=if n = 2 then det2 G else if n = 3 then det3 G else det1 G
theorem no_one (hp : 2 ≤ p) {x:Int} (h:p ∣ 1 + p * x):False:=by
  obtain ⟨u,hu⟩:=h
  have:p * (u - x) = 1:=by grind
  have h1:p ∣ 1:=⟨u - x,this.symm⟩
  have:=Int.le_of_dvd (by omega) h1
  omega
theorem unit_det (hp : 2 ≤ p) (hn:n = 1 ∨ n = 2 ∨ n = 3) {G C:Nat->Nat->Int} (h:∀ i,i < n->∀ j,j < n->p ∣ (if i = j then 1 else 0) - sumN n (fun l => C i l * G l j)) : ¬ p ∣ detN n G:=by
  intro hd
  obtain ⟨d,hd⟩:=hd
  rcases hn with rfl | rfl | rfl
  · obtain ⟨a,ha⟩:=h 0 (by omega) 0 (by omega)
    simp only [sumN,if_true] at ha
    simp only [detN,det1] at hd
    simp at hd
    exact no_one hp (x:=-a) ⟨C 0 0 * d,by grind⟩
  · obtain ⟨a,ha⟩:=h 0 (by omega) 0 (by omega)
    obtain ⟨b,hb⟩:=h 0 (by omega) 1 (by omega)
    obtain ⟨c,hc⟩:=h 1 (by omega) 0 (by omega)
    obtain ⟨e,he⟩:=h 1 (by omega) 1 (by omega)
    simp only [sumN,if_true] at ha hb hc he
    simp at hb hc
    simp [detN,det2] at hd
    have e1:(C 0 0 * G 0 0 + C 0 1 * G 1 0) * (C 1 0 * G 0 1 + C 1 1 * G 1 1) - (C 0 0 * G 0 1 + C 0 1 * G 1 1) * (C 1 0 * G 0 0 + C 1 1 * G 1 0) = (C 0 0 * C 1 1 - C 0 1 * C 1 0) * (G 0 0 * G 1 1 - G 0 1 * G 1 0):=by grind
    rw [hd] at e1
    have a1:C 0 0 * G 0 0 + C 0 1 * G 1 0 = 1 - p * a:=by omega
    have a2:C 1 0 * G 0 1 + C 1 1 * G 1 1 = 1 - p * e:=by omega
    have a3:C 0 0 * G 0 1 + C 0 1 * G 1 1 = - (p * b):=by omega
    have a4:C 1 0 * G 0 0 + C 1 1 * G 1 0 = - (p * c):=by omega
    rw [a1,a2,a3,a4] at e1
    exact no_one hp (x:=- a - e + p * (a * e) - p * (b * c)) ⟨(C 0 0 * C 1 1 - C 0 1 * C 1 0) * d,by grind⟩
  · obtain ⟨x00,h00⟩:=h 0 (by omega) 0 (by omega)
    obtain ⟨x01,h01⟩:=h 0 (by omega) 1 (by omega)
    obtain ⟨x02,h02⟩:=h 0 (by omega) 2 (by omega)
    obtain ⟨x10,h10⟩:=h 1 (by omega) 0 (by omega)
    obtain ⟨x11,h11⟩:=h 1 (by omega) 1 (by omega)
    obtain ⟨x12,h12⟩:=h 1 (by omega) 2 (by omega)
    obtain ⟨x20,h20⟩:=h 2 (by omega) 0 (by omega)
    obtain ⟨x21,h21⟩:=h 2 (by omega) 1 (by omega)
    obtain ⟨x22,h22⟩:=h 2 (by omega) 2 (by omega)
    simp only [sumN,if_true] at h00 h01 h02 h10 h11 h12 h20 h21 h22
    simp only [Nat.zero_ne_one,Nat.one_ne_zero,if_false,show ((0:Nat) = 2) = False by simp,show ((2:Nat) = 0) = False by simp,show ((1:Nat) = 2) = False by simp,show ((2:Nat) = 1) = False by simp] at h01 h02 h10 h12 h20 h21
    simp [detN,det3] at hd
    generalize C 0 0 = c00 at *
    generalize C 0 1 = c01 at *
    generalize C 0 2 = c02 at *
    generalize C 1 0 = c10 at *
    generalize C 1 1 = c11 at *
    generalize C 1 2 = c12 at *
    generalize C 2 0 = c20 at *
    generalize C 2 1 = c21 at *
    generalize C 2 2 = c22 at *
    generalize G 0 0 = g00 at *
    generalize G 0 1 = g01 at *
    generalize G 0 2 = g02 at *
    generalize G 1 0 = g10 at *
    generalize G 1 1 = g11 at *
    generalize G 1 2 = g12 at *
    generalize G 2 0 = g20 at *
    generalize G 2 1 = g21 at *
    generalize G 2 2 = g22 at *
    clear h
    have e1:(c00 * g00 + c01 * g10 + c02 * g20) * ((c10 * g01 + c11 * g11 + c12 * g21) * (c20 * g02 + c21 * g12 + c22 * g22) - (c10 * g02 + c11 * g12 + c12 * g22) * (c20 * g01 + c21 * g11 + c22 * g21))
        - (c00 * g01 + c01 * g11 + c02 * g21) * ((c10 * g00 + c11 * g10 + c12 * g20) * (c20 * g02 + c21 * g12 + c22 * g22) - (c10 * g02 + c11 * g12 + c12 * g22) * (c20 * g00 + c21 * g10 + c22 * g20))
        + (c00 * g02 + c01 * g12 + c02 * g22) * ((c10 * g00 + c11 * g10 + c12 * g20) * (c20 * g01 + c21 * g11 + c22 * g21) - (c10 * g01 + c11 * g11 + c12 * g21) * (c20 * g00 + c21 * g10 + c22 * g20))
        = (c00 * (c11 * c22 - c12 * c21) - c01 * (c10 * c22 - c12 * c20) + c02 * (c10 * c21 - c11 * c20)) * (g00 * (g11 * g22 - g12 * g21) - g01 * (g10 * g22 - g12 * g20) + g02 * (g10 * g21 - g11 * g20)):=by
      clear hd h00 h01 h02 h10 h11 h12 h20 h21 h22
      grind
    rw [hd] at e1
    have a00:c00 * g00 + c01 * g10 + c02 * g20 = 1 - p * x00:=by omega
    have a01:c00 * g01 + c01 * g11 + c02 * g21 = - (p * x01):=by omega
    have a02:c00 * g02 + c01 * g12 + c02 * g22 = - (p * x02):=by omega
    have a10:c10 * g00 + c11 * g10 + c12 * g20 = - (p * x10):=by omega
    have a11:c10 * g01 + c11 * g11 + c12 * g21 = 1 - p * x11:=by omega
    have a12:c10 * g02 + c11 * g12 + c12 * g22 = - (p * x12):=by omega
    have a20:c20 * g00 + c21 * g10 + c22 * g20 = - (p * x20):=by omega
    have a21:c20 * g01 + c21 * g11 + c22 * g21 = - (p * x21):=by omega
    have a22:c20 * g02 + c21 * g12 + c22 * g22 = 1 - p * x22:=by omega
    rw [a00,a01,a02,a10,a11,a12,a20,a21,a22] at e1
    clear hd h00 h01 h02 h10 h11 h12 h20 h21 h22 a00 a01 a02 a10 a11 a12 a20 a21 a22
    generalize c00 * (c11 * c22 - c12 * c21) - c01 * (c10 * c22 - c12 * c20) + c02 * (c10 * c21 - c11 * c20) = D at e1
    refine no_one hp (x:=- x00 - x11 - x22 + p * (x00 * x11 - x01 * x10 + x00 * x22 - x02 * x20 + x11 * x22 - x12 * x21) - p * p * (x00 * (x11 * x22 - x12 * x21) - x01 * (x10 * x22 - x12 * x20) + x02 * (x10 * x21 - x11 * x20))) ⟨D * d,?_⟩
    rw [show p * (D * d) = D * (p * d) by grind,← e1]
    clear e1
    grind
theorem zero_det (hn:n = 1 ∨ n = 2 ∨ n = 3) {G:Nat->Nat->Int} {c:Nat->Int} (h:∀ j,j < n->p ∣ sumN n (fun l => c l * G l j)) {k:Nat} (hk:k < n) (hc:c k = 1):p ∣ detN n G:=by
  rcases hn with rfl | rfl | rfl
  · obtain ⟨a,ha⟩:=h 0 (by omega)
    obtain rfl:k = 0:=by omega
    simp only [sumN,hc] at ha
    exact ⟨a,by simp [detN,det1]; omega⟩
  · obtain ⟨a,ha⟩:=h 0 (by omega)
    obtain ⟨b,hb⟩:=h 1 (by omega)
    simp only [sumN] at ha hb
    simp [detN,det2]
    obtain rfl | rfl:k = 0 ∨ k = 1:=by omega
    · exact ⟨a * G 1 1 - b * G 1 0,by rw [hc] at ha hb; grind⟩
    · exact ⟨b * G 0 0 - a * G 0 1,by rw [hc] at ha hb; grind⟩
  · obtain ⟨a,ha⟩:=h 0 (by omega)
    obtain ⟨b,hb⟩:=h 1 (by omega)
    obtain ⟨d,hd⟩:=h 2 (by omega)
    simp only [sumN] at ha hb hd
    simp [detN,det3]
    obtain rfl | rfl | rfl:k = 0 ∨ k = 1 ∨ k = 2:=by omega
    · exact ⟨a * (G 1 1 * G 2 2 - G 1 2 * G 2 1) - b * (G 1 0 * G 2 2 - G 1 2 * G 2 0) + d * (G 1 0 * G 2 1 - G 1 1 * G 2 0),by rw [hc] at ha hb hd; grind⟩
    · exact ⟨- a * (G 0 1 * G 2 2 - G 0 2 * G 2 1) + b * (G 0 0 * G 2 2 - G 0 2 * G 2 0) - d * (G 0 0 * G 2 1 - G 0 1 * G 2 0),by rw [hc] at ha hb hd; grind⟩
    · exact ⟨a * (G 0 1 * G 1 2 - G 0 2 * G 1 1) - b * (G 0 0 * G 1 2 - G 0 2 * G 1 0) + d * (G 0 0 * G 1 1 - G 0 1 * G 1 0),by rw [hc] at ha hb hd; grind⟩
theorem unit_ech (hP:isP p = true) (hn:n = 1 ∨ n = 2 ∨ n = 3) {G:Nat->Nat->Int} {rows:List (List Int)} (hl:rows.length = n) (hr:∀ r ∈ rows,Can p (n + n) r) (hu:∀ (i:Nat) (hi:i < rows.length),∀ l,l < n->el rows[i] (n + l) = if i = l then 1 else 0)
    (hg:∀ (i:Nat) (hi:i < rows.length),∀ j,j < n->el rows[i] j = G i j) :
    (ech p rows).length = n ∧ RR p (n + n) (ech p rows) ∧ ((∀ (i:Nat) (hi:i < (ech p rows).length),ld (ech p rows)[i] = i) ↔ detN n G % p ≠ 0):=by
  have hp:=isP_pos hP
  have rr:RR p (n + n) (ech p rows):=ech_RR hP hr
  have h1:=(unit_len hP hl hr (fun i hi => ⟨by rw [hu i hi i (by omega),if_pos rfl],fun i' h1 h2 => by rw [hu i hi i' h2,if_neg (by omega)]⟩) n (Nat.le_refl _)).1
  rw [← hl,List.take_length,hl] at h1
  have hq:∀ x ∈ ech p rows,Half p n G x:=ech_lin hP (half_lin (by omega)) fun r h => ⟨hr r h,fun j hj => by
    obtain ⟨i,hi,rfl⟩:=List.getElem_of_mem h
    rw [hg i hi j hj]
    have:sumN n (fun l => el rows[i] (n + l) * G l j) = G i j:=by
      have e:∀ k,k ≤ n->sumN k (fun l => el rows[i] (n + l) * G l j) = if i < k then G i j else 0:=by
        intro k
        induction k with
        | zero => intro _; simp [sumN]
        | succ k ih =>
          intro hk
          simp only [sumN]
          rw [ih (by omega),hu i hi k (by omega)]
          by_cases q:i = k
          · subst q; rw [if_neg (by omega),if_pos rfl,if_pos (by omega)]; simp
          · rw [if_neg q]
            by_cases z:i < k
            · rw [if_pos z,if_pos (by omega)]; simp
            · rw [if_neg z,if_neg (by omega)]; simp
      rw [e n (Nat.le_refl _),if_pos (by omega)]
    rw [this]; simp⟩
  refine ⟨h1,rr,fun h hd => ?_,fun hd => ?_⟩
  · refine unit_det (by omega) hn (G:=G) (C:=fun i l => el ((ech p rows).getD i []) (n + l)) (fun i hi j hj => ?_) (Int.dvd_of_emod_eq_zero hd)
    have hi':i < (ech p rows).length:=by omega
    have e:(ech p rows).getD i [] = (ech p rows)[i]:=by simp [List.getD_eq_getElem?_getD,List.getElem?_eq_getElem hi']
    simp only [e]
    have:=hq _ (List.getElem_mem hi') j hj
    rw [led_unit rr h1 h i j hi' (by omega)] at this
    exact this
  · rcases led_or rr h1 with q | ⟨r,hr1,hz,l,hl1,hl2⟩
    · exact q
    · refine absurd (Int.emod_eq_zero_of_dvd (zero_det hn (G:=G) (c:=fun l => el r (n + l)) (fun j hj => ?_) hl1 hl2)) hd
      have:=hq r hr1 j hj
      rw [hz j hj] at this
      obtain ⟨u,hu⟩:=this
      exact ⟨-u,by grind⟩
end
abbrev Mat:Type:=mat.den
def me (g:Mat) (i j:Nat):Int:=tget (0:Int) 3 (tget (Ty.dflt (.arr 3 (.int .u8))) 3 g i) j
def okM (g:Mat):Bool:=okV mat g
theorem kwf_u8 {x:Int} (h:kwf .u8 x = true) : 0 ≤ x ∧ x ≤ 255:=by
  simpa [kwf,IntKind.min,IntKind.max,IntKind.bits,IntKind.signed] using h
theorem me_rng {g:Mat} (h:okM g = true) (i j:Nat) : 0 ≤ me g i j ∧ me g i j ≤ 255:=by
  obtain ⟨⟨a,b,c,_⟩,⟨d,e,f,_⟩,⟨x,y,z,_⟩,_⟩:=g
  simp only [okM,okV,okV.okT,Bool.and_eq_true,and_true] at h
  obtain ⟨⟨h1,h2,h3⟩,⟨h4,h5,h6⟩,h7,h8,h9⟩:=h
  have h1:=kwf_u8 h1
  have h2:=kwf_u8 h2
  have h3:=kwf_u8 h3
  have h4:=kwf_u8 h4
  have h5:=kwf_u8 h5
  have h6:=kwf_u8 h6
  have h7:=kwf_u8 h7
  have h8:=kwf_u8 h8
  have h9:=kwf_u8 h9
  have z0:(0:Int) ≤ 0 ∧ (0:Int) ≤ 255:=by omega
  rcases i with _ | _ | _ | i <;> rcases j with _ | _ | _ | j <;> first | exact h1 | exact h2 | exact h3 | exact h4 | exact h5 | exact h6 | exact h7 | exact h8 | exact h9 | exact z0
def cf60:Args [.v ex]->Option R229:=fun x => some (x.1,())
theorem k60:KOne Tryz.prog 229 ⟨[.v ex],[ex],false,false,0,cf60⟩:=ok229 .nil cf60 fun x y h => by
  obtain ⟨⟨a,b,c,_⟩,_⟩:=x
  injection h with h; subst h
  exact ⟨5,rfl⟩
def cf16:Args [.v mat]->Option R192:=fun x => some (x.1,())
theorem k16:KOne Tryz.prog 192 ⟨[.v mat],[mat],false,false,0,cf16⟩:=ok192 _ (.cons k60 .nil) cf16 fun x y h => by
  obtain ⟨⟨⟨a,b,c,_⟩,⟨d,e,f,_⟩,⟨u,v,z,_⟩,_⟩,_⟩:=x
  injection h with h; subst h
  exact ⟨5,rfl⟩
def cf166:Args [.v i64,.v i64,.p mat]->Option R259:=fn259 0
theorem k166:KOne Tryz.prog 259 ⟨[.v i64,.v i64,.p mat],[i64],false,false,0,cf166⟩:=ok259 .nil cf166 fun x y h => ⟨0,h⟩
theorem g166_ok {g:Mat} (hg:okM g = true) {i j:Int} (hi : 0 ≤ i ∧ i < 3) (hj : 0 ≤ j ∧ j < 3):cf166 (i,j,g,()) = some (me g (tn i) (tn j),()):=by
  have h:=me_rng hg (tn i) (tn j)
  simp only [me] at h ⊢
  simp (disch:=omega) only [cf166,fn259,ib_t,ofn,cond_true,w6_id]
theorem by2 {x y:Int} (h1 : 0 ≤ x ∧ x ≤ 255) (h2 : 0 ≤ y ∧ y ≤ 255) : 0 ≤ x * y ∧ x * y ≤ 65025:=by
  have:=mul_rng (c:=256) (d:=256) h1.1 (by omega) h2.1 (by omega)
  refine ⟨this.1,?_⟩
  have:x * y ≤ 255 * y:=Int.mul_le_mul_of_nonneg_right h1.2 h2.1
  omega
theorem by3 {x y:Int} (h1 : 0 ≤ x ∧ x ≤ 255) (h2 : -65025 ≤ y ∧ y ≤ 65025) : -16581375 ≤ x * y ∧ x * y ≤ 16581375:=by
  have a:x * y ≤ x * 65025:=Int.mul_le_mul_of_nonneg_left h2.2 h1.1
  have b:x * (-65025) ≤ x * y:=Int.mul_le_mul_of_nonneg_left h2.1 h1.1
  omega
def cf133:Args [.v i64,.v i64,.v mat]->Option R243:=fn243 cf166 0
theorem k133:KOne Tryz.prog 243 ⟨[.v i64,.v i64,.v mat],[i64],false,false,0,cf133⟩:=ok243 _ (.cons k166 .nil) cf133 fun x y h => ⟨0,h⟩
theorem g133_ok {p n:Int} {g:Mat} (hg:okM g = true) (hp : 2 ≤ p ∧ p ≤ 13) (hn:n = 1 ∨ n = 2 ∨ n = 3):cf133 (p,n,g,()) = some (detN (tn n) (me g) % p,()):=by
  have r:=me_rng hg
  have G:=fun i j hi hj => g166_ok (g:=g) (i:=i) (j:=j) hg hi hj
  have m:=fun (x:Int) => tmod_md (p:=p) (x:=x) (by omega)
  rcases hn with rfl | rfl | rfl
  · have:=r 0 0
    simp (disch:=omega) only [cf133,fn243,G,deq_f,Bool.not_false,cond_true,cond_false]
    have z:=m (me g (tn 0) (tn 0))
    rw [w6_id (by omega) (by omega),z.1]; rfl
  · have a:=by2 (r 0 0) (r 1 1)
    have b:=by2 (r 0 1) (r 1 0)
    simp (disch:=omega) only [cf133,fn243,G,deq_f,deq_t,decide_true,Bool.not_false,cond_true,cond_false]
    rw [show tn 0 = 0 from rfl,show tn 1 = 1 from rfl]
    have z:=m (me g 0 0 * me g 1 1 - me g 0 1 * me g 1 0)
    simp (disch:=omega) only [w6_id,z.1]
    rfl
  · have a:=by2 (r 1 1) (r 2 2)
    have b:=by2 (r 1 2) (r 2 1)
    have c:=by2 (r 1 0) (r 2 2)
    have d:=by2 (r 1 2) (r 2 0)
    have e:=by2 (r 1 0) (r 2 1)
    have f:=by2 (r 1 1) (r 2 0)
    have a1:=by3 (r 0 0) (y:=me g 1 1 * me g 2 2 - me g 1 2 * me g 2 1) (by omega)
    have a2:=by3 (r 0 1) (y:=me g 1 0 * me g 2 2 - me g 1 2 * me g 2 0) (by omega)
    have a3:=by3 (r 0 2) (y:=me g 1 0 * me g 2 1 - me g 1 1 * me g 2 0) (by omega)
    simp (disch:=omega) only [cf133,fn243,G,deq_f,deq_t,decide_true,Bool.not_false,cond_true,cond_false]
    rw [show tn 0 = 0 from rfl,show tn 1 = 1 from rfl,show tn 2 = 2 from rfl]
    have z:=m (me g 0 0 * (me g 1 1 * me g 2 2 - me g 1 2 * me g 2 1) - me g 0 1 * (me g 1 0 * me g 2 2 - me g 1 2 * me g 2 0) + me g 0 2 * (me g 1 0 * me g 2 1 - me g 1 1 * me g 2 0))
    simp (disch:=omega) only [w6_id,z.1]
    rfl
def cellB (p n i j v:Int):Bool:=decide (v < p) && ((decide (i < n) && decide (j < n)) || decide (v = 0))
def rowB (p n:Int) (g:Mat) (i:Nat):Bool:=cellB p n i 0 (me g i 0) && (cellB p n i 1 (me g i 1) && cellB p n i 2 (me g i 2))
def rngB (p n:Int) (g:Mat):Bool:=rowB p n g 0 && (rowB p n g 1 && rowB p n g 2)
theorem step58 {p n i j:Int} {g:Mat} (hg:okM g = true) (hi : 0 ≤ i ∧ i < 3) (hj : 0 ≤ j ∧ j < 3) {g82:Args [.v i64]->Option (Ress [.bool])} {g73:Args [.v i64,.v i64,.v i64]->Option (Ress [.bool])} {g129:Args [.v i64,.v i64,.v mat]->Option (Ress [mat,.bool])} {F:Nat} {k kx:ShVal sh183_7->Option R183} :
    st183_7 g82 g73 g129 F ((p,()),((n,()),((g,()),((i,()),((j,()),()))))) k kx = bif cellB p n i j (me g (tn i) (tn j)) then k ((p,()),((n,()),((g,()),((i,()),((j + 1,()),()))))) else some (false,()):=by
  have r:=me_rng hg (tn i) (tn j)
  simp (disch:=omega) only [st183_7,dlt_t,cond_true,ib_t,ofn,w6_id (x:=j + 1)]
  rw [show tget (0:Int) 3 (tget (Ty.dflt (.arr 3 (.int .u8))) 3 g (tn i)) (tn j) = me g (tn i) (tn j) from rfl]
  rw [w6_id (by omega) (by omega)]
  generalize me g (tn i) (tn j) = v at *
  unfold cellB
  by_cases h1:p ≤ v
  · rw [decide_eq_true h1,decide_eq_false (show ¬ v < p by omega)]; rfl
  · rw [decide_eq_false h1,decide_eq_true (show v < p by omega)]
    by_cases h2:n ≤ i
    · rw [decide_eq_true h2,decide_eq_false (show ¬ i < n by omega)]
      by_cases h4:v = 0
      · rw [decide_eq_true h4]; rfl
      · rw [decide_eq_false h4]; rfl
    · rw [decide_eq_false h2,decide_eq_true (show i < n by omega)]
      by_cases h3:n ≤ j
      · rw [decide_eq_true h3,decide_eq_false (show ¬ j < n by omega)]
        by_cases h4:v = 0
        · rw [decide_eq_true h4]; rfl
        · rw [decide_eq_false h4]; rfl
      · rw [decide_eq_false h3,decide_eq_true (show j < n by omega)]; rfl
theorem row58 {p n i:Int} {g:Mat} (hg:okM g = true) (hi : 0 ≤ i ∧ i < 3) {g82:Args [.v i64]->Option (Ress [.bool])} {g73:Args [.v i64,.v i64,.v i64]->Option (Ress [.bool])} {g129:Args [.v i64,.v i64,.v mat]->Option (Ress [mat,.bool])} {F0 F:Nat} {kx:ShVal sh183_7->Option R183} :
    iter (fun s k => st183_7 g82 g73 g129 F0 s k kx) (F + 4) ((p,()),((n,()),((g,()),((i,()),(((0:Int),()),()))))) = bif rowB p n g (tn i) then kx ((p,()),((n,()),((g,()),((i,()),(((3:Int),()),()))))) else some (false,()):=by
  have hi':((tn i:Nat):Int) = i:=Int.toNat_of_nonneg hi.1
  simp only [iter]
  rw [step58 hg hi (by omega)]
  simp only [iter]
  rw [step58 hg hi (by omega)]
  simp only [iter]
  rw [step58 hg hi (by omega)]
  unfold rowB
  rw [hi']
  simp only [show ((0:Int) + 1) = 1 from rfl,show ((1:Int) + 1) = 2 from rfl,show ((2:Int) + 1) = 3 from rfl,show tn 0 = 0 from rfl,show tn 1 = 1 from rfl,show tn 2 = 2 from rfl]
  cases cellB p n i 0 (me g (tn i) 0) with
  | false => rfl
  | true =>
    cases cellB p n i 1 (me g (tn i) 1) with
    | false => rfl
    | true =>
      cases cellB p n i 2 (me g (tn i) 2) with
      | false => rfl
      | true => simp (disch:=omega) only [cond_true,Bool.and_self,st183_7,dlt_f,cond_false]
theorem loop58 {p n:Int} {g:Mat} (hg:okM g = true) {g82:Args [.v i64]->Option (Ress [.bool])} {g73:Args [.v i64,.v i64,.v i64]->Option (Ress [.bool])} {g129:Args [.v i64,.v i64,.v mat]->Option (Ress [mat,.bool])} {F:Nat} {kx:ShVal sh183_4->Option R183} :
    iter (fun s k => st183_4 g82 g73 g129 (F + 4) s k kx) (F + 4) ((p,()),((n,()),((g,()),(((0:Int),()),())))) = bif rngB p n g then kx ((p,()),((n,()),((g,()),(((3:Int),()),())))) else some (false,()):=by
  have one:∀ (i:Int) (hi : 0 ≤ i ∧ i < 3) (k:ShVal sh183_4->Option R183),st183_4 g82 g73 g129 (F + 4) ((p,()),((n,()),((g,()),((i,()),())))) k kx = bif rowB p n g (tn i) then k ((p,()),((n,()),((g,()),((i + 1,()),())))) else some (false,()):=by
    intro i hi k
    simp (disch:=omega) only [st183_4,dlt_t,cond_true,ru183_7]
    rw [row58 hg hi]
    simp (disch:=omega) only [w6_id]
  simp only [iter]
  rw [one 0 (by omega)]
  simp only [iter]
  rw [one _ (by omega)]
  simp only [iter]
  rw [one _ (by omega)]
  unfold rngB
  simp only [show ((0:Int) + 1) = 1 from rfl,show ((1:Int) + 1) = 2 from rfl,show ((2:Int) + 1) = 3 from rfl,show tn 0 = 0 from rfl,show tn 1 = 1 from rfl,show tn 2 = 2 from rfl]
  cases rowB p n g 0 with
  | false => rfl
  | true =>
    cases rowB p n g 1 with
    | false => rfl
    | true =>
      cases rowB p n g 2 with
      | false => rfl
      | true => simp (disch:=omega) only [cond_true,Bool.and_self,st183_4,dlt_f,cond_false]
theorem step131 {p n i j:Int} {g:Mat} (hg:okM g = true) (hi : 0 ≤ i ∧ i < 3) (hj : 0 ≤ j ∧ j < 3) {g86:Args [.v i64]->Option (Ress [.bool])} {g87:Args [.v i64]->Option (Ress [.bool])} {g133:Args [.v i64,.v i64,.v mat]->Option (Ress [i64])} {F:Nat} {i':Int} {k kx:ShVal sh230_7->Option R230} :
    st230_7 g86 g87 g133 F ((p,()),((n,()),((g,()),((i,()),((i',()),((j,()),())))))) k kx = bif cellB p n i j (me g (tn i) (tn j)) then k ((p,()),((n,()),((g,()),((i,()),((i',()),((j + 1,()),())))))) else some (false,()):=by
  have r:=me_rng hg (tn i) (tn j)
  simp (disch:=omega) only [st230_7,dlt_t,cond_true,ib_t,ofn,w6_id (x:=j + 1)]
  rw [show tget (0:Int) 3 (tget (Ty.dflt (.arr 3 (.int .u8))) 3 g (tn i)) (tn j) = me g (tn i) (tn j) from rfl]
  rw [w6_id (by omega) (by omega)]
  generalize me g (tn i) (tn j) = v at *
  unfold cellB
  by_cases h1:p ≤ v
  · rw [decide_eq_true h1,decide_eq_false (show ¬ v < p by omega)]; rfl
  · rw [decide_eq_false h1,decide_eq_true (show v < p by omega)]
    by_cases h2:n ≤ i
    · rw [decide_eq_true h2,decide_eq_false (show ¬ i < n by omega)]
      by_cases h4:v = 0
      · rw [decide_eq_true h4]; rfl
      · rw [decide_eq_false h4]; rfl
    · rw [decide_eq_false h2,decide_eq_true (show i < n by omega)]
      by_cases h3:n ≤ j
      · rw [decide_eq_true h3,decide_eq_false (show ¬ j < n by omega)]
        by_cases h4:v = 0
        · rw [decide_eq_true h4]; rfl
        · rw [decide_eq_false h4]; rfl
      · rw [decide_eq_false h3,decide_eq_true (show j < n by omega)]; rfl
theorem row131 {p n i:Int} {g:Mat} (hg:okM g = true) (hi : 0 ≤ i ∧ i < 3) {g86:Args [.v i64]->Option (Ress [.bool])} {g87:Args [.v i64]->Option (Ress [.bool])} {g133:Args [.v i64,.v i64,.v mat]->Option (Ress [i64])} {F0 F:Nat} {i':Int} {kx:ShVal sh230_7->Option R230} :
    iter (fun s k => st230_7 g86 g87 g133 F0 s k kx) (F + 4) ((p,()),((n,()),((g,()),((i,()),((i',()),(((0:Int),()),())))))) = bif rowB p n g (tn i) then kx ((p,()),((n,()),((g,()),((i,()),((i',()),(((3:Int),()),())))))) else some (false,()):=by
  have hi':((tn i:Nat):Int) = i:=Int.toNat_of_nonneg hi.1
  simp only [iter]
  rw [step131 hg hi (by omega)]
  simp only [iter]
  rw [step131 hg hi (by omega)]
  simp only [iter]
  rw [step131 hg hi (by omega)]
  unfold rowB
  rw [hi']
  simp only [show ((0:Int) + 1) = 1 from rfl,show ((1:Int) + 1) = 2 from rfl,show ((2:Int) + 1) = 3 from rfl,show tn 0 = 0 from rfl,show tn 1 = 1 from rfl,show tn 2 = 2 from rfl]
  cases cellB p n i 0 (me g (tn i) 0) with
  | false => rfl
  | true =>
    cases cellB p n i 1 (me g (tn i) 1) with
    | false => rfl
    | true =>
      cases cellB p n i 2 (me g (tn i) 2) with
      | false => rfl
      | true => simp (disch:=omega) only [cond_true,Bool.and_self,st230_7,dlt_f,cond_false]
theorem loop131 {p n:Int} {g:Mat} (hg:okM g = true) {g86:Args [.v i64]->Option (Ress [.bool])} {g87:Args [.v i64]->Option (Ress [.bool])} {g133:Args [.v i64,.v i64,.v mat]->Option (Ress [i64])} {F:Nat} {kx:ShVal sh230_4->Option R230} :
    iter (fun s k => st230_4 g86 g87 g133 (F + 4) s k kx) (F + 4) ((p,()),((n,()),((g,()),(((0:Int),()),())))) = bif rngB p n g then kx ((p,()),((n,()),((g,()),(((3:Int),()),())))) else some (false,()):=by
  have one:∀ (i:Int) (hi : 0 ≤ i ∧ i < 3) (k:ShVal sh230_4->Option R230),st230_4 g86 g87 g133 (F + 4) ((p,()),((n,()),((g,()),((i,()),())))) k kx = bif rowB p n g (tn i) then k ((p,()),((n,()),((g,()),((i + 1,()),())))) else some (false,()):=by
    intro i hi k
    simp (disch:=omega) only [st230_4,dlt_t,cond_true,ru230_7]
    rw [row131 hg hi]
    simp (disch:=omega) only [w6_id]
  simp only [iter]
  rw [one 0 (by omega)]
  simp only [iter]
  rw [one _ (by omega)]
  simp only [iter]
  rw [one _ (by omega)]
  unfold rngB
  simp only [show ((0:Int) + 1) = 1 from rfl,show ((1:Int) + 1) = 2 from rfl,show ((2:Int) + 1) = 3 from rfl,show tn 0 = 0 from rfl,show tn 1 = 1 from rfl,show tn 2 = 2 from rfl]
  cases rowB p n g 0 with
  | false => rfl
  | true =>
    cases rowB p n g 1 with
    | false => rfl
    | true =>
      cases rowB p n g 2 with
      | false => rfl
      | true => simp (disch:=omega) only [cond_true,Bool.and_self,st230_4,dlt_f,cond_false]
def inR (n:Int):Bool:=decide (1 ≤ n) && decide (n ≤ 3)
theorem inR_cases {n:Int} (h:inR n = true):n = 1 ∨ n = 2 ∨ n = 3:=by
  simp [inR] at h; omega
def matB (p n:Int) (g:Mat):Bool:=isP p && (inR n && (rngB p n g && !decide (detN (tn n) (me g) % p = 0)))
def cf131:Args [.v i64,.v i64,.v mat]->Option R230:=fn230 cf82 cf87 cf133 6
theorem k131:KOne Tryz.prog 230 ⟨[.v i64,.v i64,.v mat],[.bool],false,false,0,cf131⟩:=ok230 _ _ _ (.cons k86 (.cons k87 (.cons k133 .nil))) cf131 fun x y h => ⟨6,h⟩
theorem g131_ok {p n:Int} {g:Mat} (hg:okM g = true):cf131 (p,n,g,()) = some (matB p n g,()):=by
  simp only [cf131,fn230]
  rw [show cf82 (p,()) = some (isP p,()) from rfl,show cf87 (n,()) = some (inR n,()) from rfl]
  simp only
  unfold matB
  cases hP:isP p with
  | false => rfl
  | true =>
    cases hR:inR n with
    | false => rfl
    | true =>
      simp only [Bool.not_true,cond_false,Bool.true_and]
      rw [show ru230_4 cf82 cf87 cf133 6 = fun s kx => iter (fun s k => st230_4 cf82 cf87 cf133 (2 + 4) s k kx) (2 + 4) s from rfl]
      simp only
      rw [loop131 hg]
      cases rngB p n g with
      | false => rfl
      | true =>
        simp only [cond_true]
        rw [g133_ok hg (isP_pos hP) (inR_cases hR)]
        rfl
noncomputable def cf129:Args [.v i64,.v i64,.v mat]->Option R228:=fn228 cf108 cf153 8
theorem k129:KOne Tryz.prog 228 ⟨[.v i64,.v i64,.v mat],[mat,.bool],false,false,0,cf129⟩:=ok228 _ _ (.cons k108 (.cons k153 .nil)) cf129 fun x y h => ⟨8,h⟩
def rowsL (n:Int) (g:Mat):List (List Int) :=
  if n = 1 then [[me g 0 0,1]] else if n = 2 then [[me g 0 0,me g 0 1,1,0],[me g 1 0,me g 1 1,0,1]]
  else [[me g 0 0,me g 0 1,me g 0 2,1,0,0],[me g 1 0,me g 1 1,me g 1 2,0,1,0],[me g 2 0,me g 2 1,me g 2 2,0,0,1]]
theorem w6_me {g:Mat} (hg:okM g = true) (i j:Nat):w6 (tget (0:Int) 3 (tget (Ty.dflt (.arr 3 (.int .u8))) 3 g i) j) = me g i j:=by
  have:=me_rng hg i j
  rw [show tget (0:Int) 3 (tget (Ty.dflt (.arr 3 (.int .u8))) 3 g i) j = me g i j from rfl]
  exact w6_id (by omega) (by omega)
theorem build129 {p n:Int} {g M:Mat} (hg:okM g = true) (hn:n = 1 ∨ n = 2 ∨ n = 3) {g108:Args [.v i64,.v (.slice 44 (.slice 2 i64))]->Option (Ress [.slice 44 (.slice 2 i64)])} {g153:Args [.v (.slice 2 i64)]->Option (Ress [i64])} {kx:ShVal sh228_3->Option R228} :
    iter (fun s k => st228_3 g108 g153 8 s k kx) 8 ((p,()),((n,()),((g,()),((M,()),(([],()),(((0:Int),()),())))))) = kx ((p,()),((n,()),((g,()),((M,()),((rowsL n g,()),((n,()),())))))):=by
  have W:∀ i j,w6 (me g i j) = me g i j:=w6_me hg
  rcases hn with rfl | rfl | rfl
  · have e:iter (fun s k => st228_3 g108 g153 8 s k kx) 8 ((p,()),(((1:Int),()),((g,()),((M,()),(([],()),(((0:Int),()),())))))) = kx ((p,()),(((1:Int),()),((g,()),((M,()),(([[w6 (me g 0 0),1]],()),(((1:Int),()),())))))):=by kernel_rfl
    rw [e]; simp only [W]; rfl
  · have e:iter (fun s k => st228_3 g108 g153 8 s k kx) 8 ((p,()),(((2:Int),()),((g,()),((M,()),(([],()),(((0:Int),()),())))))) = kx ((p,()),(((2:Int),()),((g,()),((M,()),(([[w6 (me g 0 0),w6 (me g 0 1),1,0],[w6 (me g 1 0),w6 (me g 1 1),0,1]],()),(((2:Int),()),())))))):=by kernel_rfl
    rw [e]; simp only [W]; rfl
  · have e:iter (fun s k => st228_3 g108 g153 8 s k kx) 8 ((p,()),(((3:Int),()),((g,()),((M,()),(([],()),(((0:Int),()),())))))) = kx ((p,()),(((3:Int),()),((g,()),((M,()),(([[w6 (me g 0 0),w6 (me g 0 1),w6 (me g 0 2),1,0,0],[w6 (me g 1 0),w6 (me g 1 1),w6 (me g 1 2),0,1,0],[w6 (me g 2 0),w6 (me g 2 1),w6 (me g 2 2),0,0,1]],()),(((3:Int),()),())))))):=by kernel_rfl
    rw [e]; simp only [W]; rfl
theorem can_of {p:Int} {m:Nat} {r:List Int} (hp : 0 < p) (hl:r.length = m) (h:∀ x ∈ r,0 ≤ x ∧ x < p):Can p m r:=by
  refine ⟨hl,fun i => ?_⟩
  rcases Nat.lt_or_ge i r.length with q | q
  · rw [el_get q]; exact h _ (List.getElem_mem q)
  · rw [el_ge q]; omega
theorem cell_lt {p n i j v:Int} (h:cellB p n i j v = true):v < p:=by
  simp only [cellB,Bool.and_eq_true,decide_eq_true_eq] at h; exact h.1
theorem rng_lt {p n:Int} {g:Mat} (h:rngB p n g = true):(me g 0 0 < p ∧ me g 0 1 < p ∧ me g 0 2 < p) ∧ (me g 1 0 < p ∧ me g 1 1 < p ∧ me g 1 2 < p) ∧ me g 2 0 < p ∧ me g 2 1 < p ∧ me g 2 2 < p:=by
  simp only [rngB,rowB,Bool.and_eq_true] at h
  obtain ⟨⟨a,b,c⟩,⟨d,e,f⟩,x,y,z⟩:=h
  exact ⟨⟨cell_lt a,cell_lt b,cell_lt c⟩,⟨cell_lt d,cell_lt e,cell_lt f⟩,cell_lt x,cell_lt y,cell_lt z⟩
theorem rows_ok {p n:Int} {g:Mat} (hg:okM g = true) (hP:isP p = true) (hn:n = 1 ∨ n = 2 ∨ n = 3) (hr:rngB p n g = true) :
    (rowsL n g).length = tn n ∧ (∀ r ∈ rowsL n g,Can p (tn n + tn n) r) ∧ (∀ (i:Nat) (hi:i < (rowsL n g).length),∀ l,l < tn n->el (rowsL n g)[i] (tn n + l) = if i = l then 1 else 0) ∧
      (∀ (i:Nat) (hi:i < (rowsL n g).length),∀ j,j < tn n->el (rowsL n g)[i] j = me g i j):=by
  have hp:=isP_pos hP
  have r:=me_rng hg
  have l:=rng_lt hr
  have z:=fun i j => (r i j).1
  rcases hn with rfl | rfl | rfl
  · rw [show tn 1 = 1 from rfl]
    refine ⟨rfl,fun x hx => ?_,fun i hi l hl => ?_,fun i hi j hj => ?_⟩
    · simp only [rowsL,if_true,List.mem_singleton] at hx
      subst hx
      refine can_of (by omega) rfl fun y hy => ?_
      simp only [List.mem_cons,List.not_mem_nil,or_false] at hy
      rcases hy with rfl | rfl
      · exact ⟨z 0 0,l.1.1⟩
      · omega
    · simp [rowsL] at hi; subst hi
      obtain rfl:l = 0:=by omega
      rfl
    · simp [rowsL] at hi; subst hi
      obtain rfl:j = 0:=by omega
      rfl
  · rw [show tn 2 = 2 from rfl]
    have hi2:∀ i,i < (rowsL 2 g).length->i = 0 ∨ i = 1:=fun i hi => by simp [rowsL] at hi; omega
    refine ⟨rfl,fun x hx => ?_,fun i hi l hl => ?_,fun i hi j hj => ?_⟩
    · have hx:x = [me g 0 0,me g 0 1,1,0] ∨ x = [me g 1 0,me g 1 1,0,1]:=by simpa [rowsL] using hx
      refine can_of (by omega) (by rcases hx with rfl | rfl <;> rfl) fun y hy => ?_
      have:=z 0 0
      have:=z 0 1
      have:=z 1 0
      have:=z 1 1
      rcases hx with rfl | rfl <;> (simp only [List.mem_cons,List.not_mem_nil,or_false] at hy; omega)
    · rcases hi2 i hi with rfl | rfl <;> (obtain rfl | rfl:l = 0 ∨ l = 1:=by omega) <;> rfl
    · rcases hi2 i hi with rfl | rfl <;> (obtain rfl | rfl:j = 0 ∨ j = 1:=by omega) <;> rfl
  · rw [show tn 3 = 3 from rfl]
    have hi2:∀ i,i < (rowsL 3 g).length->i = 0 ∨ i = 1 ∨ i = 2:=fun i hi => by simp [rowsL] at hi; omega
    refine ⟨rfl,fun x hx => ?_,fun i hi l hl => ?_,fun i hi j hj => ?_⟩
    · have hx:x = [me g 0 0,me g 0 1,me g 0 2,1,0,0] ∨ x = [me g 1 0,me g 1 1,me g 1 2,0,1,0] ∨ x = [me g 2 0,me g 2 1,me g 2 2,0,0,1]:=by simpa [rowsL] using hx
      refine can_of (by omega) (by rcases hx with rfl | rfl | rfl <;> rfl) fun y hy => ?_
      have:=z 0 0
      have:=z 0 1
      have:=z 0 2
      have:=z 1 0
      have:=z 1 1
      have:=z 1 2
      have:=z 2 0
      have:=z 2 1
      have:=z 2 2
      rcases hx with rfl | rfl | rfl <;> (simp only [List.mem_cons,List.not_mem_nil,or_false] at hy; omega)
    · rcases hi2 i hi with rfl | rfl | rfl <;> (obtain rfl | rfl | rfl:l = 0 ∨ l = 1 ∨ l = 2:=by omega) <;> rfl
    · rcases hi2 i hi with rfl | rfl | rfl <;> (obtain rfl | rfl | rfl:j = 0 ∨ j = 1 ∨ j = 2:=by omega) <;> rfl
theorem iter_succ {S α : Type} {step:S->(S->Option α)->Option α} {f:Nat} {s:S}:iter step (f + 1) s = step s (iter step f):=rfl
theorem row129 {N:Nat} (hN:N ≤ 3) {g:Mat} {out:List (List Int)} {i:Nat} (hi:i < N) (ho:i < out.length) (hl:(out.getD i []).length = N + N) (M:Mat) {g108:Args [.v i64,.v (.slice 44 (.slice 2 i64))]->Option (Ress [.slice 44 (.slice 2 i64)])} {g153:Args [.v (.slice 2 i64)]->Option (Ress [i64])} :
    ∃ M':Mat,∀ (F0:Nat) (kx:ShVal sh228_21->Option R228),iter (fun s k => st228_21 g108 g153 F0 s k kx) 8 (((N:Int),()),((g,()),((out,()),((M,()),(((i:Int),()),(((0:Int),()),())))))) = kx (((N:Int),()),((g,()),((out,()),((M',()),(((i:Int),()),(((N:Int),()),())))))):=by
  let Mj:Nat->Mat:=fun j => Nat.rec (motive:=fun _ => Mat) M (fun j (m:Mat) => (tset (tset (w8 (List.getD (List.getD out i []) (tn ((N:Int) + (j:Int))) (0:Int))) 3 (tget (Ty.dflt (.arr 3 (.int .u8))) 3 m i) j) 3 m i:Mat)) j
  refine ⟨Mj N,fun F0 kx => ?_⟩
  refine iter_run N 8 (fun j => (((N:Int),()),((g,()),((out,()),((Mj j,()),(((i:Int),()),(((j:Int),()),()))))))) (by omega) (fun j hj k => ?_) (fun k => ?_)
  · simp (disch:=omega) only [st228_21,dlt_t,cond_true,ib_t,ofn,tn_cast,w6_id]
    rfl
  · simp (disch:=omega) only [st228_21,dlt_f,cond_false]
theorem lead129 {p:Int} {N:Nat} (hN:N ≤ 3) {g:Mat} {out:List (List Int)} (rr:RR p (N + N) out) (hl:out.length = N) {g108:Args [.v i64,.v (.slice 44 (.slice 2 i64))]->Option (Ress [.slice 44 (.slice 2 i64)])}:∀ (k i:Nat) (M:Mat) (F:Nat),i + k = N->k < F →
    ∃ (M':Mat) (b:Bool),iter (fun s k => st228_16 g108 cf153 8 s k (fun s' => match s' with | ((t1,_),(t6,_),(t12,_),(t13,_),(t14,_),_) => (some (t13,(true,()))))) F (((N:Int),()),((g,()),((out,()),((M,()),(((i:Int),()),()))))) = some (M',(b,())) ∧
      (b = true ↔ ∀ (i':Nat) (h:i' < out.length),i ≤ i'->ld out[i'] = i')
  | 0,i,M,F,hk,hF => by
    obtain ⟨F,rfl⟩:∃ f,F = f + 1:=⟨F - 1,by omega⟩
    refine ⟨M,true,?_,by simp; omega⟩
    rw [iter_succ]
    simp (disch:=omega) only [st228_16,dlt_f,cond_false]
  | k + 1,i,M,F,hk,hF => by
    obtain ⟨F,rfl⟩:∃ f,F = f + 1:=⟨F - 1,by omega⟩
    have hi:i < out.length:=by omega
    have e:out.getD i [] = out[i]:=by simp [List.getD_eq_getElem?_getD,List.getElem?_eq_getElem hi]
    have c:=rr.can _ (List.getElem_mem hi)
    have lt:=rr.lt _ (List.getElem_mem hi)
    have g1:=g153_ok (l:=out[i]) (by rw [c.len]; omega)
    rw [ldI_lt c.len lt] at g1
    obtain ⟨M1,h1⟩:=row129 (N:=N) hN (g:=g) (out:=out) (i:=i) (by omega) hi (by rw [e]; exact c.len) M (g108:=g108) (g153:=cf153)
    obtain ⟨M2,b,h2,h3⟩:=lead129 hN rr hl (g:=g) (g108:=g108) k (i + 1) M1 F (by omega) (by omega)
    by_cases q:ld out[i] = i
    · refine ⟨M2,b,?_,h3.trans ⟨fun h i' hi' hle => ?_,fun h i' hi' hle => h i' hi' (by omega)⟩⟩
      · rw [iter_succ]
        generalize iter _ F = G at h2 ⊢
        simp (disch:=omega) only [st228_16,dlt_t,cond_true,ib_t,ofn,tn_cast,e,g1,deq_t,Bool.not_true,cond_false,ru228_21,h1,w6_id]
        exact h2
      · rcases Nat.lt_or_ge i i' with z | z
        · exact h i' hi' (by omega)
        · obtain rfl:i' = i:=by omega
          exact q
    · refine ⟨M,false,?_,by simp; exact ⟨i,Nat.le_refl _,hi,q⟩⟩
      rw [iter_succ]
      simp (disch:=omega) only [st228_16,dlt_t,cond_true,ib_t,ofn,tn_cast,e,g1,deq_f,Bool.not_false]
theorem g129_ok {p n:Int} {g:Mat} (hg:okM g = true) (hP:isP p = true) (hn:n = 1 ∨ n = 2 ∨ n = 3) (hr:rngB p n g = true):∃ M,cf129 (p,n,g,()) = some (M,(!decide (detN (tn n) (me g) % p = 0),())):=by
  obtain ⟨r1,r2,r3,r4⟩:=rows_ok hg hP hn hr
  have hN:((tn n:Nat):Int) = n:=Int.toNat_of_nonneg (by omega)
  have hn3:tn n ≤ 3:=by omega
  obtain ⟨e1,e2,e3⟩:=unit_ech hP (n:=tn n) (by omega) (G:=me g) r1 r2 r3 r4
  have g1:=g108_ok hP r2 (by omega) (by omega)
  obtain ⟨M,b,h1,h2⟩:=lead129 (p:=p) hn3 (g:=Ty.dflt (.arr 3 (.arr 3 (.int .u8)))) e2 e1 (g108:=cf108) (tn n) 0 (tup (Prod Int (Prod Int (Prod Int Unit))) (Ty.dflt (.arr 3 (.int .u8))) 3) 8 (by omega) (by omega)
  rw [hN] at h1
  have hb:b = !decide (detN (tn n) (me g) % p = 0):=by
    have:b = true ↔ detN (tn n) (me g) % p ≠ 0:=h2.trans ⟨fun h => e3.1 fun i hi => h i hi (by omega),fun h i hi _ => e3.2 h i hi⟩
    by_cases q:detN (tn n) (me g) % p = 0
    · rw [decide_eq_true q]
      cases b with
      | false => rfl
      | true => exact absurd q (this.1 rfl)
    · rw [decide_eq_false q]
      exact this.2 q
  refine ⟨M,?_⟩
  rw [← hb]
  unfold cf129 fn228 ru228_3
  refine (build129 hg hn).trans ?_
  simp only [g1]
  simp (disch:=omega) only [dln_t,cond_true,ofn,e1,hN,deq_t,decide_true,Bool.not_true,cond_false,ru228_16]
  exact h1
noncomputable def cf58:Args [.v i64,.v i64,.v mat]->Option R183:=fn183 cf82 cf73 cf129 6
theorem k58:KOne Tryz.prog 183 ⟨[.v i64,.v i64,.v mat],[.bool],false,false,0,cf58⟩:=ok183 _ _ _ (.cons k82 (.cons k73 (.cons k129 .nil))) cf58 fun x y h => ⟨6,h⟩
theorem g58_ok {p n:Int} {g:Mat} (hg:okM g = true):cf58 (p,n,g,()) = some (matB p n g,()):=by
  simp only [cf58,fn183]
  rw [show cf82 (p,()) = some (isP p,()) from rfl,show cf73 (n,(1:Int),(3:Int),()) = some (inR n,()) from rfl]
  simp only
  unfold matB
  cases hP:isP p with
  | false => rfl
  | true =>
    cases hR:inR n with
    | false => rfl
    | true =>
      simp only [Bool.not_true,cond_false,Bool.true_and]
      rw [show ru183_4 cf82 cf73 cf129 6 = fun s kx => iter (fun s k => st183_4 cf82 cf73 cf129 (2 + 4) s k kx) (2 + 4) s from rfl]
      simp only
      rw [loop58 hg]
      cases hr:rngB p n g with
      | false => rfl
      | true =>
        simp only [cond_true]
        obtain ⟨M,hM⟩:=g129_ok hg hP (inR_cases hR) hr
        rw [hM]
        rfl
def c61 (p n:Int) (l:List Mat):Option (Bool × Unit):=if l.length ≤ 1000000 ∧ l.all okM = true then some (l.all (matB p n) && (isP p && inR n),()) else none
def cf61:Args [.v i64,.v i64,.v (.slice 112 mat)]->Option R193:=fun x => c61 x.1 x.2.1 x.2.2.1
theorem all_split {l:List Mat} {f:Mat->Bool} {i:Nat} (hi:i < l.length):(l.drop i).all f = (f l[i] && (l.drop (i + 1)).all f):=by
  rw [List.drop_eq_getElem_cons hi,List.all_cons]
theorem run61 {p n:Int} {l:List Mat} (hl:l.length ≤ 1000000) (ho:l.all okM = true):fn193 cf131 cf87 cf82 (l.length + 1) (p,n,l,()) = some (l.all (matB p n) && (isP p && inR n),()):=by
  simp (disch:=omega) only [fn193,dln_t,cond_true,ru193_2]
  have main:∀ (k i F:Nat),i + k = l.length->k < F->iter (fun s k => st193_2 cf131 cf87 cf82 (l.length + 1) s k (fun s' => match s' with | ((t0,_),(t1,_),(t9,_),(t10,_),(t11,_),_) => (match (cf82 (t0,())) with | some r14 => (bif r14.1 then (match (cf87 (t1,())) with | some r15 => (some ((bif true then r15.1 else false),())) | none => none) else (some (false,()))) | none => none))) F ((p,()),((n,()),((l,()),(((l.length:Nat):Int),()),(((i:Nat):Int),()),()))) =
      some ((l.drop i).all (matB p n) && (isP p && inR n),()):=by
    intro k
    induction k with
    | zero =>
      intro i F hi hF
      obtain ⟨F,rfl⟩:∃ f,F = f + 1:=⟨F - 1,by omega⟩
      rw [iter_succ]
      simp (disch:=omega) only [st193_2,dlt_f,cond_false]
      rw [List.drop_eq_nil_of_le (by omega)]
      simp only [List.all_nil,Bool.true_and]
      rw [show cf82 (p,()) = some (isP p,()) from rfl,show cf87 (n,()) = some (inR n,()) from rfl]
      cases isP p <;> rfl
    | succ k ih =>
      intro i F hi hF
      obtain ⟨F,rfl⟩:∃ f,F = f + 1:=⟨F - 1,by omega⟩
      have hil:i < l.length:=by omega
      have e:l.getD i (Ty.dflt (.arr 3 (.arr 3 (.int .u8)))) = l[i]:=by simp [List.getD_eq_getElem?_getD,List.getElem?_eq_getElem hil]
      have g1:=g131_ok (p:=p) (n:=n) (List.all_eq_true.1 ho _ (List.getElem_mem hil))
      rw [iter_succ,all_split hil]
      have ih:=ih (i + 1) F (by omega) (by omega)
      generalize iter _ F = G at ih ⊢
      simp (disch:=omega) only [st193_2,dlt_t,cond_true,ib_t,ofn,tn_cast,e,g1]
      cases matB p n l[i] with
      | false => rfl
      | true =>
        simp (disch:=omega) only [Bool.not_true,cond_false,w6_id,Bool.true_and]
        exact ih
  exact main l.length 0 (l.length + 1) (by omega) (by omega)
theorem k61:KOne Tryz.prog 193 ⟨[.v i64,.v i64,.v (.slice 112 mat)],[.bool],false,false,0,cf61⟩:=ok193 _ _ _ (.cons k131 (.cons k87 (.cons k86 .nil))) cf61 fun x y h => by
  obtain ⟨p,n,l,_⟩:=x
  simp only [cf61,c61] at h
  split at h
  · rename_i hc
    injection h with h; subst h
    exact ⟨_,run61 hc.1 hc.2⟩
  · cases h
abbrev R191:Type:=Ress [(.slice 44 (.slice 2 i64))]
abbrev G191:Type:=Args [.v i64,.v i64,.v mat]->Option R191
abbrev kp191:List (Nat × List Nat):=[(0,[1,5,0]),(1,[1,7,5,0]),(2,[1,7,5,8,0]),(3,[15,0,8,5,7,1]),(5,[9,0,8,5,7,1]),(6,[10,9,0,8,5,7,1]),(7,[21,9,10,0,8,5,7,1]),(9,[11,9,10,0,8,5,7,1]),(10,[32,11,9,10,0,8,5,7,1]),(11,[9,11,10,0,8,5,7,1]),(12,[10,9,0,8,5,7,1]),(8,[10,9,0,8,5,7,1]),(13,[8,1,7,5,0]),(4,[1,7,5,8,0]),(14,[6])]
abbrev ct191 (g219:G219):CTab:=[(219,⟨[.v i64,.v i64],[i64],false,false,0,g219⟩)]
abbrev kr191:Env->Option R191:=endK TT [.tmp 6] [(.slice 44 (.slice 2 i64))] true false
abbrev sh191_7:Shape:=[(0,vv i64),(1,vv i64),(5,bb mat),(7,vr 44 (.slice 2 i64) 113 false),(8,vv i64),(9,vr 2 i64 145 false),(10,vv i64)]
def st191_7 (g219:G219) (F:Nat) (s:ShVal sh191_7) (k kx:ShVal sh191_7->Option R191):Option R191 :=
  match s with
  | ((t0,_),(t1,_),(t5,_),(t7,_),(t8,_),(t9,_),(t10,_),_) => (bif decide (t10 < t1) then (bif ib t8 (Int.ofNat 3) then (bif ib t10 (Int.ofNat 3) then (bif decide (t8 = t10) then (match (g219 (t0,((w6 ((w6 (tget (0:Int) 3 (tget (Ty.dflt (.arr 3 (.int .u8))) 3 t5 (tn t8)) (tn t10))) - (1:Int))),()))) with | some r26 => (bif (growOk (List.length t9) (List.length (r26.1 :: []))) then k ((t0,()),((t1,()),((t5,()),((t7,()),((t8,()),(((t9 ++ (r26.1 :: [])),()),(((w6 (t10 + (1:Int))),()),()))))))) else none) | none => none) else (bif (growOk (List.length t9) (List.length ((w6 (tget (0:Int) 3 (tget (Ty.dflt (.arr 3 (.int .u8))) 3 t5 (tn t8)) (tn t10))) :: []))) then k ((t0,()),((t1,()),((t5,()),((t7,()),((t8,()),(((t9 ++ ((w6 (tget (0:Int) 3 (tget (Ty.dflt (.arr 3 (.int .u8))) 3 t5 (tn t8)) (tn t10))) :: [])),()),(((w6 (t10 + (1:Int))),()),()))))))) else none)) else none) else none) else kx ((t0,()),((t1,()),((t5,()),((t7,()),((t8,()),((t9,()),((t10,()),()))))))))
def ru191_7 (g219:G219) (F:Nat) (s:ShVal sh191_7) (kx:ShVal sh191_7->Option R191):Option R191:=iter (fun s k => st191_7 g219 F s k kx) F s
abbrev ls191_7 (g219:G219) (F:Nat):LS R191:=⟨sh191_7,2,ru191_7 g219 F⟩
abbrev sh191_3:Shape:=[(0,vv i64),(1,vv i64),(5,bb mat),(7,vr 44 (.slice 2 i64) 113 false),(8,vv i64)]
def st191_3 (g219:G219) (F:Nat) (s:ShVal sh191_3) (k kx:ShVal sh191_3->Option R191):Option R191 :=
  match s with
  | ((t0,_),(t1,_),(t5,_),(t7,_),(t8,_),_) => (bif decide (t8 < t1) then (ru191_7 g219 F ((t0,()),((t1,()),((t5,()),((t7,()),((t8,()),(([],()),(((0:Int),()),()))))))) (fun s' => match s' with | ((t0,_),(t1,_),(t5,_),(t7,_),(t8,_),(t9,_),(t10,_),_) => (bif (growOk (List.length t7) (List.length (t9 :: []))) then k ((t0,()),((t1,()),((t5,()),(((t7 ++ (t9 :: [])),()),(((w6 (t8 + (1:Int))),()),()))))) else none))) else kx ((t0,()),((t1,()),((t5,()),((t7,()),((t8,()),()))))))
def ru191_3 (g219:G219) (F:Nat) (s:ShVal sh191_3) (kx:ShVal sh191_3->Option R191):Option R191:=iter (fun s k => st191_3 g219 F s k kx) F s
abbrev ls191_3 (g219:G219) (F:Nat):LS R191:=⟨sh191_3,0,ru191_3 g219 F⟩
def fn191 (g219:G219) (F:Nat) (x:Args [.v i64,.v i64,.v mat]):Option R191 :=
  match x with
  | (x0,x1,x2,_) => (ru191_3 g219 F ((x0,()),((x1,()),((x2,()),(([],()),(((0:Int),()),()))))) (fun s' => match s' with | ((t0,_),(t1,_),(t5,_),(t7,_),(t8,_),_) => (some (t7,()))))
theorem ev191_7 (g219:G219) (F:Nat) (s:ShVal sh191_7) (k kx:ShVal sh191_7->Option R191):evL TT (ct191 g219 ) kp191 [] (loopOf Tryz.f191 7) (envOf sh191_7 s) (fitK sh191_7 k) (fun j e => bif Nat.beq j 2 then fitK sh191_7 kx e else none) kr191 = st191_7 g219 F s k kx:=by
  obtain ⟨⟨t0,_⟩,⟨t1,_⟩,⟨t5,_⟩,⟨t7,_⟩,⟨t8,_⟩,⟨t9,_⟩,⟨t10,_⟩,_⟩:=s
  kernel_rfl
theorem ok191_7 (g219:G219) (F:Nat) (hK:KOK Tryz.prog (ct191 g219 )):LSOK Tryz.prog ⟨46,false,undef⟩ (ls191_7 g219 F) (loopOf Tryz.f191 7) kr191 :=
  loop_ok (st191_7 g219 F) mixed tt_ok hK (by kernel_rfl) (LTOK_by (l:=[]) (by kernel_rfl) trivial) (ev191_7 g219 F)
theorem ev191_3 (g219:G219) (F:Nat) (s:ShVal sh191_3) (k kx:ShVal sh191_3->Option R191):evL TT (ct191 g219 ) kp191 [(7,ls191_7 g219 F)] (loopOf Tryz.f191 3) (envOf sh191_3 s) (fitK sh191_3 k) (fun j e => bif Nat.beq j 0 then fitK sh191_3 kx e else none) kr191 = st191_3 g219 F s k kx:=by
  obtain ⟨⟨t0,_⟩,⟨t1,_⟩,⟨t5,_⟩,⟨t7,_⟩,⟨t8,_⟩,_⟩:=s
  kernel_rfl
theorem ok191_3 (g219:G219) (F:Nat) (hK:KOK Tryz.prog (ct191 g219 )):LSOK Tryz.prog ⟨46,false,undef⟩ (ls191_3 g219 F) (loopOf Tryz.f191 3) kr191 :=
  loop_ok (st191_3 g219 F) mixed tt_ok hK (by kernel_rfl) (LTOK_by (l:=[loopOf Tryz.f191 7]) (by kernel_rfl) ⟨ls_at (by kernel_rfl) (ok191_7 g219 F hK),trivial⟩) (ev191_3 g219 F)
theorem ev191 (g219:G219) (F:Nat) (x:Args [.v i64,.v i64,.v mat]):fnK TT (ct191 g219 ) kp191 [(.slice 44 (.slice 2 i64))] [(3,ls191_3 g219 F)] (bodyOf Tryz.f191) [.tmp 6] [.v i64,.v i64,.v mat] true false x = fn191 g219 F x:=by
  obtain ⟨x0,x1,x2,_⟩:=x
  kernel_rfl
theorem ok191 (g219:G219) (hK:KOK Tryz.prog (ct191 g219 )) (cf:G191) (h:∀ x y,cf x = some y->∃ F,fn191 g219 F x = some y):KOne Tryz.prog 191 ⟨[.v i64,.v i64,.v mat],[(.slice 44 (.slice 2 i64))],true,false,0,cf⟩ :=
  fn_one rfl (c:=bodyOf Tryz.f191) mixed tt_ok hK Tryz.func191 (by kernel_rfl) (by kernel_rfl) (Nat.le_of_ble_eq_true (by kernel_rfl)) (by decide) fun x y hxy => by
    obtain ⟨F,hF⟩:=h x y hxy
    exact ⟨[(3,ls191_3 g219 F)],LTOK_by (l:=[loopOf Tryz.f191 3]) (by kernel_rfl) ⟨ls_at (by kernel_rfl) (ok191_3 g219 F hK),trivial⟩,(ev191 g219 F x).trans hF⟩
abbrev R188:Type:=Ress [.bool]
abbrev G188:Type:=Args [.v i64,.v i64,.v mat]->Option R188
abbrev kp188:List (Nat × List Nat):=[(0,[0,1,5]),(1,[6])]
abbrev ct188 (g191:G191) (g85:G85):CTab:=[(191,⟨[.v i64,.v i64,.v mat],[(.slice 44 (.slice 2 i64))],true,false,0,g191⟩),(85,⟨[.v i64,.v (.slice 44 (.slice 2 i64))],[(.slice 44 (.slice 2 i64))],false,false,0,g85⟩)]
def fn188 (g191:G191) (g85:G85) (F:Nat) (x:Args [.v i64,.v i64,.v mat]):Option R188 :=
  match x with
  | (x0,x1,x2,_) => (match (g191 (x0,(x1,(x2,())))) with | some r7 => (match (g85 (x0,(r7.1,()))) with | some r8 => (bif decide ((List.length r8.1) ≤ 9223372036854775807) then (some (decide ((Int.ofNat (List.length r8.1)) = (1:Int)),())) else none) | none => none) | none => none)
theorem ev188 (g191:G191) (g85:G85) (F:Nat) (x:Args [.v i64,.v i64,.v mat]):fnK TT (ct188 g191 g85 ) kp188 [.bool] [] (bodyOf Tryz.f188) [.tmp 6] [.v i64,.v i64,.v mat] false false x = fn188 g191 g85 F x:=by
  obtain ⟨x0,x1,x2,_⟩:=x
  kernel_rfl
theorem ok188 (g191:G191) (g85:G85) (hK:KOK Tryz.prog (ct188 g191 g85 )) (cf:G188) (h:∀ x y,cf x = some y->∃ F,fn188 g191 g85 F x = some y):KOne Tryz.prog 188 ⟨[.v i64,.v i64,.v mat],[.bool],false,false,0,cf⟩ :=
  fn_one rfl (c:=bodyOf Tryz.f188) mixed tt_ok hK Tryz.func188 (by kernel_rfl) (by kernel_rfl) (Nat.le_of_ble_eq_true (by kernel_rfl)) (by decide) fun x y hxy => by
    obtain ⟨F,hF⟩:=h x y hxy
    exact ⟨[],LTOK_by (l:=[]) (by kernel_rfl) trivial,(ev188 g191 g85 F x).trans hF⟩
abbrev R200:Type:=Ress [(.slice 44 (.slice 2 i64))]
abbrev G200:Type:=Args [.v i64,.v i64,.v mat]->Option R200
abbrev kp200:List (Nat × List Nat):=[(0,[0,5,1]),(1,[7,0,5,1]),(2,[13,7,0,5,1,12]),(3,[14,5,7,13,0,1,12]),(4,[5,8,7,13,0,1,12]),(5,[5,8,9,7,13,0,1,12]),(6,[19,5,8,9,7,13,0,1,12,18]),(7,[20,19,5,8,9,7,13,0,1,12,18]),(8,[10,19,5,8,9,7,13,0,1,12,18]),(9,[19,5,8,9,7,13,0,1,12,18]),(10,[19,5,8,9,7,13,0,1,12,18]),(11,[7,9,13,0,5,1,12]),(12,[13,7,0,5,1,12]),(13,[13,7,0,5,1,12]),(14,[6])]
abbrev ct200:CTab:=[]
abbrev kr200:Env->Option R200:=endK TT [.tmp 6] [(.slice 44 (.slice 2 i64))] true false
abbrev sh200_7:Shape:=[(0,vv i64),(1,vv i64),(5,bb mat),(7,vr 44 (.slice 2 i64) 113 false),(8,vv i64),(9,vr 2 i64 145 false),(12,vv i64),(13,vv i64),(18,vv i64),(19,vv i64)]
def st200_7 (F:Nat) (s:ShVal sh200_7) (k kx:ShVal sh200_7->Option R200):Option R200 :=
  match s with
  | ((t0,_),(t1,_),(t5,_),(t7,_),(t8,_),(t9,_),(t12,_),(t13,_),(t18,_),(t19,_),_) => (bif decide (t19 < t18) then (bif ib t8 (Int.ofNat 3) then (bif ib t19 (Int.ofNat 3) then (bif ib t19 (Int.ofNat (List.length t9)) then k ((t0,()),((t1,()),((t5,()),((t7,()),((t8,()),(((List.set t9 (tn t19) (w6 (tget (0:Int) 3 (tget (Ty.dflt (.arr 3 (.int .u8))) 3 t5 (tn t8)) (tn t19)))),()),((t12,()),((t13,()),((t18,()),(((w6 (t19 + (1:Int))),()),())))))))))) else none) else none) else none) else kx ((t0,()),((t1,()),((t5,()),((t7,()),((t8,()),((t9,()),((t12,()),((t13,()),((t18,()),((t19,()),())))))))))))
def ru200_7 (F:Nat) (s:ShVal sh200_7) (kx:ShVal sh200_7->Option R200):Option R200:=iter (fun s k => st200_7 F s k kx) F s
abbrev ls200_7 (F:Nat):LS R200:=⟨sh200_7,2,ru200_7 F⟩
abbrev sh200_3:Shape:=[(0,vv i64),(1,vv i64),(5,bb mat),(7,vr 44 (.slice 2 i64) 113 false),(12,vv i64),(13,vv i64)]
def st200_3 (F:Nat) (s:ShVal sh200_3) (k kx:ShVal sh200_3->Option R200):Option R200 :=
  match s with
  | ((t0,_),(t1,_),(t5,_),(t7,_),(t12,_),(t13,_),_) => (bif decide (t13 < t12) then (bif ((decide ((0:Int) ≤ t1) && decide (t1 ≤ (1099511627776:Int))) && decide (t1 = t1)) then (ru200_7 F ((t0,()),((t1,()),((t5,()),((t7,()),((t13,()),(((List.replicate (tn t1) (0:Int)),()),((t12,()),((t13,()),((t1,()),(((0:Int),()),())))))))))) (fun s' => match s' with | ((t0,_),(t1,_),(t5,_),(t7,_),(t8,_),(t9,_),(t12,_),(t13,_),(t18,_),(t19,_),_) => (bif ib t8 (Int.ofNat (List.length t9)) then (bif (!decide (t0 = (0:Int))) then (bif ib t8 (Int.ofNat (List.length t9)) then (bif (growOk (List.length t7) (List.length ((List.set t9 (tn t8) (Int.tmod (w6 ((w6 ((List.getD t9 (tn t8) (0:Int)) + t0)) - (1:Int))) t0)) :: []))) then k ((t0,()),((t1,()),((t5,()),(((t7 ++ ((List.set t9 (tn t8) (Int.tmod (w6 ((w6 ((List.getD t9 (tn t8) (0:Int)) + t0)) - (1:Int))) t0)) :: [])),()),((t12,()),(((w6 (t13 + (1:Int))),()),())))))) else none) else none) else none) else none))) else none) else kx ((t0,()),((t1,()),((t5,()),((t7,()),((t12,()),((t13,()),())))))))
def ru200_3 (F:Nat) (s:ShVal sh200_3) (kx:ShVal sh200_3->Option R200):Option R200:=iter (fun s k => st200_3 F s k kx) F s
abbrev ls200_3 (F:Nat):LS R200:=⟨sh200_3,0,ru200_3 F⟩
def fn200 (F:Nat) (x:Args [.v i64,.v i64,.v mat]):Option R200 :=
  match x with
  | (x0,x1,x2,_) => (ru200_3 F ((x0,()),((x1,()),((x2,()),(([],()),((x1,()),(((0:Int),()),())))))) (fun s' => match s' with | ((t0,_),(t1,_),(t5,_),(t7,_),(t12,_),(t13,_),_) => (some (t7,()))))
theorem ev200_7 (F:Nat) (s:ShVal sh200_7) (k kx:ShVal sh200_7->Option R200):evL TT (ct200 ) kp200 [] (loopOf Tryz.f200 7) (envOf sh200_7 s) (fitK sh200_7 k) (fun j e => bif Nat.beq j 2 then fitK sh200_7 kx e else none) kr200 = st200_7 F s k kx:=by
  obtain ⟨⟨t0,_⟩,⟨t1,_⟩,⟨t5,_⟩,⟨t7,_⟩,⟨t8,_⟩,⟨t9,_⟩,⟨t12,_⟩,⟨t13,_⟩,⟨t18,_⟩,⟨t19,_⟩,_⟩:=s
  kernel_rfl
theorem ok200_7 (F:Nat) (hK:KOK Tryz.prog (ct200 )):LSOK Tryz.prog ⟨50,false,undef⟩ (ls200_7 F) (loopOf Tryz.f200 7) kr200 :=
  loop_ok (st200_7 F) mixed tt_ok hK (by kernel_rfl) (LTOK_by (l:=[]) (by kernel_rfl) trivial) (ev200_7 F)
theorem ev200_3 (F:Nat) (s:ShVal sh200_3) (k kx:ShVal sh200_3->Option R200):evL TT (ct200 ) kp200 [(7,ls200_7 F)] (loopOf Tryz.f200 3) (envOf sh200_3 s) (fitK sh200_3 k) (fun j e => bif Nat.beq j 0 then fitK sh200_3 kx e else none) kr200 = st200_3 F s k kx:=by
  obtain ⟨⟨t0,_⟩,⟨t1,_⟩,⟨t5,_⟩,⟨t7,_⟩,⟨t12,_⟩,⟨t13,_⟩,_⟩:=s
  kernel_rfl
theorem ok200_3 (F:Nat) (hK:KOK Tryz.prog (ct200 )):LSOK Tryz.prog ⟨50,false,undef⟩ (ls200_3 F) (loopOf Tryz.f200 3) kr200 :=
  loop_ok (st200_3 F) mixed tt_ok hK (by kernel_rfl) (LTOK_by (l:=[loopOf Tryz.f200 7]) (by kernel_rfl) ⟨ls_at (by kernel_rfl) (ok200_7 F hK),trivial⟩) (ev200_3 F)
theorem ev200 (F:Nat) (x:Args [.v i64,.v i64,.v mat]):fnK TT (ct200 ) kp200 [(.slice 44 (.slice 2 i64))] [(3,ls200_3 F)] (bodyOf Tryz.f200) [.tmp 6] [.v i64,.v i64,.v mat] true false x = fn200 F x:=by
  obtain ⟨x0,x1,x2,_⟩:=x
  kernel_rfl
theorem ok200 (hK:KOK Tryz.prog (ct200 )) (cf:G200) (h:∀ x y,cf x = some y->∃ F,fn200 F x = some y):KOne Tryz.prog 200 ⟨[.v i64,.v i64,.v mat],[(.slice 44 (.slice 2 i64))],true,false,0,cf⟩ :=
  fn_one rfl (c:=bodyOf Tryz.f200) mixed tt_ok hK Tryz.func200 (by kernel_rfl) (by kernel_rfl) (Nat.le_of_ble_eq_true (by kernel_rfl)) (by decide) fun x y hxy => by
    obtain ⟨F,hF⟩:=h x y hxy
    exact ⟨[(3,ls200_3 F)],LTOK_by (l:=[loopOf Tryz.f200 3]) (by kernel_rfl) ⟨ls_at (by kernel_rfl) (ok200_3 F hK),trivial⟩,(ev200 F x).trans hF⟩
abbrev R198:Type:=Ress [(.slice 2 i64)]
abbrev G198:Type:=Args [.v i64,.v i64,.v mat]->Option R198
abbrev kp198:List (Nat × List Nat):=[(0,[0,1,5]),(1,[7]),(2,[16,7]),(3,[6]),(4,[6])]
abbrev ct198 (g200:G200) (g176:G176):CTab:=[(200,⟨[.v i64,.v i64,.v mat],[(.slice 44 (.slice 2 i64))],true,false,0,g200⟩),(176,⟨[.v i64,.v (.slice 44 (.slice 2 i64))],[(.slice 44 (.slice 2 i64))],true,false,0,g176⟩)]
def fn198 (g200:G200) (g176:G176) (F:Nat) (x:Args [.v i64,.v i64,.v mat]):Option R198 :=
  match x with
  | (x0,x1,x2,_) => (match (g200 (x0,(x1,(x2,())))) with | some r7 => (match (g176 (x0,(r7.1,()))) with | some r8 => (bif decide ((List.length r8.1) ≤ 9223372036854775807) then (bif (!decide ((Int.ofNat (List.length r8.1)) = (1:Int))) then (some ([],())) else (bif ib (0:Int) (Int.ofNat (List.length r8.1)) then (bif (((!true) || ((!false) && true)) && ((!true) || ((!(List.isEmpty (List.getD r8.1 (tn (0:Int)) []))) && true))) then (some ((List.getD r8.1 (tn (0:Int)) []),())) else none) else none)) else none) | none => none) | none => none)
theorem ev198 (g200:G200) (g176:G176) (F:Nat) (x:Args [.v i64,.v i64,.v mat]):fnK TT (ct198 g200 g176 ) kp198 [(.slice 2 i64)] [] (bodyOf Tryz.f198) [.tmp 6] [.v i64,.v i64,.v mat] true true x = fn198 g200 g176 F x:=by
  obtain ⟨x0,x1,x2,_⟩:=x
  kernel_rfl
theorem ok198 (g200:G200) (g176:G176) (hK:KOK Tryz.prog (ct198 g200 g176 )) (cf:G198) (h:∀ x y,cf x = some y->∃ F,fn198 g200 g176 F x = some y):KOne Tryz.prog 198 ⟨[.v i64,.v i64,.v mat],[(.slice 2 i64)],true,true,0,cf⟩ :=
  fn_one rfl (c:=bodyOf Tryz.f198) mixed tt_ok hK Tryz.func198 (by kernel_rfl) (by kernel_rfl) (Nat.le_of_ble_eq_true (by kernel_rfl)) (by decide) fun x y hxy => by
    obtain ⟨F,hF⟩:=h x y hxy
    exact ⟨[],LTOK_by (l:=[]) (by kernel_rfl) trivial,(ev198 g200 g176 F x).trans hF⟩
def chE (p:Int) (g:Mat) (i j:Nat):Int:=if i = j then (me g i j - 1) % p else me g i j
def chRow (p:Int) (n:Nat) (g:Mat) (i:Nat):List Int:=(List.range n).map (chE p g i)
def chRows (p:Int) (n:Nat) (g:Mat):List (List Int):=(List.range n).map (chRow p n g)
theorem chRow_len {p:Int} {n:Nat} {g:Mat} {i:Nat}:(chRow p n g i).length = n:=by simp [chRow]
theorem chRows_len {p:Int} {n:Nat} {g:Mat}:(chRows p n g).length = n:=by simp [chRows]
theorem range_snoc (f:Nat->Int) (j:Nat):(List.range (j + 1)).map f = (List.range j).map f ++ [f j]:=by simp [List.range_succ]
theorem range_snocL (f:Nat->List Int) (j:Nat):(List.range (j + 1)).map f = (List.range j).map f ++ [f j]:=by simp [List.range_succ]
theorem in109 {p:Int} {n i:Nat} {g:Mat} (hp : 2 ≤ p ∧ p ≤ 13) (hn:n ≤ 3) (hi:i < n) (hg:okM g = true) {F0 F:Nat} (hF:n < F) {out:List (List Int)} {kx:ShVal sh191_7->Option R191} :
    iter (fun s k => st191_7 cf74 F0 s k kx) F ((p,()),(((n:Int),()),((g,()),((out,()),(((i:Int),()),(([],()),(((0:Int),()),()))))))) =
      kx ((p,()),(((n:Int),()),((g,()),((out,()),(((i:Int),()),((chRow p n g i,()),(((n:Int),()),()))))))):=by
  have key:=iter_run (step:=fun s k => st191_7 cf74 F0 s k kx) (r:=kx ((p,()),(((n:Int),()),((g,()),((out,()),(((i:Int),()),((chRow p n g i,()),(((n:Int),()),())))))))) n F
    (fun j => ((p,()),(((n:Int),()),((g,()),((out,()),(((i:Int),()),(((List.range j).map (chE p g i),()),(((j:Int),()),())))))))) hF (fun j hj k => ?_) (fun k => ?_)
  · exact key
  · have hm:=me_rng hg i j
    have em:tget (0:Int) 3 (tget (Ty.dflt (.arr 3 (.int .u8))) 3 g i) j = me g i j:=rfl
    have ll:((List.range j).map (chE p g i)).length = j:=by simp
    have wi:w6 ((j:Int) + 1) = ((j + 1:Nat):Int):=by rw [w6_id (by omega) (by omega)]; rfl
    have w1:w6 (me g i j) = me g i j:=w6_id (by omega) (by omega)
    have i3:ib (i:Int) (Int.ofNat 3) = true:=ib_t (by omega) (by simp; omega)
    have j3:ib (j:Int) (Int.ofNat 3) = true:=ib_t (by omega) (by simp; omega)
    rw [range_snoc]
    by_cases q:i = j
    · subst q
      have g74:cf74 (p,w6 (me g i i - 1),()) = some (chE p g i i,()):=by
        rw [w6_id (by omega) (by omega),g74_ok (by omega),chE,if_pos rfl]
      generalize (List.range i).map (chE p g i) = L at *
      simp (disch:=omega) only [st191_7,dlt_t,cond_true,i3,tn_cast,em,w1,decide_true,g74,grow_t,ll,List.length_singleton,wi]
    · have e1:chE p g i j = me g i j:=if_neg q
      rw [e1]
      generalize (List.range j).map (chE p g i) = L at *
      simp (disch:=omega) only [st191_7,dlt_t,cond_true,i3,j3,tn_cast,em,w1,deq_f,cond_false,grow_t,ll,List.length_singleton,wi]
  · show _ = kx ((p,()),(((n:Int),()),((g,()),((out,()),(((i:Int),()),((chRow p n g i,()),(((n:Int),()),())))))))
    have e:chRow p n g i = (List.range n).map (chE p g i):=rfl
    rw [e]
    simp (disch:=omega) only [st191_7,dlt_f,cond_false]
theorem run109 {p:Int} {n:Nat} {g:Mat} (hp : 2 ≤ p ∧ p ≤ 13) (hn:n ≤ 3) (hg:okM g = true):fn191 cf74 5 (p,(n:Int),g,()) = some (chRows p n g,()):=by
  simp only [fn191,ru191_3]
  have key:=iter_run (step:=fun s k => st191_3 cf74 5 s k (fun s' => match s' with | ((t0,_),(t1,_),(t5,_),(t7,_),(t8,_),_) => (some (t7,())))) (r:=some (chRows p n g,())) n 5
    (fun i => ((p,()),(((n:Int),()),((g,()),(((List.range i).map (chRow p n g),()),(((i:Int),()),())))))) (by omega) (fun i hi k => ?_) (fun k => ?_)
  · exact key
  · have ll:((List.range i).map (chRow p n g)).length = i:=by simp
    have wi:w6 ((i:Int) + 1) = ((i + 1:Nat):Int):=by rw [w6_id (by omega) (by omega)]; rfl
    rw [range_snocL]
    generalize (List.range i).map (chRow p n g) = L at *
    simp (disch:=omega) only [st191_3,dlt_t,cond_true,ru191_7]
    rw [in109 hp hn hi hg (by omega)]
    simp (disch:=omega) only [grow_t,ll,List.length_singleton,cond_true,wi]
  · have e:chRows p n g = (List.range n).map (chRow p n g):=rfl
    rw [e]
    simp (disch:=omega) only [st191_3,dlt_f,cond_false]
noncomputable def cf109:G191:=by
  classical exact fun x => if ∃ n:Nat,x.2.1 = (n:Int) ∧ n ≤ 3 ∧ (2 ≤ x.1 ∧ x.1 ≤ 13) ∧ okM x.2.2.1 = true then some (chRows x.1 (tn x.2.1) x.2.2.1,()) else none
theorem k109:KOne Tryz.prog 191 ⟨[.v i64,.v i64,.v mat],[.slice 44 (.slice 2 i64)],true,false,0,cf109⟩:=ok191 _ (.cons k74 .nil) cf109 fun x y h => by
  obtain ⟨p,n,g,_⟩:=x
  simp only [cf109] at h
  split at h
  · rename_i hc
    obtain ⟨m,rfl,h1,h2,h3⟩:=hc
    injection h with h; subst h
    exact ⟨5,run109 h2 h1 h3⟩
  · cases h
theorem g109_ok {p:Int} {n:Nat} {g:Mat} (hp : 2 ≤ p ∧ p ≤ 13) (hn:n ≤ 3) (hg:okM g = true):cf109 (p,(n:Int),g,()) = some (chRows p n g,()):=if_pos ⟨n,rfl,hn,hp,hg⟩
theorem in112 {p:Int} {n i:Nat} {g:Mat} (hn:n ≤ 3) (hi:i < n) (hg:okM g = true) {F0 F:Nat} (hF:n < F) {out:List (List Int)} {kx:ShVal sh200_7->Option R200} :
    iter (fun s k => st200_7 F0 s k kx) F ((p,()),(((n:Int),()),((g,()),((out,()),(((i:Int),()),((List.replicate n 0,()),(((n:Int),()),(((i:Int),()),(((n:Int),()),(((0:Int),()),())))))))))) =
      kx ((p,()),(((n:Int),()),((g,()),((out,()),(((i:Int),()),(((List.range n).map (me g i),()),(((n:Int),()),(((i:Int),()),(((n:Int),()),(((n:Int),()),())))))))))):=by
  have hlm:((List.range n).map (me g i)).length = (List.replicate n (0:Int)).length:=by simp
  have key:=iter_run (step:=fun s k => st200_7 F0 s k kx) (r:=kx ((p,()),(((n:Int),()),((g,()),((out,()),(((i:Int),()),(((List.range n).map (me g i),()),(((n:Int),()),(((i:Int),()),(((n:Int),()),(((n:Int),()),()))))))))))) n F
    (fun j => ((p,()),(((n:Int),()),((g,()),((out,()),(((i:Int),()),(((((List.range n).map (me g i)).take j ++ (List.replicate n (0:Int)).drop j),()),(((n:Int),()),(((i:Int),()),(((n:Int),()),(((j:Int),()),()))))))))))) hF (fun j hj k => ?_) (fun k => ?_)
  · exact key
  · have hm:=me_rng hg i j
    have em:tget (0:Int) 3 (tget (Ty.dflt (.arr 3 (.int .u8))) 3 g i) j = me g i j:=rfl
    have l1:=split_len (i:=j) hlm (by simp; omega)
    have s1:=split_set (i:=j) hlm (by simp; omega)
    have ee:el ((List.range n).map (me g i)) j = me g i j:=by simp [el,List.getD_eq_getElem?_getD,hj]
    have wi:w6 ((j:Int) + 1) = ((j + 1:Nat):Int):=by rw [w6_id (by omega) (by omega)]; rfl
    have w1:w6 (me g i j) = me g i j:=w6_id (by omega) (by omega)
    have i3:ib (i:Int) (Int.ofNat 3) = true:=ib_t (by omega) (by simp; omega)
    have j3:ib (j:Int) (Int.ofNat 3) = true:=ib_t (by omega) (by simp; omega)
    have l2:((List.range n).map (me g i)).length = n:=by simp
    rw [ee] at s1
    rw [← s1]
    generalize ((List.range n).map (me g i)).take j ++ (List.replicate n (0:Int)).drop j = L at *
    simp (disch:=omega) only [st200_7,dlt_t,cond_true,i3,j3,tn_cast,em,w1,ib_t,ofn,wi]
  · rw [show ((List.range n).map (me g i)).take n ++ (List.replicate n (0:Int)).drop n = (List.range n).map (me g i) by
      have:((List.range n).map (me g i)).length = n:=by simp
      rw [List.drop_eq_nil_of_le (by simp),List.append_nil]
      rw [List.take_of_length_le (by omega)]]
    simp (disch:=omega) only [st200_7,dlt_f,cond_false]
theorem range_set {n i:Nat} {f:Nat->Int} {x:Int} (hi:i < n):((List.range n).map f).set i x = (List.range n).map fun j => if i = j then x else f j:=by
  apply List.ext_getElem?
  intro j
  rw [List.getElem?_set]
  by_cases q:i = j
  · subst q; simp [hi]
  · rw [if_neg q]
    simp only [List.getElem?_map,List.getElem?_range]
    by_cases h:j < n
    · simp [h,q]
    · simp [h]
theorem run112 {p:Int} {n:Nat} {g:Mat} (hp : 2 ≤ p ∧ p ≤ 13) (hn:n ≤ 3) (hg:okM g = true):fn200 5 (p,(n:Int),g,()) = some (chRows p n g,()):=by
  simp only [fn200,ru200_3]
  have key:=iter_run (step:=fun s k => st200_3 5 s k (fun s' => match s' with | ((t0,_),(t1,_),(t5,_),(t7,_),(t12,_),(t13,_),_) => (some (t7,())))) (r:=some (chRows p n g,())) n 5
    (fun i => ((p,()),(((n:Int),()),((g,()),(((List.range i).map (chRow p n g),()),(((n:Int),()),(((i:Int),()),()))))))) (by omega) (fun i hi k => ?_) (fun k => ?_)
  · exact key
  · have ll:((List.range i).map (chRow p n g)).length = i:=by simp
    have wi:w6 ((i:Int) + 1) = ((i + 1:Nat):Int):=by rw [w6_id (by omega) (by omega)]; rfl
    have hm:=me_rng hg i i
    have e1:(List.range n).map (me g i) = (List.range n).map (me g i):=rfl
    have ge:((List.range n).map (me g i)).getD i 0 = me g i i:=by simp [List.getD_eq_getElem?_getD,hi]
    have er:((List.range n).map (me g i)).set i ((me g i i - 1) % p) = chRow p n g i:=by
      rw [range_set hi]
      refine List.map_congr_left fun j _ => ?_
      by_cases q:i = j
      · subst q; simp [chE]
      · simp [chE,q]
    have et:Int.tmod (w6 (w6 (me g i i + p) - 1)) p = (me g i i - 1) % p:=by
      rw [w6_id (x:=me g i i + p) (by omega) (by omega),w6_id (by omega) (by omega),Int.tmod_eq_emod_of_nonneg (by omega)]
      rw [show me g i i + p - 1 = me g i i - 1 + p by omega,Int.add_emod_right]
    have lm:((List.range n).map (me g i)).length = n:=by simp
    rw [range_snocL]
    generalize (List.range i).map (chRow p n g) = L at *
    simp (disch:=omega) only [st200_3,dlt_t,dle_t,decide_true,Bool.and_self,Bool.true_and,cond_true,ru200_7,tn_cast]
    rw [in112 hn hi hg (by omega)]
    simp (disch:=omega) only [ofn,lm,ib_t,cond_true,deq_f,Bool.not_false,tn_cast,ge,et,er,grow_t,ll,List.length_singleton,wi]
  · have e:chRows p n g = (List.range n).map (chRow p n g):=rfl
    rw [e]
    simp (disch:=omega) only [st200_3,dlt_f,cond_false]
noncomputable def cf112:G200:=by
  classical exact fun x => if ∃ n:Nat,x.2.1 = (n:Int) ∧ n ≤ 3 ∧ (2 ≤ x.1 ∧ x.1 ≤ 13) ∧ okM x.2.2.1 = true then some (chRows x.1 (tn x.2.1) x.2.2.1,()) else none
theorem k112:KOne Tryz.prog 200 ⟨[.v i64,.v i64,.v mat],[.slice 44 (.slice 2 i64)],true,false,0,cf112⟩:=ok200 .nil cf112 fun x y h => by
  obtain ⟨p,n,g,_⟩:=x
  simp only [cf112] at h
  split at h
  · rename_i hc
    obtain ⟨m,rfl,h1,h2,h3⟩:=hc
    injection h with h; subst h
    exact ⟨5,run112 h2 h1 h3⟩
  · cases h
theorem g112_ok {p:Int} {n:Nat} {g:Mat} (hp : 2 ≤ p ∧ p ≤ 13) (hn:n ≤ 3) (hg:okM g = true):cf112 (p,(n:Int),g,()) = some (chRows p n g,()):=if_pos ⟨n,rfl,hn,hp,hg⟩
theorem matB_is {p n:Int} {g:Mat} (h:matB p n g = true):isP p = true ∧ ∃ k:Nat,n = (k:Int) ∧ 1 ≤ k ∧ k ≤ 3 ∧ rngB p k g = true ∧ ¬ detN k (me g) % p = 0:=by
  simp only [matB,Bool.and_eq_true] at h
  have hn:=inR_cases h.2.1
  refine ⟨h.1,n.toNat,by omega,by omega,by omega,?_,?_⟩
  · have:=h.2.2.1
    rwa [show ((n.toNat:Nat):Int) = n by omega]
  · have:=h.2.2.2
    simpa using this
theorem me_lt {p n:Int} {g:Mat} (hr:rngB p n g = true) {i j:Nat} (hi:i < 3) (hj:j < 3):me g i j < p:=by
  obtain ⟨⟨a,b,c⟩,⟨d,e,f⟩,u,v,x⟩:=rng_lt hr
  rcases (show i = 0 ∨ i = 1 ∨ i = 2 by omega) with rfl | rfl | rfl <;> rcases (show j = 0 ∨ j = 1 ∨ j = 2 by omega) with rfl | rfl | rfl <;> assumption
theorem can_range {p:Int} {m:Nat} {f:Nat->Int} (hp : 0 < p) (h:∀ i,i < m->0 ≤ f i ∧ f i < p):Can p m ((List.range m).map f):=by
  refine ⟨by simp,fun i => ?_⟩
  by_cases q:i < m
  · have:el ((List.range m).map f) i = f i:=by simp [el,List.getD_eq_getElem?_getD,q]
    rw [this]; exact h i q
  · rw [el_ge (by simp; omega)]; omega
theorem chRows_can {p:Int} {n:Nat} {g:Mat} (hp : 2 ≤ p) (hg:okM g = true) (hn:n ≤ 3) {q:Int} (hr:rngB p q g = true):∀ r ∈ chRows p n g,Can p n r:=by
  intro r h
  obtain ⟨i,hi,rfl⟩:=List.mem_map.1 h
  have hi:=List.mem_range.1 hi
  refine can_range (by omega) fun j hj => ?_
  have h1:=me_rng hg i j
  have h2:=me_lt hr (i:=i) (j:=j) (by omega) (by omega)
  unfold chE
  split
  · exact md_rng (by omega)
  · omega
noncomputable def cf94:G188:=fn188 cf109 cf108 0
theorem k94:KOne Tryz.prog 188 ⟨[.v i64,.v i64,.v mat],[.bool],false,false,0,cf94⟩:=ok188 _ _ (.cons k109 (.cons k108 .nil)) cf94 fun x y h => ⟨0,h⟩
def echM (p:Int) (n:Nat) (g:Mat):List (List Int):=ech p (chRows p n g)
theorem echM_len {p:Int} {n:Nat} {g:Mat}:(echM p n g).length ≤ n:=by have:=ech_len (p:=p) (rows:=chRows p n g); rwa [chRows_len] at this
theorem g94_ok {p:Int} {n:Nat} {g:Mat} (hg:okM g = true) (hP:isP p = true) (hn:n ≤ 3) {q:Int} (hr:rngB p q g = true):cf94 (p,(n:Int),g,()) = some (decide ((echM p n g).length = 1),()):=by
  have hp:=isP_pos hP
  have g1:=g109_ok (p:=p) (by omega) hn hg
  have g2:=g108_ok hP (chRows_can (by omega) hg hn hr) (by omega) (by rw [chRows_len]; omega)
  have hl:=echM_len (p:=p) (n:=n) (g:=g)
  simp only [cf94,fn188,g1,g2]
  unfold echM at hl ⊢
  simp (disch:=omega) only [dln_t,cond_true,ofn]
  congr 2
  apply decide_eq_decide.2
  omega
def rootL (p:Int) (n:Nat) (g:Mat):List Int:=if (echM p n g).length = 1 then (echM p n g).getD 0 [] else []
noncomputable def cf95:G198:=fn198 cf112 cf145 0
theorem k95:KOne Tryz.prog 198 ⟨[.v i64,.v i64,.v mat],[.slice 2 i64],true,true,0,cf95⟩:=ok198 _ _ (.cons k112 (.cons k145 .nil)) cf95 fun x y h => ⟨0,h⟩
theorem echM_can {p:Int} {n:Nat} {g:Mat} (hP:isP p = true) (hg:okM g = true) (hn:n ≤ 3) {q:Int} (hr:rngB p q g = true):∀ r ∈ echM p n g,Can p n r :=
  (ech_RR hP (chRows_can (by have:=isP_pos hP; omega) hg hn hr)).can
theorem head_can {p:Int} {n:Nat} {g:Mat} (hP:isP p = true) (hg:okM g = true) (hn:n ≤ 3) {q:Int} (hr:rngB p q g = true) (h:(echM p n g).length = 1):Can p n ((echM p n g).getD 0 []):=by
  apply echM_can hP hg hn hr
  rw [List.getD_eq_getElem?_getD,List.getElem?_eq_getElem (by omega)]
  exact List.getElem_mem _
theorem g95_ok {p:Int} {n:Nat} {g:Mat} (hg:okM g = true) (hP:isP p = true) (hn : 1 ≤ n ∧ n ≤ 3) {q:Int} (hr:rngB p q g = true):cf95 (p,(n:Int),g,()) = some (rootL p n g,()):=by
  have hp:=isP_pos hP
  have g1:=g112_ok (p:=p) (by omega) hn.2 hg
  have g2:=g145_ok hP (chRows_can (by omega) hg hn.2 hr) (by omega) (by rw [chRows_len]; omega)
  have hl:=echM_len (p:=p) (n:=n) (g:=g)
  simp only [cf95,fn198,g1,g2]
  unfold rootL
  show (bif decide ((echM p n g).length ≤ _) then _ else _) = _
  by_cases h:(echM p n g).length = 1
  · have hc:=head_can hP hg hn.2 hr h
    have he:((echM p n g).getD 0 []).isEmpty = false:=by
      have:=hc.len
      cases hh:(echM p n g).getD 0 [] with
      | nil => rw [hh] at this; simp at this; omega
      | cons a r => rfl
    have e0:(ech p (chRows p n g)).length = 1:=h
    have e1:List.getD (ech p (chRows p n g)) (tn 0) [] = (echM p n g).getD 0 []:=rfl
    simp (disch:=omega) only [dln_t,cond_true,ofn,e0,deq_t,decide_true,Bool.not_true,cond_false,ib_t,e1,he,if_pos h]
    rfl
  · have e0:(ech p (chRows p n g)).length ≠ 1:=h
    simp (disch:=omega) only [dln_t,cond_true,ofn,deq_f,Bool.not_false,if_neg h]
theorem root_empty {p:Int} {n:Nat} {g:Mat} (hP:isP p = true) (hg:okM g = true) (hn : 1 ≤ n ∧ n ≤ 3) {q:Int} (hr:rngB p q g = true):(!(rootL p n g).isEmpty) = decide ((echM p n g).length = 1):=by
  unfold rootL
  by_cases h:(echM p n g).length = 1
  · rw [if_pos h,decide_eq_true h]
    have:=(head_can hP hg hn.2 hr h).len
    cases hh:(echM p n g).getD 0 [] with
    | nil => rw [hh] at this; simp at this; omega
    | cons a r => rfl
  · rw [if_neg h,decide_eq_false h]; rfl
abbrev R128:Type:=Ress [poly]
abbrev G128:Type:=Args [.v i64,.v i64,.v mat]->Option R128
abbrev kp128:List (Nat × List Nat):=[(0,[5,0,1,6]),(1,[5,7,0,1,6]),(2,[5,7,8,0,1,6]),(3,[27,7,8,25,0,1,6,26]),(4,[28,8,27,7,25,0,1,6,26]),(5,[8,10,27,7,25,0,1,6,26]),(6,[27,7,8,25,0,1,6,26]),(7,[27,7,8,25,0,1,6,26]),(8,[8,11,0,1,6]),(9,[8,11,12,0,1,6]),(10,[49,11,12,47,0,1,6,48]),(11,[50,49,11,12,47,0,1,6,48]),(12,[13,14,49,11,12,47,0,1,6,48]),(13,[13,15,14,49,11,12,47,0,1,6,48]),(14,[15,14,49,11,12,47,0,1,6,48]),(15,[49,11,12,47,0,1,6,48]),(16,[49,11,12,47,0,1,6,48]),(17,[6])]
abbrev ct128 (g198:G198) (g172:G172) (g200:G200) (g199:G199) (g201:G201):CTab:=[(198,⟨[.v i64,.v i64,.v mat],[(.slice 2 i64)],true,true,0,g198⟩),(172,⟨[.v (.slice 2 i64)],[i64],false,false,0,g172⟩),(200,⟨[.v i64,.v i64,.v mat],[(.slice 44 (.slice 2 i64))],true,false,0,g200⟩),(199,⟨[.m ex i64,.v i64,.v i64],[poly],true,false,0,g199⟩),(201,⟨[.v i64,.v i64],[i64],false,false,0,g201⟩)]
abbrev kr128:Env->Option R128:=endK TT [.cell 6 34] [poly] true false
abbrev sh128_4:Shape:=[(0,vv i64),(1,vv i64),(6,.box false [.fz i64 0 false,.fz i64 0 false,.rt 135 term 99 false true true]),(7,vv i64),(8,vr 2 i64 129 false),(25,vr 44 (.slice 2 i64) 401 false),(26,vv i64),(27,vv i64)]
def st128_4 (g198:G198) (g172:G172) (g200:G200) (g199:G199) (g201:G201) (F:Nat) (s:ShVal sh128_4) (k kx:ShVal sh128_4->Option R128):Option R128 :=
  match s with
  | ((t0,_),(t1,_),(t6_0,t6_1,t6_2,_),(t7,_),(t8,_),(t25,_),(t26,_),(t27,_),_) => (bif decide (t27 < t26) then (bif ib t27 (Int.ofNat (List.length t25)) then (bif ib t7 (Int.ofNat (List.length (List.getD t25 (tn t27) []))) then (bif (growOk (List.length t8) (List.length ((List.getD (List.getD t25 (tn t27) []) (tn t7) (0:Int)) :: []))) then k ((t0,()),((t1,()),((t6_0,(t6_1,(t6_2,()))),((t7,()),(((t8 ++ ((List.getD (List.getD t25 (tn t27) []) (tn t7) (0:Int)) :: [])),()),((t25,()),((t26,()),(((w6 (t27 + (1:Int))),()),())))))))) else none) else none) else none) else kx ((t0,()),((t1,()),((t6_0,(t6_1,(t6_2,()))),((t7,()),((t8,()),((t25,()),((t26,()),((t27,()),())))))))))
def ru128_4 (g198:G198) (g172:G172) (g200:G200) (g199:G199) (g201:G201) (F:Nat) (s:ShVal sh128_4) (kx:ShVal sh128_4->Option R128):Option R128:=iter (fun s k => st128_4 g198 g172 g200 g199 g201 F s k kx) F s
abbrev ls128_4 (g198:G198) (g172:G172) (g200:G200) (g199:G199) (g201:G201) (F:Nat):LS R128:=⟨sh128_4,0,ru128_4 g198 g172 g200 g199 g201 F⟩
abbrev sh128_11:Shape:=[(0,vv i64),(1,vv i64),(6,.box false [.fz i64 0 false,.fz i64 0 false,.rt 135 term 99 false true true]),(11,vv i64),(12,.mp 46 ex i64),(47,vr 2 i64 753 false),(48,vv i64),(49,vv i64)]
def st128_11 (g198:G198) (g172:G172) (g200:G200) (g199:G199) (g201:G201) (F:Nat) (s:ShVal sh128_11) (k kx:ShVal sh128_11->Option R128):Option R128 :=
  match s with
  | ((t0,_),(t1,_),(t6_0,t6_1,t6_2,_),(t11,_),t12,(t47,_),(t48,_),(t49,_),_) => (bif decide (t49 < t48) then (bif ib t49 (Int.ofNat (List.length t47)) then (bif ib t49 (Int.ofNat 3) then k ((t0,()),((t1,()),((t6_0,(t6_1,(t6_2,()))),((t11,()),((((tset (1:Int) 3 (tup Int (0:Int) 3) (tn t49)),(w6 ((List.getD t47 (tn t49) (0:Int)) * t11))) :: t12),((t47,()),((t48,()),(((w6 (t49 + (1:Int))),()),())))))))) else none) else none) else kx ((t0,()),((t1,()),((t6_0,(t6_1,(t6_2,()))),((t11,()),(t12,((t47,()),((t48,()),((t49,()),())))))))))
def ru128_11 (g198:G198) (g172:G172) (g200:G200) (g199:G199) (g201:G201) (F:Nat) (s:ShVal sh128_11) (kx:ShVal sh128_11->Option R128):Option R128:=iter (fun s k => st128_11 g198 g172 g200 g199 g201 F s k kx) F s
abbrev ls128_11 (g198:G198) (g172:G172) (g200:G200) (g199:G199) (g201:G201) (F:Nat):LS R128:=⟨sh128_11,2,ru128_11 g198 g172 g200 g199 g201 F⟩
def fn128 (g198:G198) (g172:G172) (g200:G200) (g199:G199) (g201:G201) (F:Nat) (x:Args [.v i64,.v i64,.v mat]):Option R128 :=
  match x with
  | (x0,x1,x2,_) => (match (g198 (x0,(x1,(x2,())))) with | some r10 => (match (g172 (r10.1,())) with | some r11 => (match (g200 (x0,(x1,(x2,())))) with | some r14 => (bif decide ((List.length r14.1) ≤ 9223372036854775807) then (ru128_4 g198 g172 g200 g199 g201 F ((x0,()),((x1,()),(((Ty.dflt (.pair (.int .i64) (.pair (.int .i64) (.pair (.slice 135 (.pair (.arr 3 (.int .u8)) (.pair (.int .i64) .unit))) .unit)))).1,((Ty.dflt (.pair (.int .i64) (.pair (.int .i64) (.pair (.slice 135 (.pair (.arr 3 (.int .u8)) (.pair (.int .i64) .unit))) .unit)))).2.1,((Ty.dflt (.pair (.int .i64) (.pair (.int .i64) (.pair (.slice 135 (.pair (.arr 3 (.int .u8)) (.pair (.int .i64) .unit))) .unit)))).2.2.1,()))),((r11.1,()),(([],()),((r14.1,()),(((Int.ofNat (List.length r14.1)),()),(((0:Int),()),())))))))) (fun s' => match s' with | ((t0,_),(t1,_),(t6_0,t6_1,t6_2,_),(t7,_),(t8,_),(t25,_),(t26,_),(t27,_),_) => (match (g172 (t8,())) with | some r26 => (bif ib r26.1 (Int.ofNat (List.length t8)) then (match (g201 ((List.getD t8 (tn r26.1) (0:Int)),(t0,()))) with | some r27 => (bif decide ((List.length t8) ≤ 9223372036854775807) then (ru128_11 g198 g172 g200 g199 g201 F ((t0,()),((t1,()),((t6_0,(t6_1,(t6_2,()))),((r27.1,()),([],((t8,()),(((Int.ofNat (List.length t8)),()),(((0:Int),()),())))))))) (fun s' => match s' with | ((t0,_),(t1,_),(t6_0,t6_1,t6_2,_),(t11,_),t12,(t47,_),(t48,_),(t49,_),_) => (match (g199 (t12,(t0,(t1,())))) with | some r41 => (some ((r41.1.1,(r41.1.2.1,(r41.1.2.2.1,()))),())) | none => none))) else none) | none => none) else none) | none => none))) else none) | none => none) | none => none) | none => none)
theorem ev128_4 (g198:G198) (g172:G172) (g200:G200) (g199:G199) (g201:G201) (F:Nat) (s:ShVal sh128_4) (k kx:ShVal sh128_4->Option R128):evL TT (ct128 g198 g172 g200 g199 g201 ) kp128 [] (loopOf Tryz.f128 4) (envOf sh128_4 s) (fitK sh128_4 k) (fun j e => bif Nat.beq j 0 then fitK sh128_4 kx e else none) kr128 = st128_4 g198 g172 g200 g199 g201 F s k kx:=by
  obtain ⟨⟨t0,_⟩,⟨t1,_⟩,⟨t6_0,t6_1,t6_2,_⟩,⟨t7,_⟩,⟨t8,_⟩,⟨t25,_⟩,⟨t26,_⟩,⟨t27,_⟩,_⟩:=s
  kernel_rfl
theorem ok128_4 (g198:G198) (g172:G172) (g200:G200) (g199:G199) (g201:G201) (F:Nat) (hK:KOK Tryz.prog (ct128 g198 g172 g200 g199 g201 )):LSOK Tryz.prog ⟨67,false,undef⟩ (ls128_4 g198 g172 g200 g199 g201 F) (loopOf Tryz.f128 4) kr128 :=
  loop_ok (st128_4 g198 g172 g200 g199 g201 F) mixed tt_ok hK (by kernel_rfl) (LTOK_by (l:=[]) (by kernel_rfl) trivial) (ev128_4 g198 g172 g200 g199 g201 F)
theorem ev128_11 (g198:G198) (g172:G172) (g200:G200) (g199:G199) (g201:G201) (F:Nat) (s:ShVal sh128_11) (k kx:ShVal sh128_11->Option R128):evL TT (ct128 g198 g172 g200 g199 g201 ) kp128 [] (loopOf Tryz.f128 11) (envOf sh128_11 s) (fitK sh128_11 k) (fun j e => bif Nat.beq j 2 then fitK sh128_11 kx e else none) kr128 = st128_11 g198 g172 g200 g199 g201 F s k kx:=by
  obtain ⟨⟨t0,_⟩,⟨t1,_⟩,⟨t6_0,t6_1,t6_2,_⟩,⟨t11,_⟩,t12,⟨t47,_⟩,⟨t48,_⟩,⟨t49,_⟩,_⟩:=s
  kernel_rfl
theorem ok128_11 (g198:G198) (g172:G172) (g200:G200) (g199:G199) (g201:G201) (F:Nat) (hK:KOK Tryz.prog (ct128 g198 g172 g200 g199 g201 )):LSOK Tryz.prog ⟨67,false,undef⟩ (ls128_11 g198 g172 g200 g199 g201 F) (loopOf Tryz.f128 11) kr128 :=
  loop_ok (st128_11 g198 g172 g200 g199 g201 F) mixed tt_ok hK (by kernel_rfl) (LTOK_by (l:=[]) (by kernel_rfl) trivial) (ev128_11 g198 g172 g200 g199 g201 F)
theorem ev128 (g198:G198) (g172:G172) (g200:G200) (g199:G199) (g201:G201) (F:Nat) (x:Args [.v i64,.v i64,.v mat]):fnK TT (ct128 g198 g172 g200 g199 g201 ) kp128 [poly] [(4,ls128_4 g198 g172 g200 g199 g201 F),(11,ls128_11 g198 g172 g200 g199 g201 F)] (bodyOf Tryz.f128) [.cell 6 34] [.v i64,.v i64,.v mat] true false x = fn128 g198 g172 g200 g199 g201 F x:=by
  obtain ⟨x0,x1,x2,_⟩:=x
  kernel_rfl
theorem ok128 (g198:G198) (g172:G172) (g200:G200) (g199:G199) (g201:G201) (hK:KOK Tryz.prog (ct128 g198 g172 g200 g199 g201 )) (cf:G128) (h:∀ x y,cf x = some y->∃ F,fn128 g198 g172 g200 g199 g201 F x = some y):KOne Tryz.prog 128 ⟨[.v i64,.v i64,.v mat],[poly],true,false,0,cf⟩ :=
  fn_one rfl (c:=bodyOf Tryz.f128) mixed tt_ok hK Tryz.func128 (by kernel_rfl) (by kernel_rfl) (Nat.le_of_ble_eq_true (by kernel_rfl)) (by decide) fun x y hxy => by
    obtain ⟨F,hF⟩:=h x y hxy
    exact ⟨[(4,ls128_4 g198 g172 g200 g199 g201 F),(11,ls128_11 g198 g172 g200 g199 g201 F)],LTOK_by (l:=[loopOf Tryz.f128 4,loopOf Tryz.f128 11]) (by kernel_rfl) ⟨ls_at (by kernel_rfl) (ok128_4 g198 g172 g200 g199 g201 F hK),⟨ls_at (by kernel_rfl) (ok128_11 g198 g172 g200 g199 g201 F hK),trivial⟩⟩,(ev128 g198 g172 g200 g199 g201 F x).trans hF⟩
abbrev R122:Type:=Ress [poly]
abbrev G122:Type:=Args [.v i64,.v i64,.v mat]->Option R122
abbrev kp122:List (Nat × List Nat):=[(0,[5,0,6,1]),(1,[0,7,6,1]),(2,[10,0,9,8,7,6,1]),(3,[11,10,0,9,8,7,6,1]),(4,[29,11,10,0,9,8,7,6,1]),(6,[12,11,10,0,9,8,7,6,1]),(7,[40,12,11,10,0,9,8,7,6,1]),(8,[42,10,12,11,0,9,8,7,6,1]),(9,[12,11,10,0,9,8,7,6,1]),(10,[13,12,11,10,0,9,8,7,6,1]),(11,[13,12,11,10,0,9,8,7,6,1]),(12,[11,10,0,9,8,7,6,1]),(5,[11,10,0,9,8,7,6,1]),(13,[6])]
abbrev ct122 (g191:G191) (g159:G159) (g189:G189) (g190:G190) (g87:G87) (g85:G85):CTab:=[(191,⟨[.v i64,.v i64,.v mat],[(.slice 44 (.slice 2 i64))],true,false,0,g191⟩),(159,⟨[.v i64,.v i64],[i64],false,false,0,g159⟩),(189,⟨[.v poly,.v ex,.v i64],[poly],true,false,0,g189⟩),(190,⟨[.v i64,.v i64],[poly],true,false,0,g190⟩),(87,⟨[.v (.slice 2 i64)],[i64],false,false,0,g87⟩),(85,⟨[.v i64,.v (.slice 44 (.slice 2 i64))],[(.slice 44 (.slice 2 i64))],false,false,0,g85⟩)]
abbrev kr122:Env->Option R122:=endK TT [.cell 6 34] [poly] true false
abbrev sh122_4:Shape:=[(0,vv i64),(1,vv i64),(6,.box false [.fz i64 0 false,.fz i64 0 false,.rt 135 term 99 false true true]),(7,.val false [.fz (.slice 44 (.slice 2 i64)) 113 true]),(8,vv i64),(9,.box false [.fz i64 0 false,.fz i64 0 false,.rt 135 term 147 false true false]),(10,vv i64),(11,vv i64)]
def st122_4 (g191:G191) (g159:G159) (g189:G189) (g190:G190) (g87:G87) (g85:G85) (F:Nat) (s:ShVal sh122_4) (k kx:ShVal sh122_4->Option R122):Option R122 :=
  match s with
  | ((t0,_),(t1,_),(t6_0,t6_1,t6_2,_),(t7,_),(t8,_),(t9_0,t9_1,t9_2,_),(t10,_),(t11,_),_) => (bif decide (t11 < t1) then (bif ib t11 (Int.ofNat (List.length t7)) then (bif ib t8 (Int.ofNat (List.length (List.getD t7 (tn t11) []))) then (bif decide ((List.getD (List.getD t7 (tn t11) []) (tn t8) (0:Int)) = (0:Int)) then k ((t0,()),((t1,()),((t6_0,(t6_1,(t6_2,()))),((t7,()),((t8,()),((t9_0,(t9_1,(t9_2,()))),((t10,()),(((w6 (t11 + (1:Int))),()),())))))))) else (bif decide (t10 = (0:Int)) then (match (g159 (t0,((List.getD (List.getD t7 (tn t11) []) (tn t8) (0:Int)),()))) with | some r34 => (bif ib t11 (Int.ofNat 3) then (bif (!decide (t0 = (0:Int))) then (match (g189 ((t9_0,(t9_1,(t9_2,()))),((tset (1:Int) 3 (tup Int (0:Int) 3) (tn t11)),((Int.tmod (w6 ((List.getD (List.getD t7 (tn t11) []) (tn t8) (0:Int)) * r34.1)) t0),())))) with | some r38 => k ((t0,()),((t1,()),((t6_0,(t6_1,(t6_2,()))),((t7,()),((t8,()),((r38.1.1,(r38.1.2.1,(r38.1.2.2.1,()))),((r34.1,()),(((w6 (t11 + (1:Int))),()),())))))))) | none => none) else none) else none) | none => none) else (bif ib t11 (Int.ofNat 3) then (bif (!decide (t0 = (0:Int))) then (match (g189 ((t9_0,(t9_1,(t9_2,()))),((tset (1:Int) 3 (tup Int (0:Int) 3) (tn t11)),((Int.tmod (w6 ((List.getD (List.getD t7 (tn t11) []) (tn t8) (0:Int)) * t10)) t0),())))) with | some r36 => k ((t0,()),((t1,()),((t6_0,(t6_1,(t6_2,()))),((t7,()),((t8,()),((r36.1.1,(r36.1.2.1,(r36.1.2.2.1,()))),((t10,()),(((w6 (t11 + (1:Int))),()),())))))))) | none => none) else none) else none))) else none) else none) else kx ((t0,()),((t1,()),((t6_0,(t6_1,(t6_2,()))),((t7,()),((t8,()),((t9_0,(t9_1,(t9_2,()))),((t10,()),((t11,()),())))))))))
def ru122_4 (g191:G191) (g159:G159) (g189:G189) (g190:G190) (g87:G87) (g85:G85) (F:Nat) (s:ShVal sh122_4) (kx:ShVal sh122_4->Option R122):Option R122:=iter (fun s k => st122_4 g191 g159 g189 g190 g87 g85 F s k kx) F s
abbrev ls122_4 (g191:G191) (g159:G159) (g189:G189) (g190:G190) (g87:G87) (g85:G85) (F:Nat):LS R122:=⟨sh122_4,0,ru122_4 g191 g159 g189 g190 g87 g85 F⟩
def fn122 (g191:G191) (g159:G159) (g189:G189) (g190:G190) (g87:G87) (g85:G85) (F:Nat) (x:Args [.v i64,.v i64,.v mat]):Option R122 :=
  match x with
  | (x0,x1,x2,_) => (match (g191 (x0,(x1,(x2,())))) with | some r11 => (match (g85 (x0,(r11.1,()))) with | some r13 => (bif ib (0:Int) (Int.ofNat (List.length r13.1)) then (match (g87 ((List.getD r13.1 (tn (0:Int)) []),())) with | some r14 => (match (g190 (x0,(x1,()))) with | some r15 => (ru122_4 g191 g159 g189 g190 g87 g85 F ((x0,()),((x1,()),(((Ty.dflt (.pair (.int .i64) (.pair (.int .i64) (.pair (.slice 135 (.pair (.arr 3 (.int .u8)) (.pair (.int .i64) .unit))) .unit)))).1,((Ty.dflt (.pair (.int .i64) (.pair (.int .i64) (.pair (.slice 135 (.pair (.arr 3 (.int .u8)) (.pair (.int .i64) .unit))) .unit)))).2.1,((Ty.dflt (.pair (.int .i64) (.pair (.int .i64) (.pair (.slice 135 (.pair (.arr 3 (.int .u8)) (.pair (.int .i64) .unit))) .unit)))).2.2.1,()))),((r11.1,()),((r14.1,()),((r15.1.1,(r15.1.2.1,(r15.1.2.2.1,()))),(((0:Int),()),(((0:Int),()),())))))))) (fun s' => match s' with | ((t0,_),(t1,_),(t6_0,t6_1,t6_2,_),(t7,_),(t8,_),(t9_0,t9_1,t9_2,_),(t10,_),(t11,_),_) => (some ((t9_0,(t9_1,(t9_2,()))),())))) | none => none) | none => none) else none) | none => none) | none => none)
theorem ev122_4 (g191:G191) (g159:G159) (g189:G189) (g190:G190) (g87:G87) (g85:G85) (F:Nat) (s:ShVal sh122_4) (k kx:ShVal sh122_4->Option R122):evL TT (ct122 g191 g159 g189 g190 g87 g85 ) kp122 [] (loopOf Tryz.f122 4) (envOf sh122_4 s) (fitK sh122_4 k) (fun j e => bif Nat.beq j 0 then fitK sh122_4 kx e else none) kr122 = st122_4 g191 g159 g189 g190 g87 g85 F s k kx:=by
  obtain ⟨⟨t0,_⟩,⟨t1,_⟩,⟨t6_0,t6_1,t6_2,_⟩,⟨t7,_⟩,⟨t8,_⟩,⟨t9_0,t9_1,t9_2,_⟩,⟨t10,_⟩,⟨t11,_⟩,_⟩:=s
  kernel_rfl
theorem ok122_4 (g191:G191) (g159:G159) (g189:G189) (g190:G190) (g87:G87) (g85:G85) (F:Nat) (hK:KOK Tryz.prog (ct122 g191 g159 g189 g190 g87 g85 )):LSOK Tryz.prog ⟨58,false,undef⟩ (ls122_4 g191 g159 g189 g190 g87 g85 F) (loopOf Tryz.f122 4) kr122 :=
  loop_ok (st122_4 g191 g159 g189 g190 g87 g85 F) mixed tt_ok hK (by kernel_rfl) (LTOK_by (l:=[]) (by kernel_rfl) trivial) (ev122_4 g191 g159 g189 g190 g87 g85 F)
theorem ev122 (g191:G191) (g159:G159) (g189:G189) (g190:G190) (g87:G87) (g85:G85) (F:Nat) (x:Args [.v i64,.v i64,.v mat]):fnK TT (ct122 g191 g159 g189 g190 g87 g85 ) kp122 [poly] [(4,ls122_4 g191 g159 g189 g190 g87 g85 F)] (bodyOf Tryz.f122) [.cell 6 34] [.v i64,.v i64,.v mat] true false x = fn122 g191 g159 g189 g190 g87 g85 F x:=by
  obtain ⟨x0,x1,x2,_⟩:=x
  kernel_rfl
theorem ok122 (g191:G191) (g159:G159) (g189:G189) (g190:G190) (g87:G87) (g85:G85) (hK:KOK Tryz.prog (ct122 g191 g159 g189 g190 g87 g85 )) (cf:G122) (h:∀ x y,cf x = some y->∃ F,fn122 g191 g159 g189 g190 g87 g85 F x = some y):KOne Tryz.prog 122 ⟨[.v i64,.v i64,.v mat],[poly],true,false,0,cf⟩ :=
  fn_one rfl (c:=bodyOf Tryz.f122) mixed tt_ok hK Tryz.func122 (by kernel_rfl) (by kernel_rfl) (Nat.le_of_ble_eq_true (by kernel_rfl)) (by decide) fun x y hxy => by
    obtain ⟨F,hF⟩:=h x y hxy
    exact ⟨[(4,ls122_4 g191 g159 g189 g190 g87 g85 F)],LTOK_by (l:=[loopOf Tryz.f122 4]) (by kernel_rfl) ⟨ls_at (by kernel_rfl) (ok122_4 g191 g159 g189 g190 g87 g85 F hK),trivial⟩,(ev122 g191 g159 g189 g190 g87 g85 F x).trans hF⟩
open Go Go.RowKit Go.Proofs
theorem putP_mod {p x:Int} {ts:List term.den} {e:ex.den}:putP p ts e (x % p) = putP p ts e x:=by
  unfold putP; rw [Int.emod_add_emod]
def colM (p:Int) (n:Nat) (g:Mat) (at_:Nat):List Int:=(List.range n).map fun i => chE p g i at_
theorem colM_len {p:Int} {n:Nat} {g:Mat} {at_:Nat}:(colM p n g at_).length = n:=by simp [colM]
theorem colM_el {p:Int} {n i:Nat} {g:Mat} {at_:Nat} (h:i < n):el (colM p n g at_) i = chE p g i at_:=by simp [colM,el,List.getD_eq_getElem?_getD,h]
theorem chRows_get {p:Int} {n i:Nat} {g:Mat} (h:i < n):(chRows p n g).getD i [] = chRow p n g i:=by simp [chRows,List.getD_eq_getElem?_getD,h]
theorem chRow_el {p:Int} {n i j:Nat} {g:Mat} (h:j < n):(chRow p n g i).getD j 0 = chE p g i j:=by simp [chRow,List.getD_eq_getElem?_getD,h]
theorem chE_rng {p q:Int} {n i j:Nat} {g:Mat} (hp : 2 ≤ p) (hg:okM g = true) (hn:n ≤ 3) (hr:rngB p q g = true) (hi:i < n) (hj:j < n) : 0 ≤ chE p g i j ∧ chE p g i j < p:=by
  have h1:=me_rng hg i j
  have h2:=me_lt hr (i:=i) (j:=j) (by omega) (by omega)
  unfold chE
  split
  · exact md_rng (by omega)
  · omega
theorem root_at {p:Int} {n:Nat} {g:Mat} (hP:isP p = true) (hg:okM g = true) (hn : 1 ≤ n ∧ n ≤ 3) {q:Int} (hr:rngB p q g = true) (h:(echM p n g).length = 1) :
    ld ((echM p n g).getD 0 []) < n ∧ ld (colM p n g (ld ((echM p n g).getD 0 []))) < n:=by
  have hp:=isP_pos hP
  have hc:=chRows_can (p:=p) (by omega) hg hn.2 hr
  have rr:=ech_RR hP hc
  have hm:(echM p n g).getD 0 [] ∈ ech p (chRows p n g):=by
    rw [List.getD_eq_getElem?_getD,List.getElem?_eq_getElem (by omega)]
    exact List.getElem_mem _
  have hlt:=rr.lt _ hm
  have h1:=rr.one _ hm
  generalize hd:ld ((echM p n g).getD 0 []) = d at *
  refine ⟨hlt,?_⟩
  have hle:=ld_le (colM p n g d)
  rw [colM_len] at hle
  rcases Nat.lt_or_ge (ld (colM p n g d)) n with z | z
  · exact z
  · exfalso
    have l:Lin p n fun v => el v d = 0:=⟨fun k a b ha hb qa qb => by rw [el_subm (by rw [ha.len,hb.len]),qa,qb]; simp,fun c a ha qa => by rw [el_scl,qa]; simp⟩
    have:=ech_lin hP l (rows:=chRows p n g) (fun r hr' => ⟨hc r hr',by
      obtain ⟨i,hi,rfl⟩:=List.mem_map.1 hr'
      have hi:=List.mem_range.1 hi
      show (chRow p n g i).getD d 0 = 0
      rw [chRow_el hlt,← colM_el hi]
      exact ld_zero _ i (by omega)⟩) _ hm
    rw [this] at h1; omega
def formF (p:Int) (n:Nat) (g:Mat):Nat->Int:=fun i => chE p g i (ld ((echM p n g).getD 0 [])) * inv p (el (colM p n g (ld ((echM p n g).getD 0 []))) (ld (colM p n g (ld ((echM p n g).getD 0 [])))))
def formP (p:Int) (n:Nat) (g:Mat):List term.den:=linP p (formF p n g) n
theorem col114 {p:Int} {n at_:Nat} {g:Mat} {z:poly.den} (hn:n ≤ 3) (ha:at_ < n) {g95:G198} {g157:G172} {g112:G200} {g103:G199} {g79:G201} {F0 F:Nat} (hF:n < F) {kx:ShVal sh128_4->Option R128} :
    iter (fun s k => st128_4 g95 g157 g112 g103 g79 F0 s k kx) F ((p,()),(((n:Int),()),((z.1,z.2.1,z.2.2.1,()),(((at_:Int),()),(([],()),((chRows p n g,()),(((n:Int),()),(((0:Int),()),())))))))) =
      kx ((p,()),(((n:Int),()),((z.1,z.2.1,z.2.2.1,()),(((at_:Int),()),((colM p n g at_,()),((chRows p n g,()),(((n:Int),()),(((n:Int),()),())))))))):=by
  have key:=iter_run (step:=fun s k => st128_4 g95 g157 g112 g103 g79 F0 s k kx) (r:=kx ((p,()),(((n:Int),()),((z.1,z.2.1,z.2.2.1,()),(((at_:Int),()),((colM p n g at_,()),((chRows p n g,()),(((n:Int),()),(((n:Int),()),()))))))))) n F
    (fun i => ((p,()),(((n:Int),()),((z.1,z.2.1,z.2.2.1,()),(((at_:Int),()),(((List.range i).map (fun i => chE p g i at_),()),((chRows p n g,()),(((n:Int),()),(((i:Int),()),()))))))))) hF (fun i hi k => ?_) (fun k => ?_)
  · exact key
  · have ll:((List.range i).map (fun i => chE p g i at_)).length = i:=by simp
    have lr:(chRows p n g).length = n:=chRows_len
    have l2:(chRow p n g i).length = n:=chRow_len
    have wi:w6 ((i:Int) + 1) = ((i + 1:Nat):Int):=by rw [w6_id (by omega) (by omega)]; rfl
    rw [range_snoc]
    generalize (List.range i).map (fun i => chE p g i at_) = L at *
    simp (disch:=omega) only [st128_4,dlt_t,cond_true,ofn,lr,ib_t,tn_cast,chRows_get hi,l2,chRow_el ha,ll,List.length_singleton,grow_t,wi]
  · have e:colM p n g at_ = (List.range n).map (fun i => chE p g i at_):=rfl
    rw [e]
    simp (disch:=omega) only [st128_4,dlt_f,cond_false]
theorem log114 {p c:Int} {n:Nat} {nums:List Int} {z:poly.den} (hn:n ≤ 3) (hl:nums.length = n) (hr:∀ i,i < n->0 ≤ el nums i ∧ el nums i < 13) (hc : 0 ≤ c ∧ c < 13) {g95:G198} {g157:G172} {g112:G200} {g103:G199} {g79:G201} {F0 F:Nat} (hF:n < F) {kx:ShVal sh128_11->Option R128} :
    iter (fun s k => st128_11 g95 g157 g112 g103 g79 F0 s k kx) F ((p,()),(((n:Int),()),((z.1,z.2.1,z.2.2.1,()),((c,()),([],((nums,()),(((n:Int),()),(((0:Int),()),())))))))) =
      kx ((p,()),(((n:Int),()),((z.1,z.2.1,z.2.2.1,()),((c,()),(linL (fun i => el nums i * c) n,((nums,()),(((n:Int),()),(((n:Int),()),())))))))):=by
  have key:=iter_run (step:=fun s k => st128_11 g95 g157 g112 g103 g79 F0 s k kx) (r:=kx ((p,()),(((n:Int),()),((z.1,z.2.1,z.2.2.1,()),((c,()),(linL (fun i => el nums i * c) n,((nums,()),(((n:Int),()),(((n:Int),()),()))))))))) n F
    (fun i => ((p,()),(((n:Int),()),((z.1,z.2.1,z.2.2.1,()),((c,()),(linL (fun i => el nums i * c) i,((nums,()),(((n:Int),()),(((i:Int),()),()))))))))) hF (fun i hi k => ?_) (fun k => ?_)
  · exact key
  · have h1:=hr i hi
    have h2:=mul_rng (c:=13) (d:=13) h1.1 h1.2 hc.1 hc.2
    have wi:w6 ((i:Int) + 1) = ((i + 1:Nat):Int):=by rw [w6_id (by omega) (by omega)]; rfl
    have wk:w6 (nums.getD i 0 * c) = el nums i * c:=w6_id (by show _ ≤ el nums i * c; omega) (by show el nums i * c ≤ _; omega)
    have el1:linL (fun i => el nums i * c) (i + 1) = (leX i,el nums i * c) :: linL (fun i => el nums i * c) i:=rfl
    rw [el1]
    generalize linL (fun i => el nums i * c) i = L at *
    have i3:ib (i:Int) ((3:Nat):Int) = true:=ib_t (by omega) (by omega)
    simp (disch:=omega) only [st128_11,dlt_t,cond_true,ofn,hl,ib_t,tn_cast,i3,wi,wk]
    rfl
  · simp (disch:=omega) only [st128_11,dlt_f,cond_false]
noncomputable def cf114:G128:=fn128 cf95 cf157 cf112 cf103 cf79 5
theorem k114:KOne Tryz.prog 128 ⟨[.v i64,.v i64,.v mat],[poly],true,false,0,cf114⟩:=ok128 _ _ _ _ _ (.cons k95 (.cons k157 (.cons k112 (.cons k103 (.cons k79 .nil))))) cf114 fun x y h => ⟨5,h⟩
theorem g114_ok {p:Int} {n:Nat} {g:Mat} (hg:okM g = true) (hP:isP p = true) (hn : 1 ≤ n ∧ n ≤ 3) {q:Int} (hr:rngB p q g = true) (h:(echM p n g).length = 1):cf114 (p,(n:Int),g,()) = some ((p,(n:Int),formP p n g,()),()):=by
  have hp:=isP_pos hP
  obtain ⟨h1,h2⟩:=root_at hP hg hn hr h
  have hc:=head_can hP hg hn.2 hr h
  have g1:=g95_ok hg hP hn hr
  have hR:rootL p n g = (echM p n g).getD 0 []:=if_pos h
  rw [hR] at g1
  have g2:cf157 ((echM p n g).getD 0 [],()) = some ((ld ((echM p n g).getD 0 []):Int),()):=by rw [g157_ok (by rw [hc.len]; omega),ldI_lt hc.len h1]
  have g3:=g112_ok (p:=p) (by omega) hn.2 hg
  have cl:=colM_len (p:=p) (n:=n) (g:=g) (at_:=ld ((echM p n g).getD 0 []))
  have g4:cf157 (colM p n g (ld ((echM p n g).getD 0 [])),()) = some ((ld (colM p n g (ld ((echM p n g).getD 0 []))):Int),()):=by rw [g157_ok (by rw [cl]; omega),ldI_lt cl h2]
  have rng:∀ i,i < n->0 ≤ el (colM p n g (ld ((echM p n g).getD 0 []))) i ∧ el (colM p n g (ld ((echM p n g).getD 0 []))) i < p:=fun i hi => by rw [colM_el hi]; exact chE_rng hp.1 hg hn.2 hr hi h1
  have hne:=ld_ne (colM p n g (ld ((echM p n g).getD 0 []))) (by rw [cl]; exact h2)
  have r2:=rng _ h2
  have g5:=g79_ok (p:=p) (x:=el (colM p n g (ld ((echM p n g).getD 0 []))) (ld (colM p n g (ld ((echM p n g).getD 0 []))))) (by omega) r2
  have hi:=(inv_ok hP (x:=el (colM p n g (ld ((echM p n g).getD 0 []))) (ld (colM p n g (ld ((echM p n g).getD 0 []))))) (by rw [Int.emod_eq_of_lt r2.1 r2.2]; exact hne)).1
  have lr:(chRows p n g).length = n:=chRows_len
  have eF:linL (fun i => el (colM p n g (ld ((echM p n g).getD 0 []))) i * inv p (el (colM p n g (ld ((echM p n g).getD 0 []))) (ld (colM p n g (ld ((echM p n g).getD 0 [])))))) n = linL (formF p n g) n:=by
    have:∀ k,k ≤ n->linL (fun i => el (colM p n g (ld ((echM p n g).getD 0 []))) i * inv p (el (colM p n g (ld ((echM p n g).getD 0 []))) (ld (colM p n g (ld ((echM p n g).getD 0 [])))))) k = linL (formF p n g) k:=fun k => by
      induction k with
      | zero => intro _; rfl
      | succ k ih => intro hk; simp only [linL]; rw [ih (by omega),colM_el (by omega)]; rfl
    exact this n (Nat.le_refl _)
  simp only [cf114,fn128,g1,g2,g3]
  rw [dln_t (by omega),cond_true,ofn,lr]
  show iter (fun s k => st128_4 cf95 cf157 cf112 cf103 cf79 5 s k _) 5 _ = _
  refine (col114 (p:=p) (g:=g) (z:=Ty.dflt poly) hn.2 h1 (by omega)).trans ?_
  simp only [g4,ofn,cl]
  rw [ib_t (by omega) (by omega),cond_true]
  show (match cf79 (el (colM p n g (ld ((echM p n g).getD 0 []))) (ld (colM p n g (ld ((echM p n g).getD 0 [])))),p,()) with | some r27 => _ | none => none) = _
  rw [g5]
  simp only
  rw [dln_t (by omega),cond_true]
  show iter (fun s k => st128_11 cf95 cf157 cf112 cf103 cf79 5 s k _) 5 _ = _
  refine (log114 (p:=p) (z:=Ty.dflt poly) (nums:=colM p n g (ld ((echM p n g).getD 0 []))) hn.2 cl (fun i hi => by have:=rng i hi; omega) (by omega) (by omega)).trans ?_
  rw [eF]
  show (match cf103 (linL (formF p n g) n,p,(n:Int),()) with | some r41 => _ | none => none) = _
  rw [g103_lin (by omega) hn.2]
  rfl
theorem run113 {p:Int} {n:Nat} {g:Mat} {z:poly.den} (hg:okM g = true) (hP:isP p = true) (hn : 1 ≤ n ∧ n ≤ 3) {q:Int} (hr:rngB p q g = true) (h:(echM p n g).length = 1) {F0 F:Nat} (hF:n < F) :
    iter (fun s k => st122_4 cf109 cf75 cf98 cf97 cf153 cf108 F0 s k (fun s' => match s' with | ((t0,_),(t1,_),(t6_0,t6_1,t6_2,_),(t7,_),(t8,_),(t9_0,t9_1,t9_2,_),(t10,_),(t11,_),_) => (some ((t9_0,(t9_1,(t9_2,()))),())))) F
      ((p,()),(((n:Int),()),((z.1,z.2.1,z.2.2.1,()),((chRows p n g,()),(((ld ((echM p n g).getD 0 []):Int),()),((p,(n:Int),[],()),(((0:Int),()),(((0:Int),()),())))))))) = some ((p,(n:Int),formP p n g,()),()):=by
  have hp:=isP_pos hP
  obtain ⟨h1,h2⟩:=root_at hP hg hn hr h
  have cl:=colM_len (p:=p) (n:=n) (g:=g) (at_:=ld ((echM p n g).getD 0 []))
  have rng:∀ i,i < n->0 ≤ el (colM p n g (ld ((echM p n g).getD 0 []))) i ∧ el (colM p n g (ld ((echM p n g).getD 0 []))) i < p:=fun i hi => by rw [colM_el hi]; exact chE_rng hp.1 hg hn.2 hr hi h1
  have hne:=ld_ne (colM p n g (ld ((echM p n g).getD 0 []))) (by rw [cl]; exact h2)
  have hz:=ld_zero (colM p n g (ld ((echM p n g).getD 0 [])))
  have r2:=rng _ h2
  have hi:=(inv_ok hP (x:=el (colM p n g (ld ((echM p n g).getD 0 []))) (ld (colM p n g (ld ((echM p n g).getD 0 []))))) (by rw [Int.emod_eq_of_lt r2.1 r2.2]; exact hne)).1
  have hF':∀ i,formF p n g i = chE p g i (ld ((echM p n g).getD 0 [])) * inv p (el (colM p n g (ld ((echM p n g).getD 0 []))) (ld (colM p n g (ld ((echM p n g).getD 0 []))))):=fun _ => rfl
  have hce:∀ i,i < n->el (colM p n g (ld ((echM p n g).getD 0 []))) i = chE p g i (ld ((echM p n g).getD 0 [])):=fun i hi => colM_el hi
  generalize hc:inv p (el (colM p n g (ld ((echM p n g).getD 0 []))) (ld (colM p n g (ld ((echM p n g).getD 0 []))))) = c at *
  generalize ha:ld (colM p n g (ld ((echM p n g).getD 0 []))) = a at *
  generalize hd:ld ((echM p n g).getD 0 []) = d at *
  have key:=iter_run (step:=fun s k => st122_4 cf109 cf75 cf98 cf97 cf153 cf108 F0 s k (fun s' => match s' with | ((t0,_),(t1,_),(t6_0,t6_1,t6_2,_),(t7,_),(t8,_),(t9_0,t9_1,t9_2,_),(t10,_),(t11,_),_) => (some ((t9_0,(t9_1,(t9_2,()))),())))) (r:=some ((p,(n:Int),formP p n g,()),())) n F
    (fun i => ((p,()),(((n:Int),()),((z.1,z.2.1,z.2.2.1,()),((chRows p n g,()),(((d:Int),()),((p,(n:Int),linP p (formF p n g) i,()),(((if i ≤ a then (0:Int) else c),()),(((i:Int),()),()))))))))) hF (fun i hi' k => ?_) (fun k => ?_)
  · rw [if_pos (Nat.zero_le _)] at key
    exact key
  · have lr:(chRows p n g).length = n:=chRows_len
    have l2:(chRow p n g i).length = n:=chRow_len
    have wi:w6 ((i:Int) + 1) = ((i + 1:Nat):Int):=by rw [w6_id (by omega) (by omega)]; rfl
    have rn:=rng i hi'
    rw [hce i hi'] at rn
    have i3:ib (i:Int) ((3:Nat):Int) = true:=ib_t (by omega) (by omega)
    have hcan:=linP_can (f:=formF p n g) (p:=p) (by omega) (k:=i) (by omega)
    have hlen:=can_len hcan.1 (linP_deg (f:=formF p n g) (p:=p) (k:=i) (by omega) (by omega)) (by omega)
    by_cases q0:chE p g i d = 0
    · -- nothing to put
      have hs:linP p (formF p n g) (i + 1) = linP p (formF p n g) i:=linP_skip (by omega) (by omega) (by rw [hF',q0]; simp)
      have hia:i ≠ a:=fun e => by subst e; rw [hce i hi'] at hne; exact hne q0
      have hif:(if i + 1 ≤ a then (0:Int) else c) = if i ≤ a then (0:Int) else c:=by
        by_cases w:i ≤ a
        · rw [if_pos w,if_pos (by omega)]
        · rw [if_neg w,if_neg (by omega)]
      rw [hs,hif]
      generalize linP p (formF p n g) i = L at *
      generalize (if i ≤ a then (0:Int) else c) = fs at *
      simp (disch:=omega) only [st122_4,dlt_t,cond_true,ofn,lr,ib_t,tn_cast,chRows_get hi',l2,chRow_el h1,q0,decide_true,wi]
    · have hai:a ≤ i:=by
        rcases Nat.lt_or_ge i a with w | w
        · have:=hz i w; rw [hce i hi'] at this; exact absurd this q0
        · exact w
      have hnext:linP p (formF p n g) (i + 1) = putP p (linP p (formF p n g) i) (leX i) (chE p g i d * c % p):=by rw [putP_mod,← hF']; rfl
      have mr:=mul_rng (c:=13) (d:=13) rn.1 (by omega) (show 0 ≤ c by omega) (by omega)
      have et:Int.tmod (w6 (chE p g i d * c)) p = chE p g i d * c % p:=by rw [w6_id (by omega) (by omega),Int.tmod_eq_emod_of_nonneg mr.1]
      have mm:=md_rng (p:=p) (x:=chE p g i d * c) (by omega)
      have g98:cf98 ((p,(n:Int),linP p (formF p n g) i,()),leX i,chE p g i d * c % p,()) = some ((p,(n:Int),linP p (formF p n g) (i + 1),()),()):=by
        rw [hnext]; exact g98_ok ⟨by omega,by omega,hcan.1,(leX_ok (by omega)).1,by omega,by omega,by omega⟩
      rw [if_neg (show ¬ (i + 1 ≤ a) by omega)]
      by_cases q1:i = a
      · have g75:cf75 (p,chE p g i d,()) = some (c,()):=by
          have:cf75 (p,chE p g i d,()) = some (inv p (chE p g i d),()):=if_pos (show (2 ≤ p ∧ p ≤ 13) ∧ (-1000000000000 ≤ chE p g i d ∧ chE p g i d ≤ 1000000000000) from ⟨hp,by omega,by omega⟩)
          rw [this,← hc,q1,hce a (by omega)]
        rw [if_pos (show i ≤ a by omega)]
        simp (disch:=omega) only [st122_4,dlt_t,cond_true,ofn,lr,ib_t,tn_cast,chRows_get hi',l2,chRow_el h1,deq_f,cond_false,deq_t,g75,Bool.not_false,et,i3]
        show (match cf98 ((p,(n:Int),linP p (formF p n g) i,()),leX i,chE p g i d * c % p,()) with | some r38 => _ | none => none) = _
        rw [g98,wi]
      · rw [if_neg (show ¬ (i ≤ a) by omega)]
        simp (disch:=omega) only [st122_4,dlt_t,cond_true,ofn,lr,ib_t,tn_cast,chRows_get hi',l2,chRow_el h1,deq_f,cond_false,Bool.not_false,et,i3]
        show (match cf98 ((p,(n:Int),linP p (formF p n g) i,()),leX i,chE p g i d * c % p,()) with | some r36 => _ | none => none) = _
        rw [g98,wi]
  · simp (disch:=omega) only [st122_4,dlt_f,cond_false]
    rfl
noncomputable def cf113:G122:=fn122 cf109 cf75 cf98 cf97 cf153 cf108 5
theorem k113:KOne Tryz.prog 122 ⟨[.v i64,.v i64,.v mat],[poly],true,false,0,cf113⟩:=ok122 _ _ _ _ _ _ (.cons k109 (.cons k75 (.cons k98 (.cons k97 (.cons k153 (.cons k108 .nil)))))) cf113 fun x y h => ⟨5,h⟩
theorem g113_ok {p:Int} {n:Nat} {g:Mat} (hg:okM g = true) (hP:isP p = true) (hn : 1 ≤ n ∧ n ≤ 3) {q:Int} (hr:rngB p q g = true) (h:(echM p n g).length = 1):cf113 (p,(n:Int),g,()) = some ((p,(n:Int),formP p n g,()),()):=by
  have hp:=isP_pos hP
  obtain ⟨h1,h2⟩:=root_at hP hg hn hr h
  have hc:=head_can hP hg hn.2 hr h
  have g1:=g109_ok (p:=p) (by omega) hn.2 hg
  have g2:cf108 (p,chRows p n g,()) = some (echM p n g,()):=g108_ok hP (chRows_can (by omega) hg hn.2 hr) (by omega) (by rw [chRows_len]; omega)
  have g3:cf153 ((echM p n g).getD 0 [],()) = some ((ld ((echM p n g).getD 0 []):Int),()):=by rw [g153_ok (by rw [hc.len]; omega),ldI_lt hc.len h1]
  simp only [cf113,fn122,g1,g2]
  rw [ofn,h,ib_t (by omega) (by omega),cond_true]
  show (match cf153 ((echM p n g).getD 0 [],()) with | some r14 => _ | none => none) = _
  rw [g3]
  exact run113 (z:=Ty.dflt poly) hg hP hn hr h (by omega)
abbrev R40:Type:=Ress [.slice 34 poly,i64]
abbrev G40:Type:=Args [.v (.slice 34 poly),.v i64]->Option R40
theorem RdL.app {α : Type} {R : α->List Value->List Nat->Prop} {n:Nat}:∀ {l1 l2:List α} {cs:List Value} {bs:List Nat},RdL R n (l1 ++ l2) cs bs->∃ b1 b2,RdL R n l1 cs b1 ∧ RdL R n l2 (cs.drop (l1.length * n)) b2 ∧ bs = b1 ++ b2
  | [],l2,cs,bs,h => ⟨[],bs,rfl,by simpa using h,rfl⟩
  | x :: l1,l2,cs,bs,⟨b1,b2,h1,h2,h3⟩ => by
    obtain ⟨c1,c2,q1,q2,q3⟩:=RdL.app h2
    refine ⟨b1 ++ c1,c2,⟨b1,c1,h1,q1,rfl⟩,?_,by rw [h3,q3,List.append_assoc]⟩
    rw [List.drop_drop] at q2
    rw [List.length_cons,Nat.succ_mul,Nat.add_comm]; exact q2
theorem RdL.join {α : Type} {R : α->List Value->List Nat->Prop} {n:Nat}:∀ {l1 l2:List α} {cs:List Value} {b1 b2:List Nat},RdL R n l1 cs b1->RdL R n l2 (cs.drop (l1.length * n)) b2->RdL R n (l1 ++ l2) cs (b1 ++ b2)
  | [],l2,cs,b1,b2,h1,h2 => by have h1:b1 = []:=h1; subst h1; simpa using h2
  | x :: l1,l2,cs,b1,b2,⟨c1,c2,q1,q2,q3⟩,h2 => by
    rw [q3,List.append_assoc]
    refine ⟨c1,c2 ++ b2,q1,RdL.join q2 ?_,rfl⟩
    rw [List.drop_drop]
    rw [List.length_cons,Nat.succ_mul,Nat.add_comm] at h2; exact h2
section
variable {P:Program} {T:TTab} {K:CTab}
structure Nst (w0:World) (ba:List Nat) (e:TypeId) (u:Ty) (hd:Value) (L:List u.den) (w:World):Prop where
  rd:∃ blk bs,SlR w.heap e u.size (Rd w.heap u) L hd blk bs ∧ (blk.toList ++ bs).Nodup ∧ ∀ z ∈ blk.toList ++ bs,z ∈ ba
  os:w.os = w0.os
  tp:Tp w w0
  out:w.output = w0.output
  size:w0.heap.size ≤ w.heap.size
  old:∀ b,b < w0.heap.size->b ∉ ba->w.heap[b]? = w0.heap[b]?
  wr:∀ b ∈ ba,∃ c e,w.heap[b]? = some (.cells c e (0,0))
  lt:∀ b ∈ ba,b < w0.heap.size
theorem Nst.ext {w0 w w':World} {ba:List Nat} {e:TypeId} {u:Ty} {hd:Value} {L:List u.den} (h:Nst w0 ba e u hd L w) (os:w'.os = w.os) (tp:Tp w' w) (out:w'.output = w.output) (size:w.heap.size ≤ w'.heap.size)
    (old:∀ b,b < w.heap.size->w'.heap[b]? = w.heap[b]?):Nst w0 ba e u hd L w' where
  rd:=by
    obtain ⟨blk,bs,h1,h2,h3⟩:=h.rd
    have lt:∀ z ∈ blk.toList ++ bs,z < w.heap.size:=fun z hz => Nat.lt_of_lt_of_le (h.lt z (h3 z hz)) h.size
    exact ⟨blk,bs,h1.frame (fun b hb => old b (lt b (List.mem_append_right _ hb))) (fun b hb => old b (lt b (by simp [hb]))),h2,h3⟩
  os:=os.trans h.os
  tp:=tp.trans h.tp
  out:=out.trans h.out
  size:=Nat.le_trans h.size size
  old:=fun b hb hn => (old b (Nat.lt_of_lt_of_le hb h.size)).trans (h.old b hb hn)
  wr:=fun b hb => by rw [old b (Nat.lt_of_lt_of_le (h.lt b hb) h.size)]; exact h.wr b hb
  lt:=h.lt
theorem Nst.elem {w0 w:World} {ba:List Nat} {e:TypeId} {u:Ty} {hd:Value} {pre suf:List u.den} {x:u.den} (h:Nst w0 ba e u hd (pre ++ x :: suf) w) (hu:u.size ≠ 0) :
    ∃ b o cap c e' be,hd = .slice (some ⟨b,o,none⟩) (pre ++ x :: suf).length cap ∧ w.heap[b]? = some (.cells c e' (0,0)) ∧ o + pre.length * u.size + u.size ≤ c.size ∧
      Rd w.heap u x ((c.toList.drop (o + pre.length * u.size)).take u.size) be ∧ be.Nodup ∧ (∀ z ∈ be,z ∈ ba) ∧ b ∉ be ∧ b ∈ ba ∧
      ∀ (w':World) (x':u.den) (c':Array Value) (bz:List Nat),w'.heap[b]? = some (.cells c' e' (0,0))->c'.size = c.size->(∀ j,j < o + pre.length * u.size ∨ o + pre.length * u.size + u.size ≤ j->c'[j]? = c[j]?) →
        Rd w'.heap u x' ((c'.toList.drop (o + pre.length * u.size)).take u.size) bz->bz.Nodup->(∀ z ∈ bz,z ∈ be)->w'.os = w.os->Tp w' w->w'.output = w.output->w.heap.size ≤ w'.heap.size →
        (∀ z,z < w.heap.size->z ∉ be->z ≠ b->w'.heap[z]? = w.heap[z]?)->(∀ z ∈ be,∃ c e,w'.heap[z]? = some (.cells c e (0,0)))->Nst w0 ba e u hd (pre ++ x' :: suf) w':=by
  obtain ⟨blk,bs,h1,h2,h3⟩:=h.rd
  rcases h1 with ⟨_,_,q,_⟩ | ⟨b,o,cap,c,fr,r1,r2,⟨r3,r3'⟩,⟨e',r4⟩,r5,r6⟩
  · cases pre <;> cases q
  · subst r2
    have hb:b ∈ ba:=h3 b (by simp)
    have hfr:fr = (0,0):=by
      obtain ⟨c1,e1,k⟩:=h.wr b hb
      rw [r4] at k; injection k with k; injection k with _ _ k
    subst hfr
    obtain ⟨b1,b2',s1,s2,s3⟩:=r6.app
    obtain ⟨be,b2,s4,s5,s6⟩:=s2
    rw [List.drop_drop] at s4
    rw [List.drop_drop,List.drop_drop] at s5
    subst s6; subst s3
    have nd:=h2
    simp only [Option.toList_some,List.singleton_append,List.nodup_cons,List.mem_append,List.nodup_append,not_or] at nd
    obtain ⟨⟨n1,n2,n3⟩,n4,⟨n5,n6,n7⟩,n8⟩:=nd
    have hlen:(pre ++ x :: suf).length = pre.length + 1 + suf.length:=by simp; omega
    have hmul:(pre.length + 1) * u.size ≤ cap * u.size:=Nat.mul_le_mul_right _ (by omega)
    have hsm:(pre.length + 1) * u.size = pre.length * u.size + u.size:=Nat.succ_mul _ _
    refine ⟨b,o,cap,c,e',be,r1,r4,by omega,s4,n5,fun z hz => h3 z (by simp [hz]),n2,hb,?_⟩
    intro w' x' c' bz t1 t2 t3 t4 t5 t6 t7 t8 t9 t10 t11 t12
    have ltA:∀ z ∈ ba,z < w.heap.size:=fun z hz => Nat.lt_of_lt_of_le (h.lt z hz) h.size
    have f1:∀ z ∈ b1,w'.heap[z]? = w.heap[z]?:=fun z hz => t11 z (ltA z (h3 z (by simp [hz]))) (fun q => n8 z hz z (.inl q) rfl) (fun q => n1 (q ▸ hz))
    have f2:∀ z ∈ b2,w'.heap[z]? = w.heap[z]?:=fun z hz => t11 z (ltA z (h3 z (by simp [hz]))) (fun q => n7 z q z hz rfl) (fun q => n3 (q ▸ hz))
    have g1:RdL (Rd w'.heap u) u.size pre (c'.toList.drop o) b1 :=
      (s1.mono fun x cs b hm hr => hr.frame fun y hy => f1 y (hm y hy)).take fun j hj => by
        rw [List.getElem?_drop,List.getElem?_drop,Array.getElem?_toList,Array.getElem?_toList]; exact t3 _ (.inl (by omega))
    have g2:RdL (Rd w'.heap u) u.size suf (c'.toList.drop (o + (pre.length * u.size + u.size))) b2 :=
      (s5.mono fun x cs b hm hr => hr.frame fun y hy => f2 y (hm y hy)).take fun j hj => by
        rw [List.getElem?_drop,List.getElem?_drop,Array.getElem?_toList,Array.getElem?_toList]; exact t3 _ (.inr (by omega))
    have g3:RdL (Rd w'.heap u) u.size (pre ++ x' :: suf) (c'.toList.drop o) (b1 ++ (bz ++ b2)):=by
      refine RdL.join g1 ⟨bz,b2,?_,?_,rfl⟩
      · rw [List.drop_drop]; exact t4
      · rw [List.drop_drop,List.drop_drop]; exact g2
    refine ⟨⟨some b,b1 ++ (bz ++ b2),.inr ⟨b,o,cap,c',(0,0),by rw [r1]; simp,rfl,⟨by rw [hlen] at r3; simp; omega,r3'⟩,⟨e',t1⟩,by omega,g3⟩,?_,?_⟩,t7.trans h.os,t8.trans h.tp,t9.trans h.out,Nat.le_trans h.size t10,?_,?_,h.lt⟩
    · simp only [Option.toList_some,List.singleton_append,List.nodup_cons,List.mem_append,List.nodup_append,not_or]
      refine ⟨⟨n1,fun q => n2 (t6 b q),n3⟩,n4,⟨t5,n6,fun a ha b hb => n7 a (t6 a ha) b hb⟩,fun a ha b hb => ?_⟩
      rcases hb with q | q
      · exact n8 a ha b (.inl (t6 b q))
      · exact n8 a ha b (.inr q)
    · intro z hz
      simp only [Option.toList_some,List.singleton_append,List.mem_cons,List.mem_append] at hz
      rcases hz with rfl | q | q | q
      · exact hb
      · exact h3 z (by simp [q])
      · exact h3 z (by simp [t6 z q])
      · exact h3 z (by simp [q])
    · intro z hz hn
      rw [t11 z (Nat.lt_of_lt_of_le hz h.size) (fun q => hn (h3 z (by simp [q]))) (fun q => hn (q ▸ hb))]
      exact h.old z hz hn
    · intro z hz
      by_cases q1:z ∈ be
      · exact t12 z q1
      · by_cases q2:z = b
        · subst q2; exact ⟨_,_,t1⟩
        · rw [t11 z (ltA z hz) q1 q2]; exact h.wr z hz
structure AtV (n:Nat) (f:Nat->Value) (a:Act):Prop where
  sz:a.tmps.size = n
  df:a.defers = []
  at_:∀ s,a.tmps.getD s undef = f s
def updV (f:Nat->Value) (d:Nat) (v:Value):Nat->Value:=fun s => if s = d then v else f s
theorem AtV.put {n d:Nat} {f:Nat->Value} {a:Act} (h:AtV n f a) (hd:d < n) (v:Value):AtV n (updV f d v) (a.put (some d) v) where
  sz:=by simp [Act.put,h.sz]
  df:=h.df
  at_:=fun s => by rw [put_getD (by rw [h.sz]; exact hd),h.at_]; rfl
theorem AtV.ev {n s:Nat} {f:Nat->Value} {a:Act} (h:AtV n f a):a.eval (.tmp s) = f s:=h.at_ s
theorem run_indexS {t e:TypeId} {u:Ty} (hT:TOK P T) (k:TyOK P T t (.slice e u)) {w:World} {b o m cap:Nat} {kk:IntKind} {i:Nat} (hi:i < m) :
    (Instr.indexAt t (.slice (some ⟨b,o,none⟩) m cap) (.int kk i)).run P w = .ok (.pointer (some ⟨b,o + i * u.size,none⟩)) w:=by
  obtain ⟨u1,u2,_⟩:=k.und
  have asInt:(asIntOf (.int kk (i:Int))).run P w = .ok (kk,(i:Int)) w:=rfl
  have hi' : 0 ≤ (i:Int) ∧ (i:Int) < m:=by omega
  simp only [Instr.indexAt,Sem.run_bind,asInt,Result.andThen_ok,run_underlying u1,Sem.run_pure,sizeOf_of (hT _ _ u2),if_pos hi']
  rw [addr_add]; simp
theorem run_loadS {t e:TypeId} {u:Ty} (k:TyOK P T t (.slice e u)) {w:World} {b o:Nat} {c:Array Value} {e':TypeId} {fr:Nat × Nat} {v:Value} (hb:w.heap[b]? = some (.cells c e' fr)) (hv:c[o]? = some v) :
    (Instr.loadAt t (.pointer (some ⟨b,o,none⟩))).run P w = .ok v w:=by
  have ho:o < c.size:=by
    rcases Nat.lt_or_ge o c.size with q | q
    · exact q
    · rw [Array.getElem?_eq_none q] at hv; cases hv
  have:=run_loadVar k hb (show o + (Ty.slice e u).size ≤ c.size from ho)
  simp only [Instr.loadAt,Sem.run_bind,run_sureAddr,Result.andThen_ok]
  rw [this]
  show Result.ok (((c.toList.drop o).take 1).headD undef) w = _
  congr 1
  have:c.toList.drop o = v :: c.toList.drop (o + 1):=by
    rw [List.drop_eq_getElem_cons (by simpa using ho)]
    congr 1
    rw [Array.getElem?_eq_getElem ho] at hv
    injection hv with hv
  rw [this]; rfl
theorem run_enter2 {a:Act} {w:World} {o:Oper} {c:Call} {kf:Nat} {x y z:Operand} {fn:Func} (hop:o.op = .call c) (hcal:c.callee = .value z) (hz:a.eval z = .func (.func kf) #[] #[]) (hargs:c.args.toList = [x,y])
    (f1:P.funcs[kf]? = some fn) (f2:fn.name ≠ "runtime.NumGoroutine") (f3:fn.body.isNone = false):(execOp a.eval o).run P w = .ok (.enter kf #[a.eval x,a.eval y]) w:=by
  have hargs:c.args.map a.eval = #[a.eval x,a.eval y]:=by apply Array.ext'; simp [hargs]
  simp only [execOp,hop,resolve,hcal,hz,Deferred.ofValue,invoke,callFunc,Sem.run_bind,Sem.run_pure,Result.andThen_ok,run_program,f1]
  rw [if_neg (by simpa using f2),if_neg (by simp [f3])]
  simp [hargs]
end
def callOf (o:Oper):Option Call:=match o.op with | .call c => some c | _ => none
def valOf (c:Callee):Option Operand:=match c with | .value z => some z | _ => none
def isF (f:Nat):Operand->Bool
  | .func g => Nat.beq g f
  | _ => false
theorem isF_ev {f:Nat} {x:Operand} (h:isF f x = true) (a:Act):a.eval x = .func (.func f) #[] #[]:=by
  unfold isF at h
  split at h
  · rw [Nat.eq_of_beq_eq_true h]; rfl
  · cases h
def opsIn (id:Nat):Code->Option (Array Oper)
  | .region j ops _ => bif Nat.beq j id then some ops else none
  | .seq a b => (match opsIn id a with | some x => some x | none => opsIn id b)
  | .cond _ a b => (match opsIn id a with | some x => some x | none => opsIn id b)
  | .block _ b => opsIn id b
  | .loop b => opsIn id b
  | _ => none
abbrev rows:Ty:=.slice 44 (.slice 2 i64)
abbrev G19h:Type:=Args [.v (.slice 2 i64),.v i64]->Option (Ress [.slice 2 i64,i64])
theorem wf_i {i:Int} (h0 : 0 ≤ i) (h1:i ≤ 1000000000000):(Lit.int .i64 i).wf = true:=by
  simp [Lit.wf,IntKind.min,IntKind.max,IntKind.bits,IntKind.signed]; omega
section
variable {w0:World} {ba:List Nat} {hd:Value} {g:G19h} {N:Nat} {y:List (List Int) × Int}
theorem rawSt {e:TypeId} {u:Ty} {L:List u.den} {a:Act} {w:World} {n:Nat} {f:Nat->Value} {k i:Int} (h:AtV n f a) (f0:f 0 = hd) (f1:f 1 = .int .i64 k) (f5:f 5 = .int .i64 i) (wk:(Lit.int .i64 k).wf = true) (wi:(Lit.int .i64 i).wf = true)
    (nst:Nst w0 ba e u hd L w):St ⟨n,true,hd⟩ w (fun _ => False) (gh0 w [] ba) (Env.get [(0,.val false [.fz (.slice e u) 0 true L]),(1,intE .i64 k),(5,intE .i64 i)]) a w where
  inv:=by
    refine ⟨Nat.le_refl _,fun b _ _ => rfl,fun b => ?_,fun b hb => ?_,fun b hb => ?_,fun b hb => absurd rfl hb,fun b hb => absurd rfl hb⟩
    · simp only [gh0]
      split
      · exact .inl rfl
      · exact .inr (.inl rfl)
    · simp only [gh0] at hb
      split at hb
      · cases hb
      · rename_i h; exact Nat.lt_of_not_le fun q => h (.inl q)
    · simp only [gh0] at hb
      split at hb
      · rename_i h; exact h
      · cases hb
  ent:=by
    intro s
    rw [h.at_]
    simp only [Env.get]
    cases q0:Nat.beq 0 s with
    | true =>
      have:=Nat.eq_of_beq_eq_true q0; subst this
      rw [cond_true,f0]
      obtain ⟨blk,bs,h1,h2,h3⟩:=nst.rd
      have hc:hd.cells = #[hd]:=by
        rcases h1 with ⟨p,q,_⟩ | ⟨_,_,_,_,_,q,_⟩ <;> rw [q] <;> rfl
      refine LeafB.val1 (l:=.fz (.slice e u) 0 true L) (bs:=blk.toList ++ bs) ⟨⟨hd,blk,bs,rfl,h1,rfl⟩,fun b hb => ?_,fun q => absurd rfl q,fun _ => ⟨fun q => absurd rfl q,fun _ _ _ => rfl⟩⟩ hc 0
      simp only [gh0]; rw [if_pos (.inr (h3 b hb))]
    | false =>
      rw [cond_false]
      cases q1:Nat.beq 1 s with
      | true =>
        have:=Nat.eq_of_beq_eq_true q1; subst this
        rw [cond_true,f1]; exact intE_sound wk
      | false =>
        rw [cond_false]
        cases q5:Nat.beq 5 s with
        | true =>
          have:=Nat.eq_of_beq_eq_true q5; subst this
          rw [cond_true,f5]; exact intE_sound wi
        | false => trivial
  sz:=⟨h.sz,fun _ => by rw [h.at_]; exact f0⟩
  df:=h.df
  os:=rfl
  tape:=Tp.refl
  output:=rfl
theorem St.atV {W:Nat->Prop} {n:NS} {w w':World} {gg:Gh} {env:Nat->Ent} {a:Act} (st:St n w W gg env a w'):AtV n.n (fun s => a.tmps.getD s Go.undef) a:=⟨st.sz.1,st.df,fun _ => rfl⟩
theorem Nst.of_St {e:TypeId} {u:Ty} {L:List u.den} {n:NS} {w w':World} {gg:Gh} {env:Nat->Ent} {a:Act} (h:Nst w0 ba e u hd L w) (st:St n w (fun _ => False) gg env a w'):Nst w0 ba e u hd L w' :=
  h.ext st.os st.tape st.output st.inv.size fun b hb => st.inv.old b hb (fun q => q)
def mu28 (N:Nat) (a:Act):Nat:=match a.tmps.getD 5 undef with | .int _ i => (N - i).toNat | _ => 0
end
abbrev polys:Ty:=.slice 34 poly
abbrev R27h:Type:=Ress [polys,i64]
abbrev G27h:Type:=Args [.v polys,.v i64]->Option R27h
abbrev G70h:Type:=Args [.v (.slice 135 term),.v i64]->Option (Ress [.slice 135 term,i64])
noncomputable def o27 (i:Nat):Array Oper:=match opsIn i (bodyOf Tryz.f40) with | some x => x | none => #[]
noncomputable def in27:Code:=.seq (.region 4 (o27 4) false) (.seq (.region 5 (o27 5) false) (.seq (.region 6 (o27 6) false) (.seq (.region 7 (o27 7) false) (.region 8 (o27 8) false))))
noncomputable def loop27:Code:=.seq (.seq (.region 2 (o27 2) false) (.cond (.tmp 9) .skip (.exit 0))) (.seq (.block 1 in27) (.region 3 (o27 3) false))
theorem sk27:Tryz.f40.body = some (.seq (.region 0 (o27 0) false) (.seq (.seq (.region 1 (o27 1) false) (.block 0 (.loop loop27))) (.seq (.region 9 (o27 9) false) .ret))):=by kernel_rfl
theorem nt27:Tryz.f40.ntmps = 34:=by kernel_rfl
theorem rs27:Tryz.f40.results.toList = [.tmp 4]:=by kernel_rfl
def wr1 (k:Int):Int:=IntKind.i64.wrap (k + 1)
def E27 (L:polys.den) (k:Int) (i:Int):Env:=[(0,.val false [.fz polys 0 true L]),(1,intE .i64 k),(5,intE .i64 i)]
theorem e27a (L:polys.den) (k:Int):evL TT [] [] [] (.region 0 (o27 0) false) (initEnv 0 [.v polys,.v i64] (L,k,())) (fun e => some (keepK [0,1] e)) (fun _ _ => none) (fun _ => none) =
    some [(0,.val false [.fz polys 0 true L]),(1,intE .i64 k)]:=by kernel_rfl
theorem e27b (L:polys.den) (k:Int):evL TT [] [] [] (.region 1 (o27 1) false) [(0,.val false [.fz polys 0 true L]),(1,intE .i64 k)] (fun e => some (keepK [0,1,5] e)) (fun _ _ => none) (fun _ => none) =
    some (E27 L k 0):=by kernel_rfl
theorem e27c (L:polys.den) (k i:Int):evL TT [] [] [] (.region 2 (o27 2) false) (E27 L k i) (fun e => some (keepK [0,1,5,9] e)) (fun _ _ => none) (fun _ => none) =
    bif decide (L.length ≤ 9223372036854775807) then some (E27 L k i ++ [(9,boolE (decide (i < Int.ofNat L.length)))]) else none:=by kernel_rfl
theorem e27d (L:polys.den) (k i:Int):evL TT [] [] [] (.region 3 (o27 3) false) (E27 L k i) (fun e => some (keepK [0,1,5] e)) (fun _ _ => none) (fun _ => none) =
    some (E27 L k (IntKind.i64.wrap (i + 1))):=by kernel_rfl
theorem e27f (L:polys.den) (k i:Int):evL TT [] [] [] (.region 5 (o27 5) false) (E27 L k i) (fun e => some (keepK [0,1,5] e)) (fun _ _ => none) (fun _ => none) =
    some (E27 L (wr1 k) i):=by kernel_rfl
theorem e27g (L:polys.den) (k i:Int):evL TT [] [] [] (.region 7 (o27 7) false) (E27 L k i) (fun e => some (keepK [0,1,5] e)) (fun _ _ => none) (fun _ => none) =
    some (E27 L (wr1 k) i):=by kernel_rfl
theorem e27e (L:polys.den) (k i:Int):evL TT [] [] [] (.region 9 (o27 9) false) (E27 L k i) (fun e => some (keepK [0,1,4] e)) (fun _ _ => none) (fun _ => none) =
    some [(0,.val false [.fz polys 0 true L]),(1,intE .i64 k),(4,intE .i64 k)]:=by kernel_rfl
theorem oc27 (i:Nat) (hi:i = 0 ∨ i = 1 ∨ i = 2 ∨ i = 3 ∨ i = 5 ∨ i = 7 ∨ i = 9) (v0:Value):okCode ⟨34,true,v0⟩ (.region i (o27 i) false) = true:=by
  rcases hi with rfl | rfl | rfl | rfl | rfl | rfl | rfl <;> kernel_rfl
theorem rg27_4:List.range (o27 4).size = [0,1,2,3,4,5]:=by kernel_rfl
theorem q27_4_0:∃ o,(o27 4)[0]? = some o ∧ o.op = .move (.tmp 0) ∧ o.dst = some 12 ∧ o.guard = none:=⟨((o27 4)[0]?).get (by kernel_rfl),(Option.some_get _).symm,by kernel_rfl,by kernel_rfl,by kernel_rfl⟩
theorem q27_4_1:∃ o,(o27 4)[1]? = some o ∧ o.op = .move (.tmp 5) ∧ o.dst = some 13 ∧ o.guard = none:=⟨((o27 4)[1]?).get (by kernel_rfl),(Option.some_get _).symm,by kernel_rfl,by kernel_rfl,by kernel_rfl⟩
theorem q27_4_2:∃ o,(o27 4)[2]? = some o ∧ o.op = .move (.tmp 1) ∧ o.dst = some 14 ∧ o.guard = none:=⟨((o27 4)[2]?).get (by kernel_rfl),(Option.some_get _).symm,by kernel_rfl,by kernel_rfl,by kernel_rfl⟩
theorem q27_4_3:∃ o,(o27 4)[3]? = some o ∧ o.op = .indexAddr 30 (.tmp 12) (.tmp 13) ∧ o.dst = some 15 ∧ o.guard = none:=⟨((o27 4)[3]?).get (by kernel_rfl),(Option.some_get _).symm,by kernel_rfl,by kernel_rfl,by kernel_rfl⟩
theorem q27_4_4:∃ o,(o27 4)[4]? = some o ∧ o.op = .fieldAddr 34 (.tmp 15) 0 ∧ o.dst = some 16 ∧ o.guard = none:=⟨((o27 4)[4]?).get (by kernel_rfl),(Option.some_get _).symm,by kernel_rfl,by kernel_rfl,by kernel_rfl⟩
theorem q27_4_5:∃ o,(o27 4)[5]? = some o ∧ o.op = .store 2 (.tmp 16) (.tmp 14) ∧ o.dst = none ∧ o.guard = none:=⟨((o27 4)[5]?).get (by kernel_rfl),(Option.some_get _).symm,by kernel_rfl,by kernel_rfl,by kernel_rfl⟩
theorem rg27_6:List.range (o27 6).size = [0,1,2,3,4,5]:=by kernel_rfl
theorem q27_6_0:∃ o,(o27 6)[0]? = some o ∧ o.op = .move (.tmp 0) ∧ o.dst = some 19 ∧ o.guard = none:=⟨((o27 6)[0]?).get (by kernel_rfl),(Option.some_get _).symm,by kernel_rfl,by kernel_rfl,by kernel_rfl⟩
theorem q27_6_1:∃ o,(o27 6)[1]? = some o ∧ o.op = .move (.tmp 5) ∧ o.dst = some 20 ∧ o.guard = none:=⟨((o27 6)[1]?).get (by kernel_rfl),(Option.some_get _).symm,by kernel_rfl,by kernel_rfl,by kernel_rfl⟩
theorem q27_6_2:∃ o,(o27 6)[2]? = some o ∧ o.op = .move (.tmp 1) ∧ o.dst = some 21 ∧ o.guard = none:=⟨((o27 6)[2]?).get (by kernel_rfl),(Option.some_get _).symm,by kernel_rfl,by kernel_rfl,by kernel_rfl⟩
theorem q27_6_3:∃ o,(o27 6)[3]? = some o ∧ o.op = .indexAddr 30 (.tmp 19) (.tmp 20) ∧ o.dst = some 22 ∧ o.guard = none:=⟨((o27 6)[3]?).get (by kernel_rfl),(Option.some_get _).symm,by kernel_rfl,by kernel_rfl,by kernel_rfl⟩
theorem q27_6_4:∃ o,(o27 6)[4]? = some o ∧ o.op = .fieldAddr 34 (.tmp 22) 1 ∧ o.dst = some 23 ∧ o.guard = none:=⟨((o27 6)[4]?).get (by kernel_rfl),(Option.some_get _).symm,by kernel_rfl,by kernel_rfl,by kernel_rfl⟩
theorem q27_6_5:∃ o,(o27 6)[5]? = some o ∧ o.op = .store 2 (.tmp 23) (.tmp 21) ∧ o.dst = none ∧ o.guard = none:=⟨((o27 6)[5]?).get (by kernel_rfl),(Option.some_get _).symm,by kernel_rfl,by kernel_rfl,by kernel_rfl⟩
theorem rg27_8:List.range (o27 8).size = [0,1,2,3,4,5,6,7]:=by kernel_rfl
theorem q27_8_0:∃ o,(o27 8)[0]? = some o ∧ o.op = .move (.tmp 0) ∧ o.dst = some 26 ∧ o.guard = none:=⟨((o27 8)[0]?).get (by kernel_rfl),(Option.some_get _).symm,by kernel_rfl,by kernel_rfl,by kernel_rfl⟩
theorem q27_8_1:∃ o,(o27 8)[1]? = some o ∧ o.op = .move (.tmp 5) ∧ o.dst = some 27 ∧ o.guard = none:=⟨((o27 8)[1]?).get (by kernel_rfl),(Option.some_get _).symm,by kernel_rfl,by kernel_rfl,by kernel_rfl⟩
theorem q27_8_2:∃ o,(o27 8)[2]? = some o ∧ o.op = .indexAddr 30 (.tmp 26) (.tmp 27) ∧ o.dst = some 28 ∧ o.guard = none:=⟨((o27 8)[2]?).get (by kernel_rfl),(Option.some_get _).symm,by kernel_rfl,by kernel_rfl,by kernel_rfl⟩
theorem q27_8_3:∃ o,(o27 8)[3]? = some o ∧ o.op = .fieldAddr 34 (.tmp 28) 2 ∧ o.dst = some 29 ∧ o.guard = none:=⟨((o27 8)[3]?).get (by kernel_rfl),(Option.some_get _).symm,by kernel_rfl,by kernel_rfl,by kernel_rfl⟩
theorem q27_8_4:∃ o,(o27 8)[4]? = some o ∧ o.op = .load 32 (.tmp 29) ∧ o.dst = some 30 ∧ o.guard = none:=⟨((o27 8)[4]?).get (by kernel_rfl),(Option.some_get _).symm,by kernel_rfl,by kernel_rfl,by kernel_rfl⟩
theorem q27_8_5:∃ o,(o27 8)[5]? = some o ∧ o.op = .move (.tmp 1) ∧ o.dst = some 31 ∧ o.guard = none:=⟨((o27 8)[5]?).get (by kernel_rfl),(Option.some_get _).symm,by kernel_rfl,by kernel_rfl,by kernel_rfl⟩
theorem q27_8_7:∃ o,(o27 8)[7]? = some o ∧ o.op = .assign (.tmp 32) ∧ o.dst = some 1 ∧ o.guard = none:=⟨((o27 8)[7]?).get (by kernel_rfl),(Option.some_get _).symm,by kernel_rfl,by kernel_rfl,by kernel_rfl⟩
noncomputable def o27_6:Oper:=((o27 8)[6]?).get (by kernel_rfl)
noncomputable def c27_6:Call:=(callOf o27_6).get (by kernel_rfl)
noncomputable def z27_6:Operand:=(valOf c27_6.callee).get (by kernel_rfl)
theorem q27_8_6:∃ o c z,(o27 8)[6]? = some o ∧ o.op = .call c ∧ c.callee = .value z ∧ isF 110 z = true ∧ c.args.toList = [.tmp 30,.tmp 31] ∧ o.dst = some 32 ∧ o.guard = none :=
  ⟨o27_6,c27_6,z27_6,(Option.some_get _).symm,by kernel_rfl,by kernel_rfl,by kernel_rfl,by kernel_rfl,by kernel_rfl,by kernel_rfl⟩
theorem rdPoly {h:Mem} {x:poly.den} {cs:List Value} {be:List Nat}:Rd h poly x cs be ↔ ∃ hdT,cs = [.int .i64 x.1,.int .i64 x.2.1,hdT] ∧ (Lit.int .i64 x.1).wf = true ∧ (Lit.int .i64 x.2.1).wf = true ∧ Rd h (.slice 135 term) x.2.2.1 [hdT] be:=by
  constructor
  · intro hr
    have hl:cs.length = 3:=hr.length
    match cs,hl,hr with
    | [a,b,c],_,hr =>
      obtain ⟨b1,b2,⟨p1,p2,p3⟩,⟨b3,b4,⟨q1,q2,q3⟩,⟨b5,b6,r1,⟨r2,r3⟩,r4⟩,q4⟩,p4⟩:=hr
      subst p3; subst q3; subst r3; subst r4; subst q4; subst p4
      have p1 : [a] = [Value.int .i64 x.1]:=p1
      have q1 : [b] = [Value.int .i64 x.2.1]:=q1
      injection p1 with p1 _
      injection q1 with q1 _
      refine ⟨c,by rw [p1,q1],p2,q2,?_⟩
      simp only [List.nil_append,List.append_nil]
      exact r1
  · rintro ⟨c,rfl,h1,h2,h3⟩
    exact ⟨[],be,⟨rfl,h1,rfl⟩,⟨[],be,⟨rfl,h2,rfl⟩,⟨be,[],h3,⟨rfl,rfl⟩,by simp⟩,rfl⟩,rfl⟩
def setF (j:Nat) (x:poly.den) (k:Int):poly.den:=if j = 0 then (k,x.2) else (x.1,k,x.2.2)
section
variable {w0:World} {ba:List Nat} {hd:Value} {g:G70h} {N:Nat} {y:List poly.den × Int}
theorem Nst.wrInt {w:World} {pre suf:List poly.den} {x:poly.den} {k:Int} {j:Nat} (hj:j = 0 ∨ j = 1) (h:Nst w0 ba 34 poly hd (pre ++ x :: suf) w) (wk:(Lit.int .i64 k).wf = true) :
    ∃ b o cap c e',hd = .slice (some ⟨b,o,none⟩) (pre ++ x :: suf).length cap ∧ w.heap[b]? = some (.cells c e' (0,0)) ∧ o + pre.length * 3 + 3 ≤ c.size ∧
      Nst w0 ba 34 poly hd (pre ++ setF j x k :: suf) (w.setRow b (splice c.toList (o + pre.length * 3 + j) [.int .i64 k]).toArray):=by
  obtain ⟨b,o,cap,c,e',be,r1,r2,r3,r4,r5,r6,r7,r8,fin⟩:=h.elem (by decide)
  have three:(poly).size = 3:=rfl
  rw [three] at r3 r4
  refine ⟨b,o,cap,c,e',r1,r2,r3,?_⟩
  have hin:o + pre.length * 3 + j + [Value.int .i64 k].length ≤ c.toList.length:=by simp; omega
  have hsl:=splice_length c.toList (o + pre.length * 3 + j) [.int .i64 k] hin
  have hsg:=splice_get c.toList (o + pre.length * 3 + j) [.int .i64 k] hin
  have hb':=setRow_heap w b c (splice c.toList (o + pre.length * 3 + j) [.int .i64 k]).toArray e' (0,0) r2
  have hoth:∀ z,z ≠ b->(w.setRow b (splice c.toList (o + pre.length * 3 + j) [.int .i64 k]).toArray).heap[z]? = w.heap[z]?:=fun z hz => setRow_other w b z _ hz
  have ltb:∀ z ∈ be,z ≠ b:=fun z hz q => r7 (q ▸ hz)
  refine fin _ (setF j x k) _ be hb' (by simpa using hsl) (fun i hi => ?_) ?_ r5 (fun z hz => hz) rfl ⟨rfl,Nat.le_refl _⟩ rfl (by simp [World.setRow]) (fun z _ _ hz => hoth z hz) (fun z hz => by rw [hoth z (ltb z hz)]; exact h.wr z (r6 z hz))
  · rw [three] at hi
    rw [List.getElem?_toArray,hsg,if_neg (by simp; omega),Array.getElem?_toList]
  · rw [three]
    obtain ⟨hdT,c1,c2,c3,c4⟩:=rdPoly.1 r4
    have at_:∀ i,i < 3->c[o + pre.length * 3 + i]? = ([Value.int .i64 x.1,Value.int .i64 x.2.1,hdT]:List Value)[i]?:=fun i hi => by
      rw [← c1,List.getElem?_take_of_lt hi,List.getElem?_drop,Array.getElem?_toList]
    have c4':Rd (w.setRow b (splice c.toList (o + pre.length * 3 + j) [.int .i64 k]).toArray).heap (.slice 135 term) x.2.2.1 [hdT] be:=c4.frame fun z hz => hoth z (ltb z hz)
    have cells:((splice c.toList (o + pre.length * 3 + j) [.int .i64 k]).toArray.toList.drop (o + pre.length * 3)).take 3 = [.int .i64 (setF j x k).1,.int .i64 (setF j x k).2.1,hdT]:=by
      apply List.ext_getElem?
      intro i
      by_cases hi:i < 3
      · rw [List.getElem?_take_of_lt hi,List.getElem?_drop,List.toList_toArray,hsg]
        have a0:=at_ i hi
        rw [← Array.getElem?_toList] at a0
        rcases hj with rfl | rfl
        · match i,hi with
          | 0,_ => rw [if_pos (by simp only [List.length_singleton]; omega)]; simp [setF]
          | 1,_ => rw [if_neg (by simp only [List.length_singleton]; omega),a0]; simp [setF]
          | 2,_ => rw [if_neg (by simp only [List.length_singleton]; omega),a0]; simp [setF]
        · match i,hi with
          | 0,_ => rw [if_neg (by simp only [List.length_singleton]; omega),a0]; simp [setF]
          | 1,_ => rw [if_pos (by simp only [List.length_singleton]; omega)]; simp [setF]
          | 2,_ => rw [if_neg (by simp only [List.length_singleton]; omega),a0]; simp [setF]
      · rw [List.getElem?_eq_none (by simp; omega),List.getElem?_eq_none (by simp; omega)]
    refine rdPoly.2 ⟨hdT,cells,?_,?_,?_⟩
    · rcases hj with rfl | rfl
      · exact wk
      · exact c2
    · rcases hj with rfl | rfl
      · exact c3
      · exact wk
    · rcases hj with rfl | rfl <;> exact c4'
theorem run_storeI {w:World} {b o:Nat} {c:Array Value} {e:TypeId} {k:Int} (hb:w.heap[b]? = some (.cells c e (0,0))) (ho:o < c.size) :
    (Instr.storeAt 2 (.pointer (some ⟨b,o,none⟩)) (.int .i64 k)).run Tryz.prog w = .ok () (w.setRow b (splice c.toList o [.int .i64 k]).toArray) :=
  run_storeVar (tt_ok 2 i64 (by kernel_rfl)) hb rfl (fun u hu => by simp [Value.cells] at hu; subst hu; rfl) ho
theorem reg27_4 {a:Act} {w:World} {pre suf:List poly.den} {x:poly.den} {k:Int} {f:Nat->Value} {Q:Exit->Act->World->Prop} (hA:AtV 34 f a) (f0:f 0 = hd) (f1:f 1 = .int .i64 k) (f5:f 5 = .int .i64 pre.length) (wk:(Lit.int .i64 k).wf = true)
    (h:Nst w0 ba 34 poly hd (pre ++ x :: suf) w) (hQ:∀ a' w' f',AtV 34 f' a'->f' 0 = hd->f' 1 = .int .i64 k->f' 5 = .int .i64 pre.length->Nst w0 ba 34 poly hd (pre ++ setF 0 x k :: suf) w'->Q .normal a' w'):(Code.region 4 (o27 4) false).wp Tryz.prog Q a w:=by
  obtain ⟨b,o,cap,c,e',r1,r2,r3,n2⟩:=h.wrInt (j:=0) (by simp) wk
  refine wp_region ?_
  rw [rg27_4]
  obtain ⟨o0,o0a,o0b,o0c,o0d⟩:=q27_4_0
  obtain ⟨o1,o1a,o1b,o1c,o1d⟩:=q27_4_1
  obtain ⟨o2,o2a,o2b,o2c,o2d⟩:=q27_4_2
  obtain ⟨o3,o3a,o3b,o3c,o3d⟩:=q27_4_3
  obtain ⟨o4,o4a,o4b,o4c,o4d⟩:=q27_4_4
  obtain ⟨o5,o5a,o5b,o5c,o5d⟩:=q27_4_5
  refine wpOps_cons o0a o0d (upon_val (v:=hd) (w':=w) (by simp only [execOp,o0b,show a.eval (.tmp 0) = hd from hA.ev.trans f0,Sem.run_pure]) ?_)
  rw [o0c]
  have p1:=hA.put (d:=12) (by omega) hd
  generalize a.put (some 12) hd = a2 at p1 ⊢
  refine wpOps_cons o1a o1d (upon_val (v:=.int .i64 pre.length) (w':=w) (by simp only [execOp,o1b,show a2.eval (.tmp 5) = .int .i64 pre.length from p1.ev.trans f5,Sem.run_pure]) ?_)
  rw [o1c]
  have p2:=p1.put (d:=13) (by omega) (.int .i64 pre.length)
  generalize a2.put (some 13) (.int .i64 pre.length) = a3 at p2 ⊢
  refine wpOps_cons o2a o2d (upon_val (v:=.int .i64 k) (w':=w) (by simp only [execOp,o2b,show a3.eval (.tmp 1) = .int .i64 k from p2.ev.trans f1,Sem.run_pure]) ?_)
  rw [o2c]
  have p3:=p2.put (d:=14) (by omega) (.int .i64 k)
  generalize a3.put (some 14) (.int .i64 k) = a4 at p3 ⊢
  have ri:=run_indexS (P:=Tryz.prog) tt_ok (tt_ok 30 polys (by kernel_rfl)) (w:=w) (b:=b) (o:=o) (m:=(pre ++ x :: suf).length) (cap:=cap) (kk:=.i64) (i:=pre.length) (by simp)
  rw [show (poly).size = 3 from rfl,← r1] at ri
  refine wpOps_cons o3a o3d (upon_val (v:=.pointer (some ⟨b,o + pre.length * 3,none⟩)) (w':=w) (by
    simp only [execOp,o3b,show a4.eval (.tmp 12) = hd from p3.ev,show a4.eval (.tmp 13) = .int .i64 pre.length from p3.ev,Sem.run_bind,ri,Result.andThen_ok,Sem.run_pure]) ?_)
  rw [o3c]
  have p4:=p3.put (d:=15) (by omega) (.pointer (some ⟨b,o + pre.length * 3,none⟩))
  generalize a4.put (some 15) (.pointer (some ⟨b,o + pre.length * 3,none⟩)) = a5 at p4 ⊢
  have rf:=run_fieldAt (P:=Tryz.prog) (w:=w) (b:=b) (o:=o + pre.length * 3) (j:=0) (u:=i64) tt_ok (tt_ok 34 poly (by kernel_rfl)) rfl rfl
  rw [show poff poly [.fld 0] = 0 from rfl] at rf
  refine wpOps_cons o4a o4d (upon_val (v:=.pointer (some ⟨b,o + pre.length * 3 + 0,none⟩)) (w':=w) (by
    simp only [execOp,o4b,show a5.eval (.tmp 15) = .pointer (some ⟨b,o + pre.length * 3,none⟩) from p4.ev,Sem.run_bind,rf,Result.andThen_ok,Sem.run_pure]) ?_)
  rw [o4c]
  have p5:=p4.put (d:=16) (by omega) (.pointer (some ⟨b,o + pre.length * 3 + 0,none⟩))
  generalize a5.put (some 16) (.pointer (some ⟨b,o + pre.length * 3 + 0,none⟩)) = a6 at p5 ⊢
  have rs:=run_storeI (w:=w) (b:=b) (o:=o + pre.length * 3 + 0) (k:=k) r2 (by omega)
  refine wpOps_cons o5a o5d (upon_skip (w':=w.setRow b (splice c.toList (o + pre.length * 3 + 0) [.int .i64 k]).toArray) (by
    simp only [execOp,o5b,show a6.eval (.tmp 16) = .pointer (some ⟨b,o + pre.length * 3 + 0,none⟩) from p5.ev,show a6.eval (.tmp 14) = .int .i64 k from p5.ev,Sem.run_bind,rs,Result.andThen_ok,Sem.run_pure]) ?_)
  rw [o5c]
  exact hQ a6 _ _ p5 (show _ = hd from f0) (show _ = Value.int .i64 k from f1) (show _ = Value.int .i64 (pre.length:Int) from f5) n2
theorem reg27_6 {a:Act} {w:World} {pre suf:List poly.den} {x:poly.den} {k:Int} {f:Nat->Value} {Q:Exit->Act->World->Prop} (hA:AtV 34 f a) (f0:f 0 = hd) (f1:f 1 = .int .i64 k) (f5:f 5 = .int .i64 pre.length) (wk:(Lit.int .i64 k).wf = true)
    (h:Nst w0 ba 34 poly hd (pre ++ x :: suf) w) (hQ:∀ a' w' f',AtV 34 f' a'->f' 0 = hd->f' 1 = .int .i64 k->f' 5 = .int .i64 pre.length->Nst w0 ba 34 poly hd (pre ++ setF 1 x k :: suf) w'->Q .normal a' w'):(Code.region 6 (o27 6) false).wp Tryz.prog Q a w:=by
  obtain ⟨b,o,cap,c,e',r1,r2,r3,n2⟩:=h.wrInt (j:=1) (by simp) wk
  refine wp_region ?_
  rw [rg27_6]
  obtain ⟨o0,o0a,o0b,o0c,o0d⟩:=q27_6_0
  obtain ⟨o1,o1a,o1b,o1c,o1d⟩:=q27_6_1
  obtain ⟨o2,o2a,o2b,o2c,o2d⟩:=q27_6_2
  obtain ⟨o3,o3a,o3b,o3c,o3d⟩:=q27_6_3
  obtain ⟨o4,o4a,o4b,o4c,o4d⟩:=q27_6_4
  obtain ⟨o5,o5a,o5b,o5c,o5d⟩:=q27_6_5
  refine wpOps_cons o0a o0d (upon_val (v:=hd) (w':=w) (by simp only [execOp,o0b,show a.eval (.tmp 0) = hd from hA.ev.trans f0,Sem.run_pure]) ?_)
  rw [o0c]
  have p1:=hA.put (d:=19) (by omega) hd
  generalize a.put (some 19) hd = a2 at p1 ⊢
  refine wpOps_cons o1a o1d (upon_val (v:=.int .i64 pre.length) (w':=w) (by simp only [execOp,o1b,show a2.eval (.tmp 5) = .int .i64 pre.length from p1.ev.trans f5,Sem.run_pure]) ?_)
  rw [o1c]
  have p2:=p1.put (d:=20) (by omega) (.int .i64 pre.length)
  generalize a2.put (some 20) (.int .i64 pre.length) = a3 at p2 ⊢
  refine wpOps_cons o2a o2d (upon_val (v:=.int .i64 k) (w':=w) (by simp only [execOp,o2b,show a3.eval (.tmp 1) = .int .i64 k from p2.ev.trans f1,Sem.run_pure]) ?_)
  rw [o2c]
  have p3:=p2.put (d:=21) (by omega) (.int .i64 k)
  generalize a3.put (some 21) (.int .i64 k) = a4 at p3 ⊢
  have ri:=run_indexS (P:=Tryz.prog) tt_ok (tt_ok 30 polys (by kernel_rfl)) (w:=w) (b:=b) (o:=o) (m:=(pre ++ x :: suf).length) (cap:=cap) (kk:=.i64) (i:=pre.length) (by simp)
  rw [show (poly).size = 3 from rfl,← r1] at ri
  refine wpOps_cons o3a o3d (upon_val (v:=.pointer (some ⟨b,o + pre.length * 3,none⟩)) (w':=w) (by
    simp only [execOp,o3b,show a4.eval (.tmp 19) = hd from p3.ev,show a4.eval (.tmp 20) = .int .i64 pre.length from p3.ev,Sem.run_bind,ri,Result.andThen_ok,Sem.run_pure]) ?_)
  rw [o3c]
  have p4:=p3.put (d:=22) (by omega) (.pointer (some ⟨b,o + pre.length * 3,none⟩))
  generalize a4.put (some 22) (.pointer (some ⟨b,o + pre.length * 3,none⟩)) = a5 at p4 ⊢
  have rf:=run_fieldAt (P:=Tryz.prog) (w:=w) (b:=b) (o:=o + pre.length * 3) (j:=1) (u:=i64) tt_ok (tt_ok 34 poly (by kernel_rfl)) rfl rfl
  rw [show poff poly [.fld 1] = 1 from rfl] at rf
  refine wpOps_cons o4a o4d (upon_val (v:=.pointer (some ⟨b,o + pre.length * 3 + 1,none⟩)) (w':=w) (by
    simp only [execOp,o4b,show a5.eval (.tmp 22) = .pointer (some ⟨b,o + pre.length * 3,none⟩) from p4.ev,Sem.run_bind,rf,Result.andThen_ok,Sem.run_pure]) ?_)
  rw [o4c]
  have p5:=p4.put (d:=23) (by omega) (.pointer (some ⟨b,o + pre.length * 3 + 1,none⟩))
  generalize a5.put (some 23) (.pointer (some ⟨b,o + pre.length * 3 + 1,none⟩)) = a6 at p5 ⊢
  have rs:=run_storeI (w:=w) (b:=b) (o:=o + pre.length * 3 + 1) (k:=k) r2 (by omega)
  refine wpOps_cons o5a o5d (upon_skip (w':=w.setRow b (splice c.toList (o + pre.length * 3 + 1) [.int .i64 k]).toArray) (by
    simp only [execOp,o5b,show a6.eval (.tmp 23) = .pointer (some ⟨b,o + pre.length * 3 + 1,none⟩) from p5.ev,show a6.eval (.tmp 21) = .int .i64 k from p5.ev,Sem.run_bind,rs,Result.andThen_ok,Sem.run_pure]) ?_)
  rw [o5c]
  exact hQ a6 _ _ p5 (show _ = hd from f0) (show _ = Value.int .i64 k from f1) (show _ = Value.int .i64 (pre.length:Int) from f5) n2
end
def foldM27 (g:G70h):List poly.den->Int->Option (List poly.den × Int)
  | [],k => some ([],k)
  | x :: r,k => match g (x.2.2.1,wr1 (wr1 k),()) with
    | some y => (match foldM27 g r y.2.1 with | some z => some ((k,wr1 k,y.1,()) :: z.1,z.2) | none => none)
    | none => none
structure I27 (w0:World) (ba:List Nat) (hd:Value) (g:G70h) (N:Nat) (y:List poly.den × Int) (a:Act) (w:World) (pre suf:List poly.den) (k:Int) (f:Nat->Value):Prop where
  at_:AtV 34 f a
  f0:f 0 = hd
  f1:f 1 = .int .i64 k
  f5:f 5 = .int .i64 pre.length
  wk:(Lit.int .i64 k).wf = true
  nst:Nst w0 ba 34 poly hd (pre ++ suf) w
  len:(pre ++ suf).length = N
  run:∃ z,foldM27 g suf k = some z ∧ (pre ++ z.1,z.2) = y
section
variable {w0:World} {ba:List Nat} {hd:Value} {g:G70h} {N:Nat} {y:List poly.den × Int}
theorem reg27_8 {a:Act} {w:World} {pre suf:List poly.den} {x:poly.den} {k:Int} {f:Nat->Value} {yx:Ress [.slice 135 term,i64]} {Q:Exit->Act->World->Prop} (k70:KOne Tryz.prog 110 ⟨[.v (.slice 135 term),.v i64],[.slice 135 term,i64],false,false,1,g⟩)
    (hA:AtV 34 f a) (f0:f 0 = hd) (f1:f 1 = .int .i64 k) (f5:f 5 = .int .i64 pre.length) (wk:(Lit.int .i64 k).wf = true)
    (n1:Nst w0 ba 34 poly hd (pre ++ x :: suf) w) (hyx:g (x.2.2.1,k,()) = some yx)
    (hQ:∀ a' w' f',AtV 34 f' a'->f' 0 = hd->f' 1 = .int .i64 yx.2.1->f' 5 = .int .i64 pre.length->(Lit.int .i64 yx.2.1).wf = true->Nst w0 ba 34 poly hd (pre ++ (x.1,x.2.1,yx.1,()) :: suf) w'->Q .normal a' w'):(Code.region 8 (o27 8) false).wp Tryz.prog Q a w:=by
  obtain ⟨b,o,cap,c,e',be,r1,r2,r3,r4,r5,r6,r7,r8,fin⟩:=n1.elem (by decide)
  have three:(poly).size = 3:=rfl
  rw [three] at r3 r4
  obtain ⟨v,c1,c2,c3,c4⟩:=rdPoly.1 r4
  have v4:=c4
  obtain ⟨v',blkv,bsv,v1,v2,v3⟩:=v4
  injection v1 with v1 _
  subst v1
  have hcv:c[o + pre.length * 3 + 2]? = some v:=by
    have:((c.toList.drop (o + pre.length * 3)).take 3)[2]? = some v:=by rw [c1]; rfl
    rw [List.getElem?_take_of_lt (by omega),List.getElem?_drop,Array.getElem?_toList] at this
    exact this
  refine wp_region ?_
  rw [rg27_8]
  obtain ⟨o0,o0a,o0b,o0c,o0d⟩:=q27_8_0
  obtain ⟨o1,o1a,o1b,o1c,o1d⟩:=q27_8_1
  obtain ⟨o2,o2a,o2b,o2c,o2d⟩:=q27_8_2
  obtain ⟨o3,o3a,o3b,o3c,o3d⟩:=q27_8_3
  obtain ⟨o4,o4a,o4b,o4c,o4d⟩:=q27_8_4
  obtain ⟨o5,o5a,o5b,o5c,o5d⟩:=q27_8_5
  obtain ⟨of,cf,zf,f1a,f1b,f1e,f1f,f1g,f1c,f1d⟩:=q27_8_6
  obtain ⟨o7,o7a,o7b,o7c,o7d⟩:=q27_8_7
  refine wpOps_cons o0a o0d (upon_val (v:=hd) (w':=w) (by simp only [execOp,o0b,show a.eval (.tmp 0) = hd from hA.ev.trans f0,Sem.run_pure]) ?_)
  rw [o0c]
  have p1:=hA.put (d:=26) (by omega) hd
  generalize a.put (some 26) hd = a2 at p1 ⊢
  refine wpOps_cons o1a o1d (upon_val (v:=.int .i64 pre.length) (w':=w) (by simp only [execOp,o1b,show a2.eval (.tmp 5) = .int .i64 pre.length from p1.ev.trans f5,Sem.run_pure]) ?_)
  rw [o1c]
  have p2:=p1.put (d:=27) (by omega) (.int .i64 pre.length)
  generalize a2.put (some 27) (.int .i64 pre.length) = a3 at p2 ⊢
  have ri:=run_indexS (P:=Tryz.prog) tt_ok (tt_ok 30 polys (by kernel_rfl)) (w:=w) (b:=b) (o:=o) (m:=(pre ++ x :: suf).length) (cap:=cap) (kk:=.i64) (i:=pre.length) (by simp)
  rw [three,← r1] at ri
  refine wpOps_cons o2a o2d (upon_val (v:=.pointer (some ⟨b,o + pre.length * 3,none⟩)) (w':=w) (by
    simp only [execOp,o2b,show a3.eval (.tmp 26) = hd from p2.ev,show a3.eval (.tmp 27) = .int .i64 pre.length from p2.ev,Sem.run_bind,ri,Result.andThen_ok,Sem.run_pure]) ?_)
  rw [o2c]
  have p3:=p2.put (d:=28) (by omega) (.pointer (some ⟨b,o + pre.length * 3,none⟩))
  generalize a3.put (some 28) (.pointer (some ⟨b,o + pre.length * 3,none⟩)) = a4 at p3 ⊢
  have rf:=run_fieldAt (P:=Tryz.prog) (w:=w) (b:=b) (o:=o + pre.length * 3) (j:=2) (u:=.slice 135 term) tt_ok (tt_ok 34 poly (by kernel_rfl)) rfl rfl
  rw [show poff poly [.fld 2] = 2 from rfl] at rf
  refine wpOps_cons o3a o3d (upon_val (v:=.pointer (some ⟨b,o + pre.length * 3 + 2,none⟩)) (w':=w) (by
    simp only [execOp,o3b,show a4.eval (.tmp 28) = .pointer (some ⟨b,o + pre.length * 3,none⟩) from p3.ev,Sem.run_bind,rf,Result.andThen_ok,Sem.run_pure]) ?_)
  rw [o3c]
  have p4:=p3.put (d:=29) (by omega) (.pointer (some ⟨b,o + pre.length * 3 + 2,none⟩))
  generalize a4.put (some 29) (.pointer (some ⟨b,o + pre.length * 3 + 2,none⟩)) = a5 at p4 ⊢
  have rl:=run_loadS (P:=Tryz.prog) (tt_ok 32 (.slice 135 term) (by kernel_rfl)) (w:=w) (b:=b) (o:=o + pre.length * 3 + 2) r2 hcv
  refine wpOps_cons o4a o4d (upon_val (v:=v) (w':=w) (by
    simp only [execOp,o4b,show a5.eval (.tmp 29) = .pointer (some ⟨b,o + pre.length * 3 + 2,none⟩) from p4.ev,Sem.run_bind,rl,Result.andThen_ok,Sem.run_pure]) ?_)
  rw [o4c]
  have p5:=p4.put (d:=30) (by omega) v
  generalize a5.put (some 30) v = a6 at p5 ⊢
  refine wpOps_cons o5a o5d (upon_val (v:=.int .i64 k) (w':=w) (by simp only [execOp,o5b,show a6.eval (.tmp 1) = .int .i64 k from p5.ev.trans f1,Sem.run_pure]) ?_)
  rw [o5c]
  have p6:=p5.put (d:=31) (by omega) (.int .i64 k)
  generalize a6.put (some 31) (.int .i64 k) = a7 at p6 ⊢
  obtain ⟨fn,h1,h2,h3⟩:=k70.fn
  refine wpOps_cons f1a f1d ?_
  unfold Oper.wp
  rw [run_enter2 f1b f1e (isF_ev f1f a7) f1g h1 h2 h3]
  simp only [Oper.upon]
  have e15:a7.eval (.tmp 30) = v:=p6.ev
  have e16:a7.eval (.tmp 31) = .int .i64 k:=p6.ev
  rw [e15,e16]
  have hcvv:v.cells = #[v]:=by
    rcases v2 with ⟨p,q,_⟩ | ⟨_,_,_,_,_,q,_⟩ <;> rw [q] <;> rfl
  have hone:OneV w.heap (.slice 135 term) x.2.2.1 v be:=⟨⟨v,blkv,bsv,by rw [hcvv],v2,v3⟩,fun q => (by cases q),fun _ => hcvv⟩
  have hav:ArgsV w.heap [.v (.slice 135 term),.v i64] (x.2.2.1,k,()) [v,.int .i64 k] be :=
    ⟨_,_,be,[],rfl,by simp,hone,_,_,[],[],rfl,rfl,one_int wk,rfl,rfl⟩
  have call:=k70.inp rfl (x.2.2.1,k,()) yx hyx w _ be hav r5 (fun b hb => n1.wr b (r6 b hb))
  refine call.mono ?_
  rintro ee w2 ⟨v0',rv,bf,z1,rfl,z2,⟨zn,zs⟩,z3,z4,z5,z6,z7,z8⟩
  simp only [List.head?_cons,Option.some.injEq] at z1
  subst z1
  obtain ⟨u1,ur,ub1,ub2,y1,y2,_,y3,y4⟩:=z2
  simp only [List.cons.injEq] at y1
  obtain ⟨y1a,y1b⟩:=y1
  subst y1a; subst y1b
  obtain ⟨u2,ur2,ub3,ub4,y5,y6,_,y7,y8⟩:=y3
  obtain ⟨y7a,y7b⟩:=y7
  subst y7a; subst y5; subst y7b; subst y8; subst y4
  have hk2:u2 = .int .i64 yx.2.1 ∧ (Lit.int .i64 yx.2.1).wf = true ∧ ub3 = []:=by
    obtain ⟨⟨c1,c2,c3⟩,_,c4⟩:=y6
    rw [c4 rfl] at c1
    exact ⟨by simpa using c1,c2,c3⟩
  obtain ⟨hk2,wk2,hb3⟩:=hk2
  subst hk2; subst hb3
  simp only [List.append_nil] at zn zs
  show wpOps _ _ _ _ _ _
  rw [f1c]
  show wpOps _ _ _ _ (a7.put (some 32) (.int .i64 yx.2.1)) _
  have p7:=p6.put (d:=32) (by omega) (.int .i64 yx.2.1)
  generalize a7.put (some 32) (.int .i64 yx.2.1) = a8 at p7 ⊢
  refine wpOps_cons o7a o7d (upon_val (v:=.int .i64 yx.2.1) (w':=w2) (by simp only [execOp,o7b,show a8.eval (.tmp 32) = .int .i64 yx.2.1 from p7.ev,Sem.run_pure]) ?_)
  rw [o7c]
  have p8:=p7.put (d:=1) (by omega) (.int .i64 yx.2.1)
  generalize a8.put (some 1) (.int .i64 yx.2.1) = a9 at p8 ⊢
  have hb2:w2.heap[b]? = some (.cells c e' (0,0)):=by
    rw [z7 b (Nat.lt_of_lt_of_le (n1.lt b r8) n1.size) r7]; exact r2
  have n2:Nst w0 ba 34 poly hd (pre ++ (x.1,x.2.1,yx.1,()) :: suf) w2:=by
    refine fin w2 (x.1,x.2.1,yx.1,()) c ub1 hb2 rfl (fun _ _ => rfl) ?_ zn zs z3 z4 z5 z6 (fun z hz hn _ => z7 z hz hn) z8
    rw [three,c1]
    obtain ⟨⟨hd3,blk3,bs3,w1',w2',w3'⟩,_,_⟩:=y2
    rw [hcvv] at w1'
    exact rdPoly.2 ⟨v,rfl,c2,c3,hd3,blk3,bs3,w1',w2',w3'⟩
  exact hQ a9 w2 _ p8 (show _ = hd from f0) (show _ = Value.int .i64 yx.2.1 from rfl) (show _ = Value.int .i64 (pre.length:Int) from f5) wk2 n2
theorem round27 {a:Act} {w:World} {pre suf:List poly.den} {k:Int} {f:Nat->Value} {Q:Exit->Act->World->Prop} (k70:KOne Tryz.prog 110 ⟨[.v (.slice 135 term),.v i64],[.slice 135 term,i64],false,false,1,g⟩) (hN:N ≤ 100000000)
    (I:I27 w0 ba hd g N y a w pre suf k f) (hQ:∀ a' w' f',AtV 34 f' a'->f' 0 = hd->f' 1 = .int .i64 y.2->(Lit.int .i64 y.2).wf = true->Nst w0 ba 34 poly hd y.1 w'->(∃ i,f' 5 = .int .i64 i ∧ (Lit.int .i64 i).wf = true)->Q (.exit 0) a' w') :
    loop27.wp Tryz.prog (Exit.then (fun a' w' => (∃ pre suf k f,I27 w0 ba hd g N y a' w' pre suf k f) ∧ mu28 N a' < mu28 N a) Q) a w:=by
  have hl:=I.len
  simp only [List.length_append] at hl
  have wi:(Lit.int .i64 (pre.length:Int)).wf = true:=wf_i (by omega) (by omega)
  have st:=rawSt I.at_ I.f0 I.f1 I.f5 I.wk wi I.nst
  have hlen:decide (List.length (pre ++ suf) ≤ 9223372036854775807) = true:=decide_eq_true (by rw [List.length_append]; omega)
  refine wp_seq (wp_seq (ev_wp (A:=fun b => b ∈ ba) (ks:=[0,1,5,9]) mixed tt_ok KOK.nil (fun b hb => (by cases hb)) (oc27 2 (by simp) hd) trivial ((e27c (pre ++ suf) k pre.length).trans (by rw [hlen]; rfl)) st rfl fun a1 w1 g1 st1 A1 => ?_))
  have t0:a1.tmps.getD 0 undef = hd:=st1.sz.2 rfl
  have t1:a1.tmps.getD 1 undef = .int .i64 k:=(asI_inv (st1.ent 1) rfl).1
  have t5:a1.tmps.getD 5 undef = .int .i64 pre.length:=(asI_inv (st1.ent 5) rfl).1
  have t9:a1.eval (.tmp 9) = .bool (decide ((pre.length:Int) < Int.ofNat (pre ++ suf).length)):=by
    have:EntR g1 w1.heap 9 (boolE (decide ((pre.length:Int) < Int.ofNat (pre ++ suf).length))) (a1.tmps.getD 9 undef):=st1.ent 9
    obtain ⟨bs4,hl4,_⟩:=val1 this
    obtain ⟨⟨z,_⟩,_⟩:=hl4
    injection z
  have n1:=I.nst.of_St st1
  have at1:AtV 34 _ a1:=st1.atV
  show Code.wp _ _ _ _ _
  cases suf with
  | nil =>
    have t9:a1.eval (.tmp 9) = .bool false:=by rw [t9]; congr 1; exact decide_eq_false (by simp)
    refine wp_cond (t:=false) t9 (wp_exit ?_)
    obtain ⟨z,hz,hy⟩:=I.run
    simp only [foldM27,Option.some.injEq] at hz
    subst hz
    subst hy
    rw [List.append_nil] at n1
    exact hQ a1 w1 _ at1 t0 t1 I.wk (by show Nst w0 ba 34 poly hd (pre ++ []) w1; rw [List.append_nil]; exact n1) ⟨_,t5,wi⟩
  | cons x suf =>
    have t9:a1.eval (.tmp 9) = .bool true:=by rw [t9]; congr 1; exact decide_eq_true (by simp; omega)
    refine wp_cond (t:=true) t9 (wp_skip ?_)
    show Code.wp _ _ _ _ _
    obtain ⟨z,hz,hy⟩:=I.run
    simp only [foldM27] at hz
    split at hz
    · rename_i yx hyx
      split at hz
      · rename_i zr hzr
        injection hz with hz; subst hz
        have w1k:(Lit.int .i64 (wr1 k)).wf = true:=wrap_wf _ _
        have w2k:(Lit.int .i64 (wr1 (wr1 k))).wf = true:=wrap_wf _ _
        refine wp_seq (wp_block (wp_seq (reg27_4 at1 t0 t1 t5 I.wk n1 fun b1 u1 h1 bt1 bf0 bf1 bf5 m1 => ?_)))
        show Code.wp _ _ _ _ _
        have sa:=rawSt bt1 bf0 bf1 bf5 I.wk wi m1
        refine wp_seq (ev_wp (A:=fun b => b ∈ ba) (ks:=[0,1,5]) mixed tt_ok KOK.nil (fun b hb => (by cases hb)) (oc27 5 (by simp) hd) trivial (e27f _ k pre.length) sa rfl fun b2 u2 h2 sb B2 => ?_)
        show Code.wp _ _ _ _ _
        refine wp_seq (reg27_6 (sb.atV:AtV 34 _ b2) (sb.sz.2 rfl) (asI_inv (sb.ent 1) rfl).1 (asI_inv (sb.ent 5) rfl).1 w1k (m1.of_St sb) fun b3 u3 h3 bt3 cf0 cf1 cf5 m3 => ?_)
        show Code.wp _ _ _ _ _
        have sc:=rawSt bt3 cf0 cf1 cf5 w1k wi m3
        refine wp_seq (ev_wp (A:=fun b => b ∈ ba) (ks:=[0,1,5]) mixed tt_ok KOK.nil (fun b hb => (by cases hb)) (oc27 7 (by simp) hd) trivial (e27g _ (wr1 k) pre.length) sc rfl fun b4 u4 h4 sd B4 => ?_)
        show Code.wp _ _ _ _ _
        refine reg27_8 (x:=setF 1 (setF 0 x k) (wr1 k)) k70 (sd.atV:AtV 34 _ b4) (sd.sz.2 rfl) (asI_inv (sd.ent 1) rfl).1 (asI_inv (sd.ent 5) rfl).1 w2k (m3.of_St sd) hyx fun a8 w2 h5 p7 df0 df1 df5 wk2 n2 => ?_
        show Code.wp _ _ _ _ _
        have st2:=rawSt p7 df0 df1 df5 wk2 wi n2
        refine ev_wp (A:=fun b => b ∈ ba) (ks:=[0,1,5]) mixed tt_ok KOK.nil (fun b hb => (by cases hb)) (oc27 3 (by simp) hd) trivial (e27d _ yx.2.1 pre.length) st2 rfl fun a9 w9 g9 st9 A9 => ?_
        have s0:a9.tmps.getD 0 undef = hd:=st9.sz.2 rfl
        have s1:a9.tmps.getD 1 undef = .int .i64 yx.2.1:=(asI_inv (st9.ent 1) rfl).1
        have s5:a9.tmps.getD 5 undef = .int .i64 (IntKind.i64.wrap (pre.length + 1)):=(asI_inv (st9.ent 5) rfl).1
        have hwr:IntKind.i64.wrap ((pre.length:Int) + 1) = ((pre.length + 1:Nat):Int):=by
          simp only [List.length_cons] at hl
          simp [IntKind.wrap,IntKind.bits,IntKind.signed]; split <;> omega
        rw [hwr] at s5
        have n9:=n2.of_St st9
        simp only [List.length_cons] at hl
        refine ⟨⟨pre ++ [(k,wr1 k,yx.1,())],suf,yx.2.1,_,st9.atV,s0,s1,?_,wk2,?_,?_,zr,hzr,?_⟩,?_⟩
        · show a9.tmps.getD 5 undef = _
          rw [s5]; simp
        · rw [List.append_assoc]; exact n9
        · simp; omega
        · rw [← hy]; simp
        · have:mu28 N a = N - pre.length:=by
            unfold mu28
            rw [I.at_.at_,I.f5]; simp only; omega
          have m9:mu28 N a9 = N - (pre.length + 1):=by unfold mu28; rw [s5]; simp only; omega
          rw [this,m9]; omega
      · cases hz
    · cases hz
theorem one27 {cf:G27h} (k70:KOne Tryz.prog 110 ⟨[.v (.slice 135 term),.v i64],[.slice 135 term,i64],false,false,1,g⟩)
    (h:∀ x y,cf x = some y->(show List poly.den from x.1).length ≤ 100000000 ∧ ∃ z,foldM27 g x.1 x.2.1 = some z ∧ y = (z.1,z.2,())):KOne Tryz.prog 40 ⟨[.v polys,.v i64],[polys,i64],false,false,1,cf⟩:=by
  refine ⟨fun q => (by cases q),fun _ => ?_,fun q => (by cases q),Tryz.f40,Tryz.func40,by decide,rfl⟩
  intro x y hxy w vs ba hv hnd hw
  obtain ⟨L,k,_⟩:=x
  obtain ⟨hN,z,hz,rfl⟩:=h _ _ hxy
  replace hN:List.length (show List poly.den from L) ≤ 100000000:=hN
  have hv0:=hv
  obtain ⟨v0,r1,b1,b2,rfl,rfl,o1,v1,r2,b3,b4,rfl,rfl,o2,rfl,rfl⟩:=hv
  have hv1:v1 = .int .i64 k ∧ (Lit.int .i64 k).wf = true ∧ b3 = []:=by
    obtain ⟨⟨c1,c2,c3⟩,_,c4⟩:=o2
    rw [c4 rfl] at c1
    exact ⟨by simpa using c1,c2,c3⟩
  obtain ⟨rfl,wk,rfl⟩:=hv1
  simp only [List.append_nil] at hnd hw hv0 ⊢
  obtain ⟨⟨hd,blk,bs,z1,z2,z3⟩,_,z4⟩:=o1
  have hc:=z4 rfl
  have eh:hd = v0:=by rw [hc] at z1; injection z1 with z1 _; exact z1.symm
  subst eh
  have lt:∀ b ∈ b1,b < w.heap.size:=fun b hb => by
    obtain ⟨c,e,q⟩:=hw b hb
    rcases Nat.lt_or_ge b w.heap.size with q' | q'
    · exact q'
    · rw [Array.getElem?_eq_none q'] at q; cases q
  have n0:Nst w b1 34 poly hd L w:=⟨⟨blk,bs,z2,by rw [← z3]; exact hnd,by rw [← z3]; exact fun z hz => hz⟩,rfl,Tp.refl,rfl,Nat.le_refl _,fun _ _ _ => rfl,hw,lt⟩
  have st0:=init_St (n:=Tryz.f40.ntmps) hv0 (by rw [nt27]; decide)
  refine calls_of_wp Tryz.func40 sk27 ?_
  have stk:St ⟨34,true,hd⟩ w (fun _ => False) (gh0 w [hd,.int .i64 k] b1) (initEnv 0 [.v polys,.v i64] (L,k,())).get { tmps:=[hd,.int .i64 k].toArray ++ Array.replicate (Tryz.f40.ntmps - [hd,.int .i64 k].toArray.size) undef,defers:=[] } w :=
    ⟨st0.inv,st0.ent,⟨st0.sz.1.trans nt27,fun _ => by rw [Array.getD_eq_getD_getElem?,Array.getElem?_append_left (by simp)]; rfl⟩,st0.df,st0.os,st0.tape,st0.output⟩
  refine wp_seq (ev_wp (A:=fun b => b ∈ b1) (ks:=[0,1]) mixed tt_ok KOK.nil (fun b hb => (by cases hb)) (oc27 0 (by simp) hd) trivial (e27a L k) stk rfl fun a1 w1 g1 st1 A1 => ?_)
  show Code.wp _ _ _ _ _
  refine wp_seq (wp_seq (ev_wp (A:=fun b => b ∈ b1) (ks:=[0,1,5]) mixed tt_ok KOK.nil (fun b hb => (by cases hb)) (oc27 1 (by simp) hd) trivial (e27b L k) st1 A1 fun a2 w2 g2 st2 A2 => ?_))
  show Code.wp _ _ _ _ _
  have n2:=n0.of_St st2
  have at2:AtV 34 _ a2:=st2.atV
  have t0:a2.tmps.getD 0 undef = hd:=st2.sz.2 rfl
  have t1:a2.tmps.getD 1 undef = .int .i64 k:=(asI_inv (st2.ent 1) rfl).1
  have t5:a2.tmps.getD 5 undef = .int .i64 0:=(asI_inv (st2.ent 5) rfl).1
  refine wp_block (wp_loop (fun a' w' => ∃ pre suf k f,I27 w b1 hd g (List.length (show List poly.den from L)) z a' w' pre suf k f) (fun a' _ => mu28 (List.length (show List poly.den from L)) a') ⟨[],L,k,_,at2,t0,t1,t5,wk,n2,rfl,z,hz,rfl⟩ fun a3 w3 hI => ?_)
  obtain ⟨pre,suf,k3,f3,I⟩:=hI
  refine round27 k70 hN I fun a4 w4 f4 at4 s0 s1 wk4 n4 s5 => ?_
  obtain ⟨i,s5,wi⟩:=s5
  show Code.wp _ _ _ _ _
  have st4:=rawSt at4 s0 s1 s5 wk4 wi n4
  refine wp_seq (ev_wp (A:=fun b => b ∈ b1) (ks:=[0,1,4]) mixed tt_ok KOK.nil (fun b hb => (by cases hb)) (oc27 9 (by simp) hd) trivial (e27e z.1 z.2 i) st4 rfl fun a5 w5 g5 st5 A5 => ?_)
  show Code.wp _ _ _ _ _
  have n5:=n4.of_St st5
  have u4:a5.tmps.getD 4 undef = .int .i64 z.2:=(asI_inv (st5.ent 4) rfl).1
  refine wp_ret ?_
  have hres:(Tryz.f40.results.toList.mapM (resOne a5.tmps)).run Tryz.prog w5 = .ok [.int .i64 z.2] w5:=by rw [rs27,← u4]; rfl
  refine ⟨st5.df,_,results_run hres,?_⟩
  obtain ⟨blk5,bs5,y1,y2,y3⟩:=n5.rd
  exact ⟨hd,[.int .i64 z.2],blk5.toList ++ bs5,rfl,rfl,⟨hd,_,_,[],rfl,⟨⟨hd,blk5,bs5,by rw [hc],y1,rfl⟩,fun q => (by cases q),fun _ => hc⟩,fun q => (by cases q),⟨_,[],[],[],rfl,one_int wk4,fun q => (by cases q),⟨rfl,rfl⟩,rfl⟩,by simp⟩,
    ⟨y2,y3⟩,n5.os,n5.tp,n5.out,n5.size,n5.old,n5.wr⟩
end
abbrev Po:Type:=poly.den
def tms (x:Po):List term.den:=x.2.2.1
theorem copy_setG {α : Type} {l:List α} {i:Nat} {d d' : α} (h:i < l.length):(l.take i ++ List.replicate (l.length - i) d).set i (l.getD i d') = l.take (i + 1) ++ List.replicate (l.length - (i + 1)) d:=by
  apply List.ext_getElem?
  intro j
  rw [List.getElem?_set]
  have hl:(l.take i).length = i:=by simp; omega
  have hl2:(l.take (i + 1)).length = i + 1:=by simp; omega
  by_cases q:i = j
  · subst q
    rw [if_pos rfl,if_pos (by simp; omega),List.getElem?_append_left (by omega),List.getElem?_take_of_lt (by omega),List.getD_eq_getElem?_getD,List.getElem?_eq_getElem h]; rfl
  · rw [if_neg q]
    rcases Nat.lt_or_ge j i with z | z
    · rw [List.getElem?_append_left (by omega),List.getElem?_append_left (by omega),List.getElem?_take_of_lt z,List.getElem?_take_of_lt (by omega)]
    · rw [List.getElem?_append_right (by omega),List.getElem?_append_right (by omega),hl,hl2,List.getElem?_replicate,List.getElem?_replicate]
      by_cases y:j < l.length
      · rw [if_pos (by omega),if_pos (by omega)]
      · rw [if_neg (by omega),if_neg (by omega)]
def smallP (L:List Po):Prop:=L.length ≤ 2000000 ∧ ∀ x ∈ L,(tms x).length ≤ 2000000
def totT:List Po->Nat
  | [] => 0
  | x :: r => (tms x).length + totT r
open Classical in
noncomputable def cf27:G40:=fun x => if smallP x.1 ∧ x.2.1 = (1:Int) ∧ totT x.1 ≤ 2000000 then (match foldM27 cf70 x.1 1 with | some z => some (z.1,z.2,()) | none => none) else none
theorem k27:KOne Tryz.prog 40 ⟨[.v (.slice 34 poly),.v i64],[.slice 34 poly,i64],false,false,1,cf27⟩:=one27 (cf:=cf27) k70 fun x y h => by
  obtain ⟨L,k,_⟩:=x
  change List Po at L
  change Int at k
  simp only [cf27] at h
  split at h
  · rename_i hc
    obtain ⟨hs,hk,_⟩:=hc
    have hk:k = 1:=hk
    subst hk
    split at h
    · rename_i z hz
      injection h with h; subst h
      have hs1:L.length ≤ 2000000:=hs.1
      exact ⟨Nat.le_trans hs1 (by omega),z,hz,rfl⟩
    · cases h
  · cases h
end Go.Proofs.YtmdpmnjnpnjppaaGreatEv
