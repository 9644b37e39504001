/- What each operation of the program's code makes of a frame that is told as plain data. -/
import Derived.Test.YtkoifikjfnbcpaaEvEnt
set_option linter.unusedVariables false
set_option linter.unusedSimpArgs false
namespace Go.Proofs.YtkoifikjfnbcpaaEv
open Go Go.RowKit

/-- A flat value, or one that lies in a region. -/
def mkfz (t : Ty) (reg : Nat) (lin : Bool) (v : t.den) : Leaf := bif t.flat then .fz t 0 false v else .fz t reg lin v

/-- What an operation makes of the slots: 'ok c ups': under the condition c the slots 'ups' are turned; 'callr': a call's results decide. -/
inductive OpRes where
  | ok (c : Bool) (ups : List (Nat × Ent))
  | callr (rs : List Ty) (x : Option (Ress rs)) (mk : Ress rs → List (Nat × Ent))
def OpRes.get : OpRes → Option (List (Nat × Ent))
  | .ok c ups => bif c then some ups else none
  | .callr _ x mk => match x with | some r => some (mk r) | none => none

def kwf (k : IntKind) (n : Int) : Bool := decide (k.min ≤ n) && decide (n ≤ k.max)

def intE (k : IntKind) (n : Int) : Ent := .val false [.fz (.int k) 0 false n]
def boolE (b : Bool) : Ent := .val false [.fz .bool 0 false b]

def opE (get : Nat → Ent) : Operand → Option Ent
  | .tmp t => some (get t)
  | .const (.int k n) => bif kwf k n then some (intE k n) else none
  | .const (.bool b) => some (boolE b)
  | .func f => some (.fn f [])
  | _ => none

def isNil : Operand → Bool
  | .const (.slice none 0 0) => true
  | _ => false

def Ent.movable : Ent → Bool
  | .val _ _ | .ref _ _ _ _ | .eref _ _ _ | .fn _ _ | .tup _ => true
  | _ => false

def asI (e : Ent) : Option (IntKind × Int) :=
  match e with
  | .val false [.fz (.int k) _ _ n] => some (k, n)
  | _ => none
def asB (e : Ent) : Option Bool :=
  match e with
  | .val false [.fz .bool _ _ b] => some b
  | _ => none

/-- Equality of flat data. -/
def Ty.eqd : (t : Ty) → t.den → t.den → Bool
  | .int _, a, b => decide (a = b)
  | .bool, a, b => a == b
  | .unit, _, _ => true
  | .pair s t, a, b => s.eqd a.1 b.1 && t.eqd a.2 b.2
  | .arr n t, a, b => eqT t.eqd n a b
  | .slice _ _, _, _ => false
where
  eqT {α : Type} (f : α → α → Bool) : (n : Nat) → Tup α n → Tup α n → Bool
    | 0, _, _ => true
    | n + 1, a, b => f a.1 b.1 && eqT f n a.2 b.2

def arith (op : BinOp) (k : IntKind) (a b : Int) : Option (Bool × Ent) :=
  match op with
  | .add => some (true, intE k (k.wrap (a + b)))
  | .sub => some (true, intE k (k.wrap (a - b)))
  | .mul => some (true, intE k (k.wrap (a * b)))
  | .quo => some (!decide (b = 0), intE k (k.wrap (a.tdiv b)))
  | .rem => some (!decide (b = 0), intE k (a.tmod b))
  | .eql => some (true, boolE (decide (a = b)))
  | .neq => some (true, boolE (!decide (a = b)))
  | .lss => some (true, boolE (decide (a < b)))
  | .leq => some (true, boolE (decide (a ≤ b)))
  | .gtr => some (true, boolE (decide (b < a)))
  | .geq => some (true, boolE (decide (b ≤ a)))
  | _ => none

def Ty.dep : Ty → Nat
  | .pair a b => a.dep + 1 + b.dep
  | .arr _ t => t.dep + 1
  | _ => 1
def aggE (op : BinOp) (t : Ty) (ls ls' : List Leaf) : Option (Bool × Ent) :=
  bif t.flat && t.agg && Nat.ble t.dep 100 then (match valAs t ls, valAs t ls' with
    | some a, some b => (match op with | .eql => some (true, boolE (t.eqd a b)) | .neq => some (true, boolE (!(t.eqd a b))) | _ => none)
    | _, _ => none) else none
def binE (ty : Option Ty) (op : BinOp) (x y : Ent) : Option (Bool × Ent) :=
  match asI x, asI y with
  | some (k, a), some (k', b) => bif kEq k k' then arith op k a b else none
  | _, _ => match asB x, asB y, ty with
    | some a, some b, some .bool => (match op with | .eql => some (true, boolE (a == b)) | .neq => some (true, boolE (!(a == b))) | _ => none)
    | _, _, _ => match x, y, ty with
      | .val true ls, .val true ls', some t => aggE op t ls ls'
      | _, _, _ => none

/-- Is a slice nil: for a slice that is nil just where it is empty. -/
def nilE (op : BinOp) (x : Ent) : Option Ent :=
  match x with
  | .val false [.rt _ _ _ _ _ true v] => match op with | .eql => some (boolE v.isEmpty) | .neq => some (boolE (!v.isEmpty)) | _ => none
  | _ => none

def unE (op : UnOp) (x : Ent) : Option Ent :=
  match op, x with
  | .not, .val false [.fz .bool _ _ b] => some (boolE (!b))
  | .neg, .val false [.fz (.int k) _ _ a] => some (intE k (k.wrap (-a)))
  | _, _ => none

/-- An element of a slice. -/
def elemL (l : Leaf) (i : Nat) : Option Leaf :=
  match l with
  | .fz (.slice _ t) reg lin v => some (mkfz t reg lin (v.getD i t.dflt))
  | .rt _ t tag _ lin _ v => some (mkfz t (bif lin then tag else 0) lin (v.getD i t.dflt))
  | _ => none

def lenL (l : Leaf) : Option Nat :=
  match l with
  | .fz (.slice _ _) _ _ v => some v.length
  | .rt _ _ _ _ _ _ v => some v.length
  | _ => none

def loadE (get : Nat → Ent) (ty : Ty) (x : Operand) (e : Ent) : Option Ent :=
  match e with
  | .box _ ls => match x with
    | .tmp s => bif (valAs ty ls).isSome then some (.val ty.agg ls) else none
    | _ => none
  | .ref s base t p => match get s with
    | .box _ ls => match leafOff ls base with
      | some l => bif l.ty.eqb t then (match l.flatAt p with | some l' => bif l'.ty.eqb ty then some (.val ty.agg [l']) else none | none => none) else none
      | none => none
    | _ => none
  | .eref l i p => match elemL l i with
    | some l1 => match l1.flatAt p with | some l' => bif l'.ty.eqb ty then some (.val ty.agg [l']) else none | none => none
    | none => none
  | _ => none

def tyIs (t : Ty) (p : List PStep) (u : Ty) : Bool := match tyP t p with | some t' => t'.eqb u | none => false
def elemTy : Leaf → Ty
  | .fz (.slice _ t) _ _ _ => t
  | .rt _ t _ _ _ _ _ => t
  | _ => .unit
def fieldE (ty : Ty) (x : Operand) (e : Ent) (f : Nat) : Option Ent :=
  bif ty.isStruct && (tyP ty [.fld f]).isSome then (match e with
  | .box _ ls => match x with
    | .tmp s => bif (valMany ty ls).isSome then (match leafAt ls f with | some (o, l) => some (.ref s o l.ty []) | none => none) else none
    | _ => none
  | .ref s base t p => bif tyIs t p ty then some (.ref s base t (p ++ [.fld f])) else none
  | .eref l i p => bif tyIs (elemTy l) p ty then some (.eref l i (p ++ [.fld f])) else none
  | _ => none) else none

def indexE (ty : Ty) (x : Operand) (e : Ent) (i : Int) : Option (Bool × Ent) :=
  match ty with
  | .arr n t => match e with
    | .box _ [l] => match x with
      | .tmp s => bif l.ty.eqb (.arr n t) then some (decide (0 ≤ i) && decide (i < n), .ref s 0 (.arr n t) [.idx i.toNat]) else none
      | _ => none
    | .ref s base t0 p => bif tyIs t0 p (.arr n t) then some (decide (0 ≤ i) && decide (i < n), .ref s base t0 (p ++ [.idx i.toNat])) else none
    | .eref l j p => bif tyIs (elemTy l) p (.arr n t) then some (decide (0 ≤ i) && decide (i < n), .eref l j (p ++ [.idx i.toNat])) else none
    | _ => none
  | .slice e' t => match e with
    | .val false [l] => bif l.ty.eqb (.slice e' t) then (match lenL l with | some n => some (decide (0 ≤ i) && decide (i < n), .eref l i.toNat []) | none => none) else none
    | _ => none
  | _ => none

def sliceL (l : Leaf) (lo hi : Nat) : Option Leaf :=
  match l with
  | .fz (.slice e t) reg lin v => some (.fz (.slice e t) reg lin ((v.take hi).drop lo))
  | .rt e t tag _ lin _ v => some (.rt e t tag true lin false ((v.take hi).drop lo))
  | _ => none

def lo0 : Option Int → Int
  | some b => b
  | none => 0
def hi0 (n : Nat) : Option Int → Int
  | some h => h
  | none => n
def sliceE (ty : Ty) (e : Ent) (lo hi : Option Int) : Option (Bool × Ent) :=
  match e with
  | .val false [l] => bif l.ty.eqb ty then (match lenL l with
    | some n => match sliceL l (lo0 lo).toNat (hi0 n hi).toNat with
      | some l' => some (decide (0 ≤ lo0 lo) && decide (lo0 lo ≤ hi0 n hi) && decide (hi0 n hi ≤ n), .val false [l'])
      | none => none
    | none => none) else none
  | _ => none

def optI (get : Nat → Ent) : Option Operand → Option (Option Int)
  | none => some none
  | some x => match opE get x with | some e => (match asI e with | some (_, n) => some (some n) | none => none) | none => none

/-- Parts of a struct's value put in their places. -/
def fillS (ls : List Leaf) : List (Nat × Ent) → Option (List Leaf)
  | [] => some ls
  | (i, e) :: r => match e with
    | .val _ xs => match leafAt ls i with
      | some (_, l) =>
        match xs with
        | [x] => bif x.ty.eqb l.ty then fillS (ls.set i x) r else none
        | _ => bif l.ty.flat then (match valAs l.ty xs with | some y => fillS (ls.set i (.fz l.ty 0 false y)) r | none => none) else none
      | none => none
    | _ => none
def fillA (n : Nat) (t : Ty) (v : Tup t.den n) : List (Nat × Ent) → Option (Tup t.den n)
  | [] => some v
  | (i, e) :: r => match e with
    | .val _ xs => bif Nat.blt i n then (match valAs t xs with | some y => fillA n t (tset y n v i) r | none => none) else none
    | _ => none
def partEs (get : Nat → Ent) : List (Nat × Operand) → Option (List (Nat × Ent))
  | [] => some []
  | (i, x) :: r => match opE get x, partEs get r with | some e, some l => some ((i, e) :: l) | _, _ => none

def buildE (d : Nat) (ty : Ty) (ps : List (Nat × Ent)) : Option Ent :=
  match ty with
  | .arr n t => bif t.flat then (match fillA n t (tup t.den t.dflt n) ps with | some v => some (.val true [.fz (.arr n t) 0 false v]) | none => none) else none
  | .pair a b => match explodeNew (d * 16 + 1) true (.pair a b) (Ty.dflt (.pair a b)) with
    | some ls => (match fillS ls ps with | some ls' => some (.val true ls') | none => none)
    | none => none
  | _ => none

def listOf (t : Ty) : Nat → List (Nat × Ent) → Option (List t.den)
  | _, [] => some []
  | j, (i, e) :: r => match e with
    | .val _ xs => bif Nat.beq i j then (match valAs t xs, listOf t (j + 1) r with | some y, some l => some (y :: l) | _, _ => none) else none
    | _ => none
def partsOf : Nat → List (Nat × Ent) → Option (List (List Leaf))
  | _, [] => some []
  | j, (i, e) :: r => match e with
    | .val _ xs => bif Nat.beq i j then (match partsOf (j + 1) r with | some l => some (xs :: l) | none => none) else none
    | _ => none

def buildSliceE (d : Nat) (ty : Ty) (len : Nat) (ps : List (Nat × Ent)) : Option Ent :=
  match ty with
  | .slice e t => bif Nat.beq len ps.length && Nat.blt (len * t.size) 16777216 then (match listOf t 0 ps with
    | some l => bif t.flat || Nat.beq len 0 then some (.val false [.rt e t (d * 16 + 1) false true (Nat.blt 0 len) l])
      else (match partsOf 0 ps with | some pp => some (.lit e t pp) | none => none)
    | none => none) else none
  | _ => none

/-- An argument of a call, as data. -/
def argE : (k : PK) → Ent → Option k.den
  | .v t, .val agg ls => bif (agg && t.agg) || (!agg && !t.agg) then valAs t ls else none
  | .v (.slice e t), .lit e' t' pp => bif (Ty.slice e' t').eqb (.slice e t) then litVal t pp else none
  | .p t, .box _ ls => valAs t ls
  | .fn f, .fn g [] => bif Nat.beq f g then some () else none
  | _, _ => none
where
  litVal (t : Ty) : List (List Leaf) → Option (List t.den)
    | [] => some []
    | ls :: r => match valAs t ls, litVal t r with | some x, some y => some (x :: y) | _, _ => none
def argsE : (ps : List PK) → List Ent → Option (Args ps)
  | [], [] => some ()
  | k :: ks, e :: es => match argE k e, argsE ks es with | some x, some y => some (x, y) | _, _ => none
  | _, _ => none
def operEs (get : Nat → Ent) : List Operand → Option (List Ent)
  | [] => some []
  | x :: r => match opE get x, operEs get r with | some e, some l => some (e :: l) | _, _ => none

/-- What a call's result is to the caller. -/
def isSlice : Ty → Bool
  | .slice _ _ => true
  | _ => false
def resLeaves (fresh st : Bool) (tag : Nat) (t : Ty) (v : t.den) : List Leaf :=
  bif fresh then (match newLeaves tag (st && isSlice t) t v with | some ls => ls | none => [mkfz t 0 false v]) else [mkfz t 0 false v]
def resTup (fresh st : Bool) : Nat → (rs : List Ty) → Ress rs → List (Bool × List Leaf)
  | _, [], _ => []
  | tag, t :: rs, r => (t.agg, resLeaves fresh st tag t r.1) :: resTup fresh st (tag + 4) rs r.2
def resE (fresh st : Bool) (tag : Nat) : (rs : List Ty) → Ress rs → Ent
  | [], _ => .tup []
  | [t], r => .val t.agg (resLeaves fresh st tag t r.1)
  | t :: t' :: rs, r => .tup (resTup fresh st tag (t :: t' :: rs) r)

def tagRoom : List Ty → Bool
  | [] => true
  | [t] => Nat.ble (width t) 14
  | rs => Nat.ble rs.length 3 && rs.all (fun t => Nat.ble (width t) 4)
where
  width : Ty → Nat
    | .pair _ b => 1 + width b
    | _ => 1

/-- Whether nothing that an entry speaks of may be written by the call. -/
def frozenE : Ent → Bool
  | .val _ ls => ls.all fun l => match l with | .fz _ _ _ _ => true | _ => false
  | .box _ ls => ls.all fun l => match l with | .fz _ _ _ _ => true | _ => false
  | .fn _ _ => true
  | _ => false

def callE (K : CTab) (d : Option Nat) (f : Nat) (es : List Ent) : Option OpRes :=
  match ctr K f with
  | none => none
  | some C => match argsE C.ps es with
    | none => none
    | some a => bif !C.inp && tagRoom C.rs && (C.fresh || C.rs.all Ty.flat || es.all frozenE) then some (.callr C.rs (C.f a) fun r => match d with | some d => [(d, resE C.fresh C.st (d * 16 + 1) C.rs r)] | none => []) else none

def isBox : Ent → Bool
  | .box _ _ => true
  | _ => false

/-- One part of a variable written. -/
def storeP (l : Leaf) (p : List PStep) (xs : List Leaf) : Option Leaf :=
  match p with
  | [] => match xs with
    | [x] => bif x.ty.eqb l.ty then some x else none
    | _ => bif l.ty.flat then (match valAs l.ty xs with | some y => some (.fz l.ty 0 false y) | none => none) else none
  | p => match l with
    | .fz t _ _ v => bif t.flat then (match tyP t p with
      | some tx => (match valAs tx xs with
        | some y => (match setP t v p tx y with | some v' => some (.fz t 0 false v') | none => none)
        | none => none)
      | none => none) else none
    | _ => none

def ok1 (d : Option Nat) (c : Bool) (e : Ent) : Option OpRes := match d with | some d => some (.ok c [(d, e)]) | none => none

def pickE (c a b : Ent) : Option (Bool × Ent) :=
  match asB c with
  | none => none
  | some cv => match a, b with
    | .val false [.fz .bool _ _ x], .val false [.fz .bool _ _ y] => some (true, boolE (bif cv then x else y))
    | .dead, .val false [.fz .bool _ _ y] => some (!cv, boolE y)
    | .val false [.fz .bool _ _ x], .dead => some (cv, boolE x)
    | .tup [], .val false [.fz .bool _ _ y] => some (!cv, boolE y)
    | .val false [.fz .bool _ _ x], .tup [] => some (cv, boolE x)
    | _, _ => none

def minmax (b : Builtin) (x y : Ent) : Option Ent :=
  match asI x, asI y with
  | some (k, m), some (k', n) => bif kEq k k' then (match b with | .min => some (intE k (bif decide (n < m) then n else m)) | .max => some (intE k (bif decide (m < n) then n else m)) | _ => none) else none
  | _, _ => none

def sameTys : List Leaf → List Leaf → Bool
  | [], [] => true
  | a :: r, b :: r' => a.ty.eqb b.ty && sameTys r r'
  | _, _ => false
/-- A variable written, whole or in part. -/
def storeE (get : Nat → Ent) (ty : Ty) (s : Nat) (xs : List Leaf) : Option (List (Nat × Ent)) :=
  match get s with
  | .box false ls => (match boxLeaves ty xs with | some ls' => bif sameTys ls ls' then some [(s, .box false ls')] else none | none => none)
  | .ref b base t0 p => (match get b with
    | .box false ls => (match leafOff ls base with
      | some l => bif l.ty.eqb t0 && tyIs t0 p ty then (match storeP l p xs with | some l' => some [(b, .box false (setOff ls base l'))] | none => none) else none
      | none => none)
    | _ => none)
  | _ => none

/-- What an operation makes of the slots, where it turns no slot but its own. -/
def evOp (T : TTab) (K : CTab) (get : Nat → Ent) (o : Oper) : Option OpRes :=
  match o.op with
  | .move x | .assign x =>
    bif isNil x then (match o.dst, tyOf T o.type with
      | some d, some (.slice e t) => some (.ok true [(d, .val false [.rt e t (d * 16 + 1) false true true []])])
      | _, _ => none)
    else (match opE get x with | some e => bif e.movable then ok1 o.dst true e else none | none => none)
  | .pick c a b => match opE get c, opE get a, opE get b with
    | some c, some a, some b => (match pickE c a b with | some (c, e) => ok1 o.dst c e | none => none)
    | _, _, _ => none
  | .alloc t => match o.dst, tyOf T t with
    | some d, some ty => bif tagRoom [ty] then (match newLeaves (d * 16 + 1) true ty ty.dflt with | some ls => some (.ok true [(d, .box false ls)]) | none => none) else none
    | _, _ => none
  | .box t x => match o.dst, tyOf T t, opE get x with
    | some d, some ty, some (.val _ ls) => (match boxLeaves ty ls with | some ls' => some (.ok true [(d, .box false ls')]) | none => none)
    | _, _, _ => none
  | .build t ps => match o.dst, tyOf T t, partEs get ps.toList with
    | some d, some ty, some es => bif tagRoom [ty] then (match buildE d ty es with | some e => some (.ok true [(d, e)]) | none => none) else none
    | _, _, _ => none
  | .buildSlice t len ps => match o.dst, tyOf T t, partEs get ps.toList with
    | some d, some ty, some es => (match buildSliceE d ty len es with | some e => some (.ok true [(d, e)]) | none => none)
    | _, _, _ => none
  | .load t x => match tyOf T t, opE get x with
    | some ty, some e => (match loadE get ty x e with | some r => ok1 o.dst true r | none => none)
    | _, _ => none
  | .fieldAddr t x f => match tyOf T t, opE get x with
    | some ty, some e => (match fieldE ty x e f with | some r => ok1 o.dst true r | none => none)
    | _, _ => none
  | .indexAddr t x ix => match tyOf T t, opE get x, opE get ix with
    | some ty, some e, some ie => (match asI ie with
      | some (_, i) => (match indexE ty x e i with | some (c, r) => ok1 o.dst c r | none => none)
      | none => none)
    | _, _, _ => none
  | .binOp op t x y _ =>
    bif isNil y then (match opE get x, tyOf T t with | some e, some (.slice _ _) => (match nilE op e with | some r => ok1 o.dst true r | none => none) | _, _ => none)
    else (match opE get x, opE get y with
      | some a, some b => (match binE (tyOf T t) op a b with | some (c, r) => ok1 o.dst c r | none => none)
      | _, _ => none)
  | .unOp op _ x => match opE get x with
    | some e => (match unE op e with | some r => ok1 o.dst true r | none => none)
    | none => none
  | .convert s t x => match tyOf T s, tyOf T t, opE get x with
    | some (.int _), some (.int k), some e => (match asI e with | some (_, n) => ok1 o.dst true (intE k (k.wrap n)) | none => none)
    | _, _, _ => none
  | .extract x i => match opE get x with
    | some (.tup ls) => (match ls[i]? with | some (g, l) => ok1 o.dst true (.val g l) | none => none)
    | _ => none
  | .slice t x lo hi mx => match tyOf T t, opE get x, optI get lo, optI get hi, mx with
    | some (.slice e' t'), some e, some lo, some hi, none => (match sliceE (.slice e' t') e lo hi with | some (c, r) => ok1 o.dst c r | none => none)
    | _, _, _, _, _ => none
  | .makeSlice t l c => match o.dst, tyOf T t, opE get l, opE get c with
    | some d, some (.slice e t), some le, some ce => (match asI le, asI ce with
      | some (_, n), some (_, m) => some (.ok (decide (0 ≤ n) && decide (n ≤ 1099511627776) && decide (n = m)) [(d, .val false [.rt e t (d * 16 + 1) false true false (List.replicate n.toNat t.dflt)])])
      | _, _ => none)
    | _, _, _, _ => none
  | .makeFunc (.func f) fi ca => bif Nat.beq fi.size 0 then (match capsOf get ca.toList with | some cs => ok1 o.dst true (.fn f cs) | none => none) else none
  | .call c => match c.callee with
    | .builtin .len => (match c.argTypes.toList, operEs get c.args.toList with
      | [t], some [.val false [l]] => (match tyOf T t, lenL l with | some (.slice _ _), some n => ok1 o.dst (decide (n ≤ 9223372036854775807)) (intE .i64 n) | _, _ => none)
      | _, _ => none)
    | .builtin .min => (match operEs get c.args.toList with
      | some [x, y] => (match minmax .min x y with | some r => ok1 o.dst true r | none => none)
      | _ => none)
    | .builtin .max => (match operEs get c.args.toList with
      | some [x, y] => (match minmax .max x y with | some r => ok1 o.dst true r | none => none)
      | _ => none)
    | .value f => (match opE get f, operEs get c.args.toList with
      | some (.fn f caps), some es => bif caps.all fun s => isBox (get s) then callE K o.dst f (es ++ caps.map get) else none
      | _, _ => none)
    | _ => none
  | .store t a x => match tyOf T t, a, opE get x, o.dst with
    | some ty, .tmp s, some (.val _ xs), none => (match storeE get ty s xs with | some ups => some (.ok true ups) | none => none)
    | _, _, _, _ => none
  | _ => none
where
  capsOf (get : Nat → Ent) : List Operand → Option (List Nat)
    | [] => some []
    | .tmp s :: r => bif isBox (get s) then (match capsOf get r with | some l => some (s :: l) | none => none) else none
    | _ => none

/-- Whether an operation makes memory or regions of its own. -/
def creates (o : Oper) : Bool :=
  match o.op with
  | .move x | .assign x => isNil x
  | .alloc _ | .box _ _ | .build _ _ | .buildSlice _ _ _ | .makeSlice _ _ _ => true
  | .call c => match c.callee with | .value _ => true | _ => false
  | _ => false

/-- The slots that the outcome hangs on. -/
def slotsOf : List Operand → List Nat
  | [] => []
  | .tmp t :: r => t :: slotsOf r
  | _ :: r => slotsOf r
def refOf : Ent → List Nat
  | .ref s _ _ _ => [s]
  | .fn _ caps => caps
  | _ => []
def readsOf (get : Nat → Ent) (o : Oper) : List Nat :=
  let l := slotsOf o.op.operands.toList
  l ++ l.flatMap fun s => refOf (get s)

end Go.Proofs.YtkoifikjfnbcpaaEv
