/- What a slot of a frame holds, as plain data, and what one operation makes of it. -/
import Derived.Test.YtkoifikjfnbcpaaEvTy
set_option linter.unusedVariables false
set_option linter.unusedSimpArgs false
namespace Go.Proofs.YtkoifikjfnbcpaaEv
open Go Go.RowKit

/-- A part of a value: 'fz': data in memory that nobody writes any more (reg: the region that its blocks lie in, 0 unknown; lin: no block twice); 'rt': a slice whose own block the call may write (tag: its region; sub: a part of the region's slice; st: nil just where it is empty). -/
inductive Leaf where
  | fz (t : Ty) (reg : Nat) (lin : Bool) (v : t.den)
  | rt (e : TypeId) (t : Ty) (tag : Nat) (sub lin st : Bool) (v : List t.den)

abbrev Leaf.ty : Leaf → Ty
  | .fz t _ _ _ => t
  | .rt e t _ _ _ _ _ => .slice e t
abbrev Leaf.val : (l : Leaf) → l.ty.den
  | .fz _ _ _ v => v
  | .rt _ _ _ _ _ _ v => v

inductive PStep where
  | fld (j : Nat)
  | idx (i : Nat)

/-- What a slot holds. 'lit': a new row of the parts. 'box': the address of a variable of the frame (ro: of the caller's, never written). 'ref': an address within the box of a slot. 'eref': an address within an element of a slice. -/
inductive Ent where
  | dead
  | val (agg : Bool) (ls : List Leaf)
  | lit (e : TypeId) (t : Ty) (parts : List (List Leaf))
  | box (ro : Bool) (ls : List Leaf)
  | ref (s base : Nat) (t : Ty) (p : List PStep)
  | eref (l : Leaf) (i : Nat) (p : List PStep)
  | fn (f : Nat) (caps : List Nat)
  | tup (ls : List (Bool × List Leaf))

abbrev Env := List (Nat × Ent)
def Env.get : Env → Nat → Ent
  | [], _ => .dead
  | (j, e) :: r, i => bif Nat.beq j i then e else Env.get r i
def Env.put : Env → Nat → Ent → Env
  | [], i, e => [(i, e)]
  | (j, x) :: r, i, e => bif Nat.beq j i then (i, e) :: r else bif Nat.blt i j then (i, e) :: (j, x) :: r else (j, x) :: Env.put r i e
def Env.puts (env : Env) : List (Nat × Ent) → Env
  | [] => env
  | (i, e) :: r => (env.put i e).puts r
def Env.map (f : Ent → Ent) : Env → Env
  | [] => []
  | (j, e) :: r => (j, f e) :: Env.map f r
def memN : List Nat → Nat → Bool
  | [], _ => false
  | x :: r, i => Nat.beq x i || memN r i
/-- Only some slots are looked at again. -/
def Env.keep (ks : List Nat) : Env → Env
  | [] => []
  | (j, e) :: r => bif memN ks j then (j, e) :: Env.keep ks r else Env.keep ks r

abbrev TTab := List (TypeId × Ty)
def tyOf : TTab → TypeId → Option Ty
  | [], _ => none
  | (j, t) :: r, i => bif Nat.beq j i then some t else tyOf r i

/-- How a parameter is handed over: a value, the address of a variable, a function. -/
inductive PK where
  | v (t : Ty)
  | p (t : Ty)
  | fn (f : Nat)
abbrev PK.den : PK → Type
  | .v t | .p t => t.den
  | .fn _ => Unit
abbrev Args : List PK → Type
  | [] => Unit
  | t :: r => t.den × Args r
abbrev Ress : List Ty → Type
  | [] => Unit
  | t :: r => t.den × Ress r

/-- What a function is known to compute. fresh: its results' memory is its own, each block once; st: a slice among them is nil just where it is empty; inp: the first argument is turned in place, and the first result is what it holds then. -/
structure Ctr where
  ps : List PK
  rs : List Ty
  fresh : Bool
  st : Bool
  inp : Bool
  f : Args ps → Option (Ress rs)

abbrev CTab := List (Nat × Ctr)
def ctr : CTab → Nat → Option Ctr
  | [], _ => none
  | (j, c) :: r, i => bif Nat.beq j i then some c else ctr r i

/-! ### types and paths -/

def tyP : Ty → List PStep → Option Ty
  | t, [] => some t
  | .pair a b, .fld 0 :: p => tyP a p
  | .pair a b, .fld (j + 1) :: p => tyP b (.fld j :: p)
  | .arr n t, .idx i :: p => tyP t p
  | _, _ => none
def poff : Ty → List PStep → Nat
  | _, [] => 0
  | .pair a b, .fld 0 :: p => poff a p
  | .pair a b, .fld (j + 1) :: p => a.size + poff b (.fld j :: p)
  | .arr n t, .idx i :: p => i * t.size + poff t p
  | _, _ => 0
/-- The indices of a path are within their arrays. -/
def pin : Ty → List PStep → Prop
  | _, [] => True
  | .pair a b, .fld 0 :: p => pin a p
  | .pair a b, .fld (j + 1) :: p => pin b (.fld j :: p)
  | .arr n t, .idx i :: p => i < n ∧ pin t p
  | _, _ => False
def getP : (t : Ty) → t.den → List PStep → Option (Sigma Ty.den)
  | t, v, [] => some ⟨t, v⟩
  | .pair a b, v, .fld 0 :: p => getP a v.1 p
  | .pair a b, v, .fld (j + 1) :: p => getP b v.2 (.fld j :: p)
  | .arr n t, v, .idx i :: p => getP t (tget t.dflt n v i) p
  | _, _, _ => none
def setP : (t : Ty) → t.den → List PStep → (x : Ty) → x.den → Option t.den
  | t, v, [], x, y => Ty.cast t y
  | .pair a b, v, .fld 0 :: p, x, y => match setP a v.1 p x y with | some z => some (z, v.2) | none => none
  | .pair a b, v, .fld (j + 1) :: p, x, y => match setP b v.2 (.fld j :: p) x y with | some z => some (v.1, z) | none => none
  | .arr n t, v, .idx i :: p, x, y => match setP t (tget t.dflt n v i) p x y with | some z => some (tset z n v i) | none => none
  | _, _, _, _, _ => none

def Ty.isStruct : Ty → Bool
  | .unit | .pair _ _ => true
  | _ => false

/-- A struct's fields, each a part of its own. -/
def explode (reg : Nat) (lin : Bool) : (t : Ty) → t.den → List Leaf
  | .pair a b, v => .fz a reg lin v.1 :: explode reg lin b v.2
  | _, _ => []
/-- A new struct's fields: slices are regions of their own. -/
def explodeNew (tag : Nat) (st : Bool) : (t : Ty) → t.den → Option (List Leaf)
  | .pair (.slice e a) b, v => match explodeNew (tag + 1) st b v.2 with | some r => some (.rt e a tag false true st v.1 :: r) | none => none
  | .pair a b, v => bif a.flat then (match explodeNew (tag + 1) st b v.2 with | some r => some (.fz a 0 false v.1 :: r) | none => none) else none
  | .unit, _ => some []
  | _, _ => none

/-- The parts of a new value (a result that is fresh, a variable's zero value). -/
def newLeaves (tag : Nat) (st : Bool) : (t : Ty) → t.den → Option (List Leaf)
  | .slice e a, v => some [.rt e a tag false true st v]
  | .pair a b, v => explodeNew tag st (.pair a b) v
  | .unit, v => explodeNew tag st .unit v
  | t, v => bif t.flat then some [.fz t 0 false v] else none

def valMany : (t : Ty) → List Leaf → Option t.den
  | .unit, [] => some ()
  | .pair a b, l :: ls => match Ty.cast a l.val, valMany b ls with | some x, some y => some (x, y) | _, _ => none
  | _, _ => none
/-- The parts together, as data of a type. -/
def valAs (t : Ty) (ls : List Leaf) : Option t.den :=
  match ls with
  | [l] => bif l.ty.eqb t then Ty.cast t l.val else valMany t ls
  | _ => valMany t ls

/-- The parts of a variable of a type, for a value's parts. -/
def boxLeaves (t : Ty) (ls : List Leaf) : Option (List Leaf) :=
  match t, ls with
  | .pair a b, [.fz t' reg lin v] => match Ty.cast (.pair a b) v with
    | some y => bif (valMany (.pair a b) (explode reg lin (.pair a b) y)).isSome then some (explode reg lin (.pair a b) y) else none
    | none => bif (valMany (.pair a b) [.fz t' reg lin v]).isSome then some [.fz t' reg lin v] else none
  | .pair a b, ls => bif (valMany (.pair a b) ls).isSome then some ls else none
  | .unit, [] => some []
  | .unit, _ => none
  | t, [l] => bif l.ty.eqb t then some [l] else none
  | _, _ => none

def sizes : List Leaf → Nat
  | [] => 0
  | l :: r => l.ty.size + sizes r
/-- Part j of a variable: where it begins, and it. -/
def leafAt : List Leaf → Nat → Option (Nat × Leaf)
  | [], _ => none
  | l :: _, 0 => some (0, l)
  | l :: r, j + 1 => match leafAt r j with | some (o, x) => some (l.ty.size + o, x) | none => none
/-- The part that begins at a cell. -/
def leafOff : List Leaf → Nat → Option Leaf
  | [], _ => none
  | l :: r, o => bif Nat.beq o 0 then some l else bif Nat.blt o l.ty.size then none else leafOff r (o - l.ty.size)
def setOff : List Leaf → Nat → Leaf → List Leaf
  | [], _, _ => []
  | l :: r, o, x => bif Nat.beq o 0 then x :: r else l :: setOff r (o - l.ty.size) x

def Leaf.flatAt (l : Leaf) (p : List PStep) : Option Leaf :=
  match l, p with
  | l, [] => some l
  | .fz t reg lin v, p => match getP t v p with | some ⟨t', x⟩ => some (bif t'.flat then .fz t' 0 false x else .fz t' reg lin x) | none => none
  | _, _ => none

end Go.Proofs.YtkoifikjfnbcpaaEv
