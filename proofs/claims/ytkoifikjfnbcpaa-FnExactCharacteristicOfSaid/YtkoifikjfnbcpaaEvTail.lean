/- Operations that turn other slots too: appending, elements written, literals given a name; and what is forgotten or named anew. -/
import Derived.Test.YtkoifikjfnbcpaaEvSndO
set_option linter.unusedVariables false
set_option linter.unusedSimpArgs false
namespace Go.Proofs.YtkoifikjfnbcpaaEv
open Go Go.RowKit

def Ent.mapL (f : Leaf → Leaf) : Ent → Ent
  | .dead => .dead
  | .val a ls => .val a (ls.map f)
  | .lit e t pp => .lit e t (pp.map fun ls => ls.map f)
  | .box ro ls => .box ro (ls.map f)
  | .ref s b t p => .ref s b t p
  | .eref l i p => .eref (f l) i p
  | .fn f' c => .fn f' c
  | .tup ls => .tup (ls.map fun p => (p.1, p.2.map f))

/-- Region m goes into region k; what was the slice of m is written no more. -/
def Leaf.absorb (m k : Nat) : Leaf → Leaf
  | .fz t reg lin v => bif Nat.beq reg m then .fz t k lin v else .fz t reg lin v
  | .rt e t tag sub lin st v => bif Nat.beq tag m then .fz (.slice e t) (bif lin then k else 0) lin v else .rt e t tag sub lin st v

/-- Region m is called k. -/
def Leaf.name (m k : Nat) : Leaf → Leaf
  | .fz t reg lin v => bif Nat.beq reg m then .fz t k lin v else .fz t reg lin v
  | .rt e t tag sub lin st v => bif Nat.beq tag m then .rt e t k sub lin st v else .rt e t tag sub lin st v

def Ent.any (p : Leaf → Bool) : Ent → Bool
  | .dead => false
  | .val _ ls => ls.any p
  | .lit _ _ pp => pp.any fun ls => ls.any p
  | .box _ ls => ls.any p
  | .ref _ _ _ _ => false
  | .eref l _ _ => p l
  | .fn _ _ => false
  | .tup ls => ls.any fun q => q.2.any p

def Leaf.isRt (k : Nat) : Leaf → Bool
  | .rt _ _ tag _ _ _ _ => Nat.beq tag k
  | _ => false
def Leaf.inReg (k : Nat) : Leaf → Bool
  | .rt _ _ tag _ _ _ _ => Nat.beq tag k
  | .fz _ reg _ _ => Nat.beq reg k

/-- An entry that speaks of what 'p' tells is forgotten. -/
def killIf (p : Leaf → Bool) (e : Ent) : Ent := bif e.any p then .dead else e
def killAt (d : Nat) (e : Ent) : Ent := bif e.at d then .dead else e

/-- Whether some slot holds a literal whose own region is m. -/
def litTag (m : Nat) : Env → Bool
  | [] => false
  | (s, e) :: r => (match e with | .lit _ _ _ => Nat.beq (s * 16 + 1) m | _ => false) || litTag m r

/-- The regions that parts of a list that is not flat bring along: those to be taken in, and whether each block is still there once. -/
def takeIn (k : Nat) : List Leaf → List Nat → Bool → Option (List Nat × Bool)
  | [], acc, ok => some (acc, ok)
  | .fz t reg lin _ :: r, acc, ok => bif t.flat then takeIn k r acc ok else
      bif lin && !(Nat.beq reg 0) && !(Nat.beq reg k) && !(memN acc reg) then takeIn k r (reg :: acc) ok else takeIn k r acc false
  | .rt _ _ m _ lin _ _ :: r, acc, ok => bif Nat.beq m k then none else bif memN acc m then takeIn k r acc false else takeIn k r (m :: acc) (ok && lin)

def absorbAll (k : Nat) : List Nat → Env → Env
  | [], env => env
  | m :: r, env => absorbAll k r (env.map (Ent.mapL (Leaf.absorb m k)))

def okTags (k : Nat) (ms : List Nat) (env : Env) : Bool := !(Nat.beq k 0) && !(litTag k env) && ms.all fun m => !(Nat.beq m 0) && !(Nat.beq m k) && !(litTag m env)

def growOk (a b : Nat) : Bool := decide (a + b ≤ 1099511627776)

/-- What is appended: the parts that it consists of, and the list. -/
def srcOf (e : TypeId) (u : Ty) (x : Ent) : Option (List Leaf × List u.den) :=
  match x with
  | .lit e2 u2 pp => bif (Ty.slice e2 u2).eqb (.slice e u) then (match argE.litVal u pp with | some w => some (pp.flatten, w) | none => none) else none
  | .val false [l] => bif l.ty.eqb (.slice e u) then (match Ty.cast (.slice e u) l.val with | some w => some ([l], w) | none => none) else none
  | _ => none

/-- What appending makes of the slots. -/
def appendE (e : TypeId) (u : Ty) (d : Nat) (s x : Ent) (env : Env) : Option (Bool × Env) :=
  match s with
  | .val false [l] => (match l with
    | .rt e' u' k false lin st v => bif (Ty.slice e' u').eqb (.slice e u) then (match Ty.cast (.slice e u) (Leaf.rt e' u' k false lin st v).val, srcOf e u x with
      | some v, some (ls, w) => (match (bif u.flat then some ([], true) else takeIn k ls [] true) with
        | some (ms, ok) => bif okTags k ms env then
            some (growOk (v : List u.den).length w.length, ((absorbAll k ms env).map (killIf (Leaf.isRt k))).put d (.val false [.rt e u k false (lin && ok) st ((v : List u.den) ++ w)])) else none
        | none => none)
      | _, _ => none) else none
    | _ => none)
  | _ => none

/-- Appending so many zero values. -/
def appendME (e : TypeId) (u : Ty) (d : Nat) (s x : Ent) (env : Env) : Option (Bool × Env) :=
  match s with
  | .val false [l] => (match l with
    | .rt e' u' k false lin st v => bif (Ty.slice e' u').eqb (.slice e u) then (match Ty.cast (.slice e u) (Leaf.rt e' u' k false lin st v).val, asI x with
      | some v, some (_, n) => bif okTags k [] env then
          some (decide (0 ≤ n) && growOk (v : List u.den).length n.toNat, (env.map (killIf (Leaf.isRt k))).put d (.val false [.rt e u k false lin st ((v : List u.den) ++ List.replicate n.toNat u.dflt)])) else none
      | _, _ => none) else none
    | _ => none)
  | _ => none

end Go.Proofs.YtkoifikjfnbcpaaEv
