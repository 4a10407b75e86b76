/-
  The check of a document, plain. Conditions: none.
-/
import Derived.Lib.Small
namespace Domy
set_option linter.unusedSimpArgs false
set_option linter.unusedVariables false
abbrev Bs := List UInt8

structure Attr where
  name : Bs
  value : Bs
  deriving DecidableEq
structure Node where
  kind : Int
  name : Bs
  attrs : List Attr
  text : Bs
  parent : Int
  kids : List Int
  deriving DecidableEq

def letters : Bs := [97, 98, 99, 100, 101, 102, 103, 104, 105, 106, 107, 108, 109, 110, 111, 112, 113, 114, 115, 116, 117, 118, 119, 120, 121, 122]
def signs : Bs := letters ++ [48, 49, 50, 51, 52, 53, 54, 55, 56, 57, 45, 95, 58]
/-- a name that begins with one of some signs. -/
def named (s first : Bs) : Bool := decide (s ≠ []) && decide (s.length ≤ 40) && first.contains (s.headD 0) && s.all signs.contains
def isName (s : Bs) : Bool := named s letters
def isAttr (s : Bs) : Bool := named s (letters ++ [45, 95])
/-- the first that is not 0. -/
def attrsGo : List Bs → List Attr → Nat
  | _, [] => 0
  | seen, a :: r => if isAttr a.name = false then 3 else if 400 < a.value.length then 2 else if seen.contains a.name then 3 else attrsGo (seen ++ [a.name]) r
def attrsE (l : List Attr) : Nat := if 12 < l.length then 2 else attrsGo [] l
def isParent (k : Int) : Bool := decide (k = 1) || decide (k = 2)
def bare (x : Node) : Bool :=
  (decide (x.kind = 2) || decide (x.kind = 5) || decide (x.name = [])) && (decide (x.kind = 2) || decide (x.attrs.length = 0)) &&
  ((decide (x.kind = 3) || decide (x.kind = 4)) || decide (x.text = [])) && (isParent x.kind || decide (x.kids.length = 0))
def one (x : Node) : Nat :=
  if x.kind < 1 ∨ 5 < x.kind ∨ bare x = false then 7
  else if x.kind = 2 ∧ isName x.name = false then 3
  else if attrsE x.attrs ≠ 0 then attrsE x.attrs
  else if 400 < x.text.length ∨ 400 < x.name.length then 2 else 0
def nodesGo : Nat → List Node → Nat
  | _, [] => 0
  | i, x :: r => if (decide (x.kind = 1)) != (decide (i = 0)) then 3 else if one x ≠ 0 then one x else nodesGo (i + 1) r
/-- the kids of one node: what went wrong, and which are seen. -/
def kidsIn (d : List Node) (i : Nat) : List Bool → List Int → Nat × List Bool
  | seen, [] => (0, seen)
  | seen, k :: r =>
    if k < 0 ∨ (seen.length : Int) ≤ k ∨ ((d[k.toNat]?).map (·.parent)) ≠ some (i : Int) ∨ seen[k.toNat]? = some true then (3, seen)
    else if i = 0 ∧ ((d[k.toNat]?).map (·.kind)) = some 3 then (7, seen)
    else kidsIn d i (seen.set k.toNat true) r
def kidsOut (d : List Node) : Nat → List Bool → List Node → Nat × List Bool
  | _, seen, [] => (0, seen)
  | i, seen, x :: r => if (kidsIn d i seen x.kids).1 ≠ 0 then kidsIn d i seen x.kids else kidsOut d (i + 1) (kidsIn d i seen x.kids).2 r
def seenGo : List Bool → List Node → Nat
  | s :: ss, x :: r => if x.parent ≠ -1 ∧ s = false then 3 else seenGo ss r
  | _, _ => 0
def kidsE (d : List Node) : Nat :=
  if (kidsOut d 0 (List.replicate d.length false) d).1 ≠ 0 then (kidsOut d 0 (List.replicate d.length false) d).1
  else if seenGo (kidsOut d 0 (List.replicate d.length false) d).2 d ≠ 0 then 3
  else if (d[0]?).map (·.parent) ≠ some (-1) then 3 else 0
/-- how many parents, up to a bound. -/
def upGo (d : List Node) : Nat → Int → Nat
  | 0, _ => 0
  | m + 1, n => match d[n.toNat]? with
    | some x => if 0 ≤ x.parent then 1 + upGo d m x.parent else 0
    | none => 0
def up (d : List Node) (n : Int) : Nat := upGo d (d.length + 1) n
def upsGo (d : List Node) : Nat → Nat → Nat
  | _, 0 => 0
  | i, m + 1 => if d.length < up d i then 8 else if 40 < up d i then 2 else upsGo d (i + 1) m
/-- 0: it is right. -/
def check (d : List Node) : Nat :=
  if 200 < d.length then 2 else if d.length = 0 then 3
  else if nodesGo 0 d ≠ 0 then nodesGo 0 d
  else if kidsE d ≠ 0 then kidsE d
  else upsGo d 0 d.length
end Domy
