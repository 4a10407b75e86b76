/-
  Events, plain: a path, who is asked, the steps of a way, what is heard. Conditions: none.
-/
import Derived.Test.YtdommcjlpibpeaaDoorDomB
namespace Evy
open Domy
set_option linter.unusedSimpArgs false
set_option linter.unusedVariables false

def chainGo (d : List Node) : Nat → Int → List Int
  | 0, _ => []
  | m + 1, n => n :: match d[n.toNat]? with
    | some x => if 0 ≤ x.parent then chainGo d m x.parent else []
    | none => []
/-- a node, its parent, and so on. -/
def chain (d : List Node) (n : Int) : List Int := chainGo d (d.length + 1) n
def path (d : List Node) (n : Int) : List Int × Nat :=
  if check d ≠ 0 then ([], check d) else if n < 0 ∨ (d.length : Int) ≤ n then ([], 1)
  else if (chain d n).reverse[0]? ≠ some 0 then ([], 5) else ((chain d n).reverse, 0)

structure Lis where
  id : Int
  node : Int
  typ : Bs
  capture : Bool
  once : Bool
  stops : Bool
  all : Bool
  prevents : Bool
  deriving DecidableEq
structure Hrd where
  lis : Int
  node : Int
  phase : Int
  deriving DecidableEq
structure Stp where
  node : Int
  phase : Int
  down : Bool
  deriving DecidableEq
structure Ev where
  typ : Bs
  target : Int
  x : Int
  y : Int
  key : Bs
  bubbles : Bool
  cancels : Bool
  deriving DecidableEq
def far (d : List Node) (x : Lis) : Bool := decide (x.node < 0) || decide ((d.length : Int) ≤ x.node)
/-- is one of them there twice? -/
def twice : List Int → Bool
  | [] => false
  | n :: r => r.contains n || twice r
def asked (d : List Node) (l : List Lis) (e : Ev) : List Int × Nat :=
  if check d ≠ 0 then ([], check d) else if 60 < l.length then ([], 2) else if l.any (far d) then ([], 1)
  else if twice (l.map (·.id)).reverse then ([], 6) else if e.typ = [] ∨ 40 < e.typ.length then ([], 3) else path d e.target
def phase (last k : Nat) (other : Int) : Int := if k = last then 2 else other
def downs (last : Nat) : Nat → List Int → List Stp
  | _, [] => []
  | k, n :: r => ⟨n, phase last k 1, true⟩ :: downs last (k + 1) r
/-- from place k on to the first. -/
def ups (p : List Int) (last : Nat) (b : Bool) : Nat → List Stp
  | 0 => if b || decide (0 = last) then [⟨p.getD 0 0, phase last 0 3, false⟩] else []
  | k + 1 => if b || decide (k + 1 = last) then ⟨p.getD (k + 1) 0, phase last (k + 1) 3, false⟩ :: ups p last b k else []
def steps (p : List Int) (b : Bool) : List Stp := if p = [] then [] else downs (p.length - 1) 0 p ++ ups p (p.length - 1) b (p.length - 1)
structure St where
  heard : List Hrd
  gone : List Int
  stops : Bool
  all : Bool
  no : Bool
def hear (e : Ev) (s : St) (x : Lis) (a : Stp) : St :=
  ⟨s.heard ++ [⟨x.id, a.node, a.phase⟩], if x.once then s.gone ++ [x.id] else s.gone, s.stops || x.stops, s.all || x.all, s.no || (x.prevents && e.cancels)⟩
def hears (e : Ev) (s : St) (x : Lis) (a : Stp) : Bool := !s.all && decide (x.node = a.node) && decide (x.typ = e.typ) && (x.capture == a.down)
def doOne (e : Ev) (a : Stp) (s : St) (x : Lis) : St := if hears e s x a then hear e s x a else s
def doAll (e : Ev) (l : List Lis) (s : St) (a : Stp) : St := l.foldl (doOne e a) s
def goes (e : Ev) (l : List Lis) (s : St) (a : Stp) : St := if !s.stops && !s.all then doAll e l s a else s
def st0 : St := ⟨[], [], false, false, false⟩
def sent (d : List Node) (l : List Lis) (e : Ev) : St := (steps (asked d l e).1 e.bubbles).foldl (goes e l) st0
/-- who heard it; was it prevented; who is left; what went wrong. -/
def send (d : List Node) (l : List Lis) (e : Ev) : List Hrd × Bool × List Lis × Nat :=
  if (asked d l e).2 ≠ 0 then ([], false, [], (asked d l e).2)
  else ((sent d l e).heard, (sent d l e).no, l.filter (fun x => !(sent d l e).gone.contains x.id), 0)
theorem chain_step {d : List Node} {m N : Nat} {x : Node} (h : d[N]? = some x) : chainGo d (m + 1) (N : Int) = (N : Int) :: (if 0 ≤ x.parent then chainGo d m x.parent else []) := by
  rw [chainGo, Int.toNat_natCast, h]
theorem twice_snoc (l : List Int) (n : Int) : twice (l ++ [n]).reverse = (l.reverse.contains n || twice l.reverse) := by
  rw [List.reverse_append]; rfl
end Evy
