/-
  Addresses, plain: encoded, decoded, clean, parsed, written, resolved. Conditions: none.
-/
import Derived.Test.YtdolmjeiakdfhaaGreatDoorProg
import Derived.Lib.ItoaNum
namespace Urly
set_option linter.unusedSimpArgs false
set_option linter.unusedVariables false
abbrev Bs := List UInt8
def letter (c : UInt8) : Bool := (decide (97 ≤ c) && decide (c ≤ 122)) || (decide (65 ≤ c) && decide (c ≤ 90))
def digit (c : UInt8) : Bool := decide (48 ≤ c) && decide (c ≤ 57)
/-- bytes that stand for themselves. -/
def plain (c : UInt8) : Bool := letter c || digit c || c == 45 || c == 46 || c == 95 || c == 126
def sixteen : Bs := [48, 49, 50, 51, 52, 53, 54, 55, 56, 57, 65, 66, 67, 68, 69, 70]
def hex (n : Nat) : UInt8 := sixteen.getD n 0
def triple (c : UInt8) : Bs := [37, hex (c.toNat / 16), hex (c.toNat % 16)]
def upper (c : UInt8) : UInt8 := if 97 ≤ c ∧ c ≤ 102 then c - 32 else c
/-- what a digit of sixteen stands for. -/
def value (c : UInt8) : Option Nat := let k := sixteen.idxOf (upper c); if k < 16 then some k else none
def lower (c : UInt8) : UInt8 := if 65 ≤ c ∧ c ≤ 90 then c + 32 else c
def small (s : Bs) : Bs := s.map lower
/-- the byte that a text begins with, whether it was a triple, and what is behind it. -/
def read : Bs → Option (UInt8 × Bool × Bs)
  | [] => none
  | c :: r => if c ≠ 37 then some (c, false, r) else match r with
    | a :: b :: r => match value a, value b with
      | some x, some y => some (UInt8.ofNat (x * 16 + y), true, r)
      | _, _ => none
    | _ => none
theorem read_lt {s r : Bs} {c : UInt8} {t : Bool} (h : read s = some (c, t, r)) : r.length < s.length := by
  unfold read at h
  split at h
  · exact absurd h (by simp)
  · split at h
    · injection h with h; injection h with _ h; injection h with _ h; subst h; simp
    · split at h
      · split at h
        · injection h with h; injection h with _ h; injection h with _ h; subst h; simp; omega
        · exact absurd h (by simp)
      · exact absurd h (by simp)
def enc (s : Bs) : Bs := s.flatMap fun c => if plain c then [c] else triple c
/-- as read, all of it; by fuel. -/
def decN : Nat → Bs → Option Bs
  | 0, _ => some []
  | n + 1, s => if s = [] then some [] else match read s with
    | none => none
    | some (c, _, r) => (decN n r).map (c :: ·)
def dec (s : Bs) : Option Bs := decN s.length s
/-- of a query: !$&'()*+,;=:@/? -/
def extra : Bs := [33, 36, 38, 39, 40, 41, 42, 43, 44, 59, 61, 58, 64, 47, 63]
def cleanN : Nat → Bs → Option Bs
  | 0, _ => some []
  | n + 1, s => if s = [] then some [] else match read s with
    | none => none
    | some (c, t, r) => (cleanN n r).map ((if plain c || (!t && extra.contains c) then [c] else triple c) ++ ·)
def clean (s : Bs) : Option Bs := cleanN s.length s
/-- behind the first letter of a scheme: + - . and digits, too. -/
def schemeTail : Bs → Bs → Option (Bs × Bs)
  | _, [] => none
  | acc, c :: r => if c = 58 then some (small acc, r) else if letter c || digit c || c == 43 || c == 45 || c == 46 then schemeTail (acc ++ [c]) r else none
def scheme : Bs → Option (Bs × Bs)
  | [] => none
  | c :: r => if letter c then schemeTail [c] r else none
def splitOn (c : UInt8) : Bs → List Bs
  | [] => [[]]
  | x :: r => if x = c then [] :: splitOn c r else match splitOn c r with
    | [] => [[x]]
    | p :: l => (x :: p) :: l
/-- up to a byte, and behind it; and whether it is there. -/
def cut (c : UInt8) (s : Bs) : Bs × Bs × Bool := if s.contains c then (s.takeWhile (· != c), (s.dropWhile (· != c)).drop 1, true) else (s, [], false)
/-- of a host's part. -/
def hc (c : UInt8) : Bool := (decide (97 ≤ c) && decide (c ≤ 122)) || digit c || c == 45
def host (s : Bs) : Bool := decide (s.length ≤ 100) && (splitOn 46 s).all fun p => !p.isEmpty && p.all hc
def own (s : Bs) : Nat := if s = [104, 116, 116, 112] then 80 else if s = [104, 116, 116, 112, 115] then 443 else 0
def number (s : Bs) : Nat := s.foldl (fun n c => n * 10 + (c.toNat - 48)) 0
/-- host and port. -/
def place (sch s : Bs) : Option (Bs × Nat) :=
  let (h, p, has) := cut 58 s
  if !host (small h) then none
  else if !has then some (small h, 0)
  else if p.length < 1 ∨ 5 < p.length ∨ !p.all digit then none
  else if number p < 1 ∨ 65535 < number p then none
  else some (small h, if number p ≠ own sch then number p else 0)
def tidyGo : List Bs → List Bs → List Bs
  | out, [] => out
  | out, s :: r => if s ≠ [46] ∧ s ≠ [46, 46] then tidyGo (out ++ [s]) r
    else tidyGo ((if s = [46, 46] then out.dropLast else out) ++ (if r = [] then [[]] else [])) r
def tidy (l : List Bs) : List Bs := if tidyGo [] l = [] then [[]] else tidyGo [] l
def decs : List Bs → Option (List Bs)
  | [] => some []
  | p :: l => match dec p with
    | none => none
    | some d => (decs l).map (d :: ·)
def segments (s : Bs) : Option (List Bs) := decs (splitOn 47 s)
structure U where
  scheme : Bs
  host : Bs
  port : Nat
  path : List Bs
  query : Bs
  asks : Bool
  fragment : Bs
  points : Bool
  deriving DecidableEq
structure Tail where
  path : Bs
  query : Option Bs
  asks : Bool
  fragment : Option Bs
  points : Bool
def tail (s : Bs) : Tail :=
  let (s, f, points) := cut 35 s
  let (p, q, asks) := cut 63 s
  ⟨p, clean q, asks, clean f, points⟩
def bare (s : Bs) : Bs := match s with
  | [] => []
  | c :: r => if c = 47 then r else c :: r
def twoOff (s : Bs) : Option Bs := match s with
  | a :: b :: r => if a = 47 ∧ b = 47 then some r else none
  | _ => none
def ends (c : UInt8) : Bool := c == 47 || c == 63 || c == 35
/-- what is parsed; else what went wrong: 2 (too large), 3 (not so formed). -/
def parse (s : Bs) : Except Nat U :=
  if 500 < s.length then .error 2 else
  match scheme s with
  | none => .error 3
  | some (sch, rest) => match twoOff rest with
    | none => .error 3
    | some rest => match place sch (rest.takeWhile fun c => !ends c) with
      | none => .error 3
      | some (h, p) =>
        let t := tail (rest.dropWhile fun c => !ends c)
        match t.query, t.fragment, segments (bare t.path) with
        | some q, some f, some l => .ok ⟨sch, h, p, tidy l, q, t.asks, f, t.points⟩
        | _, _, _ => .error 3
def digits (n : Nat) : Bs := Go.Lib.decDigits n
def origin (u : U) : Bs := u.scheme ++ [58, 47, 47] ++ u.host ++ (if u.port ≠ 0 then 58 :: digits u.port else [])
def text (u : U) : Bs := origin u ++ u.path.flatMap (fun p => 47 :: enc p) ++ (if u.asks then 63 :: u.query else []) ++ (if u.points then 35 :: u.fragment else [])
def check (u : U) : Nat := if 500 < (text u).length then 2 else match parse (text u) with
  | .ok v => if u = v then 0 else 3
  | .error _ => 3
def write (u : U) : Except Nat Bs := if check u ≠ 0 then .error (check u) else .ok (text u)
def beside (b : U) (r : Bs) : Except Nat U :=
  let t := tail r
  match t.query, t.fragment, segments (bare t.path) with
  | some q, some f, some l =>
    if t.path = [] then .ok ⟨b.scheme, b.host, b.port, b.path, if t.asks then q else b.query, t.asks || b.asks, f, t.points⟩
    else .ok ⟨b.scheme, b.host, b.port, tidy (if t.path.head? = some 47 then l else b.path.dropLast ++ l), q, t.asks, f, t.points⟩
  | _, _, _ => .error 3
def resolveU (base ref : Bs) : Except Nat U := match parse base with
  | .error e => .error e
  | .ok b => if 500 < ref.length then .error 2
    else if (scheme ref).isSome then parse ref
    else if (twoOff ref).isSome then parse (b.scheme ++ 58 :: ref)
    else beside b ref
def resolve (base ref : Bs) : Except Nat Bs := match resolveU base ref with
  | .error e => .error e
  | .ok u => if 500 < (text u).length then .error 2 else .ok (text u)
def originOf (s : Bs) : Except Nat Bs := match parse s with
  | .error e => .error e
  | .ok u => .ok (origin u)
end Urly
