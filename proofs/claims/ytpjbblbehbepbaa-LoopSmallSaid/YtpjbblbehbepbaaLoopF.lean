/-
  What is asked of a loop, and a play: plain functions. Conditions: none.
-/
import Derived.Test.YtpjbblbehbepbaaLoopE
namespace Loopy
set_option linter.unusedSimpArgs false
set_option linter.unusedVariables false
open Valu

/-- the first place where p holds, or -1. -/
def idxOf (p : Timer → Bool) : List Timer → Int
  | [] => -1
  | x :: l => if p x then 0 else if idxOf p l < 0 then -1 else idxOf p l + 1
def full (n : Nat) (q : Loop) : Bool := decide (100 ≤ n) || decide (q.next = most)
def post (q : Loop) (a : Ask) (small : Bool) : Loop × Int × Nat :=
  if small then
    if full q.smalls.length q then (q, 0, 2) else ({ q with smalls := q.smalls ++ [⟨q.next, 0, true, a.call, a.arg⟩], next := q.next + 1 }, q.next, 0)
  else if within a.src 1 4 = false then (q, 0, 1)
  else if full q.tasks.length q then (q, 0, 2) else ({ q with tasks := q.tasks ++ [⟨q.next, a.src, false, a.call, a.arg⟩], next := q.next + 1 }, q.next, 0)
def timer (q : Loop) (a : Ask) (every : Bool) : Loop × Int × Nat :=
  if within a.n (if every then 1 else 0) 1000000 = false then (q, 0, 1)
  else if most < q.now + a.n then (q, 0, 1)
  else if full q.timers.length q then (q, 0, 2)
  else ({ q with timers := lay q.timers ⟨q.next, q.now + a.n, if every then a.n else 0, 0, a.call⟩, next := q.next + 1 }, q.next, 0)
def cancel (q : Loop) (n : Int) : Loop × Int × Nat :=
  if idxOf (fun t => t.id == n) q.timers < 0 then (q, 0, 5) else ({ q with timers := q.timers.eraseIdx (idxOf (fun t => t.id == n) q.timers).toNat }, 0, 0)
def doAsk (q : Loop) (a : Ask) : Loop × Int × Nat :=
  if a.what = 1 then post q a false else if a.what = 2 then post q a true else if a.what = 3 then timer q a false else if a.what = 4 then timer q a true else cancel q a.n
def zero : Loop := ⟨0, 0, [], [], []⟩
def ask (q : Loop) (a : Ask) : Loop × Int × Nat :=
  if check q = 0 then (if within a.what 1 5 then (if (doAsk q a).2.2 = 0 then doAsk q a else (zero, 0, (doAsk q a).2.2)) else (zero, 0, 3)) else (zero, 0, check q)
end Loopy
