/-
  A loop of jobs and timers as plain functions on lists, and its laws: no program in sight. Conditions: none.
-/
import Derived.Test.YtpjbblbehbepbaaVal
namespace Loopy
set_option linter.unusedSimpArgs false
set_option linter.unusedVariables false
open Valu

structure Job where
  id : Int
  src : Int
  small : Bool
  call : Bs
  arg : V
  deriving DecidableEq
structure Timer where
  id : Int
  due : Int
  every : Int
  turn : Int
  call : Bs
  deriving DecidableEq
structure Loop where
  now : Int
  next : Int
  tasks : List Job
  smalls : List Job
  timers : List Timer
  deriving DecidableEq
structure Ask where
  what : Int
  src : Int
  n : Int
  call : Bs
  arg : V
  deriving DecidableEq

def most : Int := 1000000000
/-- by time, then by number. -/
def before (a b : Timer) : Int := if Go.Lib.compareInt a.due b.due = 0 then Go.Lib.compareInt a.id b.id else Go.Lib.compareInt a.due b.due
def ids (q : Loop) : List Int := q.tasks.map (·.id) ++ (q.smalls.map (·.id) ++ q.timers.map (·.id))
/-- each within, and none among those seen. -/
def fresh (next : Int) : List Int → List Int → Bool
  | _, [] => true
  | seen, n :: r => within n 0 (next - 1) && !(seen.contains n) && fresh next (n :: seen) r
def taskOk (j : Job) : Bool := !j.small && within j.src 1 4
def smallOk (j : Job) : Bool := j.small && decide (j.src = 0)
def timerOk (now : Int) (t : Timer) : Bool := within t.due now most && within t.every 0 most && within t.turn 0 most
/-- each is right, and rises above the one ahead. -/
def rising (now : Int) : Option Timer → List Timer → Bool
  | _, [] => true
  | none, t :: r => timerOk now t && rising now (some t) r
  | some u, t :: r => timerOk now t && decide (before u t < 0) && rising now (some t) r
def large (q : Loop) : Bool := decide (100 < q.tasks.length) || decide (100 < q.smalls.length) || decide (100 < q.timers.length)
def right (q : Loop) : Bool := within q.now 0 most && within q.next 0 most && fresh q.next [] (ids q) && q.tasks.all taskOk && q.smalls.all smallOk && rising q.now none q.timers
/-- 0: it is right; 2: too much; 3: it is not so formed. -/
def check (q : Loop) : Nat := if large q then 2 else if right q then 0 else 3

/-- a timer laid where it belongs. -/
def lay : List Timer → Timer → List Timer
  | [], t => [t]
  | u :: r, t => if before u t < 0 then u :: lay r t else t :: u :: r

/-- the first timer fires. -/
def fire (q : Loop) (t : Timer) (r : List Timer) : Loop × Job :=
  ({ q with now := max q.now t.due, timers := if 0 < t.every ∧ t.due + t.every ≤ most ∧ t.turn < most then lay r { t with due := t.due + t.every, turn := t.turn + 1 } else r },
    ⟨t.id, 3, false, t.call, num t.turn⟩)
/-- what comes next, of a loop that is right. -/
def next (q : Loop) (til : Int) : Loop × Option Job :=
  match q.smalls with
  | j :: r => ({ q with smalls := r }, some j)
  | [] => match q.timers, q.tasks with
    | t :: r, ts => if t.due ≤ q.now ∨ (ts = [] ∧ t.due ≤ til) then ((fire q t r).1, some (fire q t r).2) else
        match ts with
        | j :: s => ({ q with tasks := s }, some j)
        | [] => ({ q with now := til }, none)
    | [], j :: s => ({ q with tasks := s }, some j)
    | [], [] => ({ q with now := til }, none)
end Loopy
