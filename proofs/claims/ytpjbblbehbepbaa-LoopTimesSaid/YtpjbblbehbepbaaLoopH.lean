/-
  The play of loopLives, reckoned. Conditions: none.
-/
import Derived.Test.YtpjbblbehbepbaaLoopG
namespace Loopy
set_option linter.unusedSimpArgs false
set_option linter.unusedVariables false
open Valu
def nil : V := ⟨0, 0, []⟩
def lives : List Ask := [⟨1, 4, 0, [116], nil⟩, ⟨2, 0, 0, [115], nil⟩, ⟨4, 0, 5, [101], nil⟩, ⟨6, 0, 10, [], nil⟩]
def lj (i : Nat) : Job := (play lives).1.getD i ⟨0, 0, false, [], nil⟩
theorem lives_ok : (play lives).2.2 = 0 ∧ (play lives).1.length = 4 ∧ (play lives).2.1.now = 10 ∧ (play lives).2.1.timers.length = 1 := by decide +kernel
theorem lives_jobs : (play lives).1 = [lj 0, lj 1, lj 2, lj 3] := by decide +kernel
theorem lives_calls : (lj 0).call = [115] ∧ (lj 1).call = [116] ∧ (lj 3).call = [101] ∧ (lj 3).arg.n = 1 := by decide +kernel
end Loopy
