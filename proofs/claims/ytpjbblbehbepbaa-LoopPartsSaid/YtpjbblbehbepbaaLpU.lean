/-
  A job, or a timer, is asked for; one that is taken away. Conditions: the loop's rows are its own; the loop is right.
-/
import Derived.Test.YtpjbblbehbepbaaLpS
import Derived.Test.YtpjbblbehbepbaaLpSb
import Derived.Test.YtpjbblbehbepbaaLpSc
import Derived.Test.YtpjbblbehbepbaaLpT
import Derived.Test.YtpjbblbehbepbaaLpTb
import Derived.Test.YtpjbblbehbepbaaLpTc
import Derived.Test.YtpjbblbehbepbaaLpTd
namespace Go.Proofs.Ytpjbblbehbepbaa
set_option linter.unusedSimpArgs false
set_option linter.unusedVariables false
open Go.RowKit

theorem post_any (q : Loopy.Loop) (a : Loopy.Ask) (s : Bool) (B : Nat) (T S R : Value) (w : World) (ho : Own w B q T S R) (hB : B ≤ w.heap.size) (hr : Loopy.Right q) :
    Calls Try.prog 39 #[.agg (qac q T S R a), .bool s] w fun e w' => AskOut w B T S R (Loopy.post q a s) e w' := by
  cases s
  · cases hw : Valu.within a.src 1 4
    · exact post_src q a B T S R w ho hB hr hw
    · cases hf : Loopy.full q.tasks.length q
      · exact post_ok q a B T S R w ho hB hr hw hf
      · exact post_full q a B T S R w ho hB hr hw hf
  · cases hf : Loopy.full q.smalls.length q
    · exact small_ok q a B T S R w ho hB hr hf
    · exact small_full q a B T S R w ho hB hr hf
theorem timer_any (q : Loopy.Loop) (a : Loopy.Ask) (s : Bool) (B : Nat) (T S R : Value) (w : World) (ho : Own w B q T S R) (hB : B ≤ w.heap.size) (hr : Loopy.Right q) :
    Calls Try.prog 40 #[.agg (qac q T S R a), .bool s] w fun e w' => AskOut w B T S R (Loopy.timer q a s) e w' := by
  cases s
  · cases hw : Valu.within a.n 0 1000000
    · exact after_n q a B T S R w ho hB hr hw
    · by_cases hl : 1000000000 < q.now + a.n
      · exact after_late q a B T S R w ho hB hr hw hl
      · cases hf : Loopy.full q.timers.length q
        · exact after_ok q a B T S R w ho hB hr hw hl hf
        · exact after_full q a B T S R w ho hB hr hw hl hf
  · cases hw : Valu.within a.n 1 1000000
    · exact every_n q a B T S R w ho hB hr hw
    · by_cases hl : 1000000000 < q.now + a.n
      · exact every_late q a B T S R w ho hB hr hw hl
      · cases hf : Loopy.full q.timers.length q
        · exact every_ok q a B T S R w ho hB hr hw hl hf
        · exact every_full q a B T S R w ho hB hr hw hl hf
end Go.Proofs.Ytpjbblbehbepbaa
