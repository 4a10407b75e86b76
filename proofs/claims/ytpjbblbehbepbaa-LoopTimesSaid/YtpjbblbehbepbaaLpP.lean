/-
  What comes next, whatever the loop; and Next. Conditions: as each says.
-/
import Derived.Test.YtpjbblbehbepbaaLpOb
import Derived.Test.YtpjbblbehbepbaaLpOc
import Derived.Test.YtpjbblbehbepbaaLpOd
namespace Go.Proofs.Ytpjbblbehbepbaa
set_option linter.unusedSimpArgs false
set_option linter.unusedVariables false
open Go.RowKit

theorem next_any (q : Loopy.Loop) (til : Int) (B : Nat) (T S R : Value) (w : World) (ho : Own w B q T S R) (hB : B ≤ w.heap.size) (hr : Loopy.Right q) :
    Calls Try.prog 25 #[.agg (lag q T S R), .int .i64 til] w fun e w' => NextOut w B T S R (Loopy.next q til) e w' := by
  have l1 : q.tasks.length ≤ 1000 := by have := hr.l1; omega
  have l2 : q.smalls.length ≤ 1000 := by have := hr.l2; omega
  have l3 : q.timers.length ≤ 1000 := by have := hr.l3; omega
  obtain ⟨now, nxt, tasks, smalls, timers⟩ := q
  cases smalls with
  | cons j s =>
    cases timers with
    | nil => exact next_small_a now nxt til tasks j s B T S R w ho hB l1 l2 l3
    | cons t r =>
      by_cases h1 : t.due ≤ now
      · exact next_small_b now nxt til tasks j s t r B T S R w ho hB l1 l2 l3 h1
      · cases tasks with
        | cons i u => exact next_small_e now nxt til j s t r i u B T S R w ho hB l1 l2 l3 (by omega)
        | nil =>
          by_cases h2 : t.due ≤ til
          · exact next_small_c now nxt til j s t r B T S R w ho hB l1 l2 l3 (by omega) h2
          · exact next_small_d now nxt til j s t r B T S R w ho hB l1 l2 l3 (by omega) (by omega)
  | nil =>
    cases timers with
    | nil =>
      cases tasks with
      | cons i u => exact next_task_a now nxt til i u B T S R w ho hB l1 l2 l3
      | nil => exact next_idle_a now nxt til B T S R w ho hB l1 l2 l3
    | cons t r =>
      by_cases h1 : t.due ≤ now
      · exact next_fire_a now nxt til t r tasks B T S R w ho hB l1 l2 l3 h1 hr
      · cases tasks with
        | cons i u => exact next_task_b now nxt til t r i u B T S R w ho hB l1 l2 l3 (by omega)
        | nil =>
          by_cases h2 : t.due ≤ til
          · exact next_fire_b now nxt til t r B T S R w ho hB l1 l2 l3 (by omega) h2 hr
          · exact next_idle_b now nxt til t r B T S R w ho hB l1 l2 l3 (by omega) (by omega)
end Go.Proofs.Ytpjbblbehbepbaa
