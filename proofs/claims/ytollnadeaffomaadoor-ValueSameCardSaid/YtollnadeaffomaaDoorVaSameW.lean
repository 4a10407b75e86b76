/-
  ValueSame's walk, for every two values. Conditions: the library's table lies where it lies; a text has fewer than 2^47 bytes.
-/
import Derived.Test.YtollnadeaffomaaDoorVaSameN
import Derived.Test.YtollnadeaffomaaDoorVaSameY
namespace Go.Proofs.YtollnadeaffomaaDoor
open Go.RowKit
theorem same_walk (a b : Valu.V) (w : World) (he : Env w) (h4 : 4 ≤ w.heap.size) (ha : a.s.length ≤ 140737488355328) (hb : b.s.length ≤ 140737488355328) :
    Calls Tryd.prog 6 #[vag a, vag b] w fun e w' => e = .returned (.bool true) ∧ Below w.heap.size w w' := by
  cases hs : Valu.same a b
  · exact same_walk_false a b hs w he h4 ha hb
  · exact same_walk_true a b hs w he h4 ha hb
end Go.Proofs.YtollnadeaffomaaDoor
