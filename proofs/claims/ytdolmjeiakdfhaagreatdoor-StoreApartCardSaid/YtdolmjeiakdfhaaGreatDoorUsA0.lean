/-
  Addresses compared, checked, written; the origin of a text. Conditions: the library's variables hold what they hold; the parts are short; the path lies in memory.
-/
import Derived.Test.YtdolmjeiakdfhaaGreatDoorUrZ
namespace Go.Proofs.YtdolmjeiakdfhaaGreatDoor
set_option linter.unusedSimpArgs false
set_option linter.unusedVariables false
open Go.RowKit

theorem txts_getD (l : List (List UInt8)) (j : Nat) (h : j < l.length) : (txts l)[j]? = some (.string ((l.map byt).getD j ByteArray.empty)) := by
  simp [txts, h, List.getD]
end Go.Proofs.YtdolmjeiakdfhaaGreatDoor
