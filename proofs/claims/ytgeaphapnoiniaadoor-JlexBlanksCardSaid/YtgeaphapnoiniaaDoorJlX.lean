/-
  JlexBlanks' walk, for every text. Conditions: the library's table lies where it lies.
-/
import Derived.Test.YtgeaphapnoiniaaDoorJlV
namespace Go.Proofs.YtgeaphapnoiniaaDoor
open Go.RowKit
theorem blanks_walk (s : ByteArray) (w : World) (he : Env w) (h4 : 4 ≤ w.heap.size) (hm : s.size ≤ 140737488351232) :
    Calls Tryd.prog 6 #[.string s] w fun e w' => e = .returned (.bool true) ∧ Below w.heap.size w w' := by
  have ht := tokens_any s w he h4 (by omega)
  cases ha : Lexy.toks s.data.toList with
  | err n =>
    rw [ha] at ht
    exact blanks_err n (toks_err ha) s w he h4 ht
  | ok ts =>
    by_cases hl : s.size ≤ 200
    · exact blanks_yes s ts hl ha w he h4
    · rw [ha] at ht
      exact blanks_long ts s (by omega) w he h4 ht
end Go.Proofs.YtgeaphapnoiniaaDoor
