/-
  What the rows' lists give: the library's variables hold what they hold. Conditions: the world has the program's shape.
-/
import Derived.Test.YtdolmjeiakdfhaaGreatDoorRows
import Derived.Test.YtdolmjeiakdfhaaGreatDoorUrQ
import Derived.Lib.LaidU8T
import Derived.PinnedBridge
import Derived.LaidMore
import Derived.Lib.LaidTab
import Derived.Stop.LaidErr
import Derived.Deep.DeepHandedRow
import Derived.Deep.DeepWitnessRowRef
namespace Go.Proofs.YtdolmjeiakdfhaaGreatDoor
set_option linter.unusedSimpArgs false
set_option linter.unusedVariables false
open Go.RowKit
def laidList : List (String × DataW Unit) := [("math/bits.deBruijn32tab", Rows.laid_math_bits_deBruijn32tab), ("math/bits.deBruijn64tab", Rows.laid_math_bits_deBruijn64tab), ("internal/strconv.uint64pow10", Rows.laid_internal_strconv_uint64pow10), ("unicode/utf8.acceptRanges", Rows.laid_unicode_utf8_acceptRanges), ("strconv.ErrRange", Rows.laid_strconv_ErrRange), ("strconv.ErrSyntax", Rows.laid_strconv_ErrSyntax), ("unicode/utf8.first", Rows.laid_unicode_utf8_first)]
theorem gTypePow : (Tryz.prog.globals[3]?).map (·.type) = some 181 := by kernel_rfl
theorem tabCellsPow : Tryz.prog.cellsOf 181 = 20 := by kernel_rfl
theorem wordCellsPow : Tryz.prog.cellsOf 162 = 1 := by kernel_rfl
theorem pow_data : (Rows.laid_internal_strconv_uint64pow10 : DataW Unit) = Lib.tabData .u64 Lib.pow10Tab := by kernel_rfl
theorem acc_data : (Rows.laid_unicode_utf8_acceptRanges : DataW Unit) = Lib.acceptData := by kernel_rfl
theorem fst_data : Rows.laid_unicode_utf8_first = Lib.firstData := Pinned.utf8First_eq
theorem u8t : U8Types Tryz.prog Tryz.lays230_ren := ⟨by kernel_rfl, by kernel_rfl, by kernel_rfl, by kernel_rfl⟩
theorem u8x : U8Extra Tryz.prog Tryz.lays230_ren := ⟨by kernel_rfl, by kernel_rfl, by kernel_rfl, by kernel_rfl, by kernel_rfl, by kernel_rfl, by kernel_rfl⟩
theorem heap6 {W : World} (h : W.ShapedOpen Tryz.prog) : 6 ≤ W.heap.size := by
  have hs : (((begin Tryz.prog (fun _ _ => 0) default).world.heap[5]?).bind Obj.row?).isSome = true := by kernel_rfl
  obtain ⟨⟨z, t⟩, hz⟩ := Option.isSome_iff_exists.1 hs
  have hg : 5 < Tryz.prog.globals.size := of_decide_eq_true (by kernel_rfl)
  obtain ⟨cs, hc, _⟩ := h.1 5 z t hg hz
  have := (Array.getElem?_eq_some_iff.1 hc).1
  omega
theorem env_of {W : World} (h : laidMet Tryz.prog laidList W) (hs : W.ShapedOpen Tryz.prog) : Env W := by
  have h2 := h
  unfold laidList at h2
  rw [pow_data, acc_data, fst_data] at h2
  refine ⟨?_, Lib.tabIs_of_head gPow gTypePow Tryz.underlying181 Tryz.underlying162 wordCellsPow tabCellsPow h2.tail.tail, ?_, heap6 hs⟩
  · exact utf8Tabs_of_readsT u8t u8x (Lib.laidMet.reads h2 (.tail _ (.tail _ (.tail _ (.tail _ (.tail _ (.tail _ (.head _)))))))) (Lib.laidMet.reads h2 (.tail _ (.tail _ (.tail _ (.head _)))))
  · exact cell_of_shapedOpen_int (zero := #[.int .i64 0]) (t := 3) hs (of_decide_eq_true (by kernel_rfl)) (by kernel_rfl) rfl (by kernel_rfl) (by kernel_rfl) Tryz.underlying3
end Go.Proofs.YtdolmjeiakdfhaaGreatDoor
