/-
  ValueOrder's walk: the array of three. Conditions: the library's table lies where it lies; a text has fewer than 2^47 bytes.
-/
import Derived.Test.YtollnadeaffomaaDoorVaRingW
import Derived.Test.YtollnadeaffomaaDoorVaFlt
import Derived.Test.YtollnadeaffomaaDoorVaFgt
import Derived.Test.YtollnadeaffomaaDoorVaFge
import Derived.Test.YtollnadeaffomaaDoorVaFeq
namespace Go.Proofs.YtollnadeaffomaaDoor
open Go.RowKit

theorem idx0 (x y z : Valu.V) (w : World) : (Instr.index 32 (.agg #[.int .i64 x.k, .int .i64 x.n, .string (byt x.s), .int .i64 y.k, .int .i64 y.n, .string (byt y.s), .int .i64 z.k, .int .i64 z.n, .string (byt z.s)]) (.int .i64 0)).run Tryd.prog w = .ok (vag x) w := by kernel_rfl
theorem idx1 (x y z : Valu.V) (w : World) : (Instr.index 32 (.agg #[.int .i64 x.k, .int .i64 x.n, .string (byt x.s), .int .i64 y.k, .int .i64 y.n, .string (byt y.s), .int .i64 z.k, .int .i64 z.n, .string (byt z.s)]) (.int .i64 1)).run Tryd.prog w = .ok (vag y) w := by kernel_rfl
theorem idx2 (x y z : Valu.V) (w : World) : (Instr.index 32 (.agg #[.int .i64 x.k, .int .i64 x.n, .string (byt x.s), .int .i64 y.k, .int .i64 y.n, .string (byt y.s), .int .i64 z.k, .int .i64 z.n, .string (byt z.s)]) (.int .i64 2)).run Tryd.prog w = .ok (vag z) w := by kernel_rfl
end Go.Proofs.YtollnadeaffomaaDoor
