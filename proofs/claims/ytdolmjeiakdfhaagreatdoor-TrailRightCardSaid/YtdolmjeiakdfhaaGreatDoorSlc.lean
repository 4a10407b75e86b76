/-
  Slices of a text as steps of a region that draws. Conditions: as each says.
-/
import Derived.Test.YtdolmjeiakdfhaaGreatDoorTxt
namespace Go.Proofs.YtdolmjeiakdfhaaGreatDoor
set_option linter.unusedSimpArgs false
set_option linter.unusedVariables false
open Go.RowKit
section
variable {ops : Array Oper} {o : Oper} {a : Act} {S : World → Prop}
theorem yields_upto (hw : Region.wanted o (yielded ops a.tmps) = true) (x y : Operand) (ho : o.op = .slice 9 x none (some y) none) (s : List UInt8) (n : Int) (hx : a.eval x = .string (byt s)) (hy : a.eval y = .int .i64 n) (h0 : 0 ≤ n) (h1 : n ≤ s.length) :
    YieldsIf Tryz.prog ops S o (.string (byt (s.take n.toNat))) a :=
  .inl ⟨hw, fun w _ => by
    have := run_upto s n h0 h1 w
    unfold execOp
    simp only [ho, hx, hy, Option.map_none, Option.map_some, Instr.sliceAt, Sem.run_bind, Sem.run_pure, run_underlying (P := Tryz.prog) Tryz.underlying9, Result.andThen_ok, this]⟩
theorem yields_from (hw : Region.wanted o (yielded ops a.tmps) = true) (x y : Operand) (ho : o.op = .slice 9 x (some y) none none) (s : List UInt8) (n : Int) (hx : a.eval x = .string (byt s)) (hy : a.eval y = .int .i64 n) (h0 : 0 ≤ n) (h1 : n ≤ s.length) :
    YieldsIf Tryz.prog ops S o (.string (byt (s.drop n.toNat))) a :=
  .inl ⟨hw, fun w _ => by
    have := run_from s n h0 h1 w
    unfold execOp
    simp only [ho, hx, hy, Option.map_none, Option.map_some, Instr.sliceAt, Sem.run_bind, Sem.run_pure, run_underlying (P := Tryz.prog) Tryz.underlying9, Result.andThen_ok, this]⟩
end
end Go.Proofs.YtdolmjeiakdfhaaGreatDoor
