/-
  Jobs and timers compared. Conditions: none.
-/
import Derived.Test.YtpjbblbehbepbaaLpA
namespace Go.Proofs.Ytpjbblbehbepbaa
set_option linter.unusedSimpArgs false
set_option linter.unusedVariables false
open Go.RowKit

theorem job_ext (a b : Loopy.Job) : (decide (a = b)) = (decide (a.id = b.id) && (decide (a.src = b.src) && (decide (a.small = b.small) && (decide ((byt a.call).toList = (byt b.call).toList) && decide (a.arg = b.arg))))) := by
  rw [byt_list, byt_list, Bool.eq_iff_iff]
  obtain ⟨a0, a1, a2, a3, a4⟩ := a
  obtain ⟨b0, b1, b2, b3, b4⟩ := b
  simp
theorem timer_ext (a b : Loopy.Timer) : (decide (a = b)) = (decide (a.id = b.id) && (decide (a.due = b.due) && (decide (a.every = b.every) && (decide (a.turn = b.turn) && decide ((byt a.call).toList = (byt b.call).toList))))) := by
  rw [byt_list, byt_list, Bool.eq_iff_iff]
  obtain ⟨a0, a1, a2, a3, a4⟩ := a
  obtain ⟨b0, b1, b2, b3, b4⟩ := b
  simp
theorem eql_job (a b : Loopy.Job) (w : World) : (binOp .eql 39 (jag a) (jag b)).run Try.prog w = .ok (.bool (decide (a = b))) w := by
  have u3 := Try.underlying3
  have a3 := Try.isAgg3
  have z3 := Try.sizeOf3
  have u4 := Try.underlying4
  have a4 := Try.isAgg4
  have z4 := Try.sizeOf4
  have u9 := Try.underlying9
  have a9 := Try.isAgg9
  have z9 := Try.sizeOf9
  have a5 := Try.isAgg33
  have z5 := Try.sizeOf33
  have hS : Try.prog.underlying 39 = some (.struct (Try.prog.fieldsOf 39)) := by kernel_rfl
  have hp : Try.prog.stoodInHeld 39 = false := by kernel_rfl
  rw [job_ext]
  rw [run_eql_struct, show (10000 : Nat) = 9999 + 1 from rfl, run_equalIn_agg w 9999 39 _ _ hS hp]
  simp only [Program.fieldsOf, Try.underlying39]
  go_simp
  by_cases h1 : a.id = b.id <;> by_cases h2 : a.src = b.src <;> by_cases h3 : a.small = b.small <;> by_cases h4 : (byt a.call).toList = (byt b.call).toList <;> simp [h1, h2, h3, h4]
  rw [v_ext]
  by_cases h5 : a.arg.k = b.arg.k <;> by_cases h6 : a.arg.n = b.arg.n <;> by_cases h7 : (byt a.arg.s).toList = (byt b.arg.s).toList <;> simp [h5, h6, h7]
theorem eql_timer (a b : Loopy.Timer) (w : World) : (binOp .eql 49 (tag a) (tag b)).run Try.prog w = .ok (.bool (decide (a = b))) w := by
  have u3 := Try.underlying3
  have a3 := Try.isAgg3
  have z3 := Try.sizeOf3
  have u9 := Try.underlying9
  have a9 := Try.isAgg9
  have z9 := Try.sizeOf9
  have hS : Try.prog.underlying 49 = some (.struct (Try.prog.fieldsOf 49)) := by kernel_rfl
  have hp : Try.prog.stoodInHeld 49 = false := by kernel_rfl
  rw [timer_ext]
  rw [run_eql_struct, show (10000 : Nat) = 9999 + 1 from rfl, run_equalIn_agg w 9999 49 _ _ hS hp]
  simp only [Program.fieldsOf, Try.underlying49]
  go_simp
  by_cases h1 : a.id = b.id <;> by_cases h2 : a.due = b.due <;> by_cases h3 : a.every = b.every <;> by_cases h4 : a.turn = b.turn <;> by_cases h5 : (byt a.call).toList = (byt b.call).toList <;> simp [h1, h2, h3, h4, h5]
theorem neq_of_eql {t : TypeId} {x y : Array Value} {b : Bool} {w : World} (h : (binOp .eql t (.agg x) (.agg y)).run Try.prog w = .ok (.bool b) w) : (binOp .neq t (.agg x) (.agg y)).run Try.prog w = .ok (.bool (!b)) w := by
  rw [run_eql_struct] at h
  rw [run_neq_struct]
  cases hr : (Op.equalIn 10000 t (.agg x) (.agg y)).run Try.prog w with
  | ok x w1 =>
    rw [hr] at h
    simp only [Result.andThen_ok] at h ⊢
    injection h with h1 h2
    injection h1 with h1
    rw [h1, h2]
  | halt x w1 => rw [hr] at h; simp [Result.andThen] at h
theorem neq_job (a b : Loopy.Job) (w : World) : (binOp .neq 39 (jag a) (jag b)).run Try.prog w = .ok (.bool (!decide (a = b))) w := neq_of_eql (eql_job a b w)
theorem neq_timer (a b : Loopy.Timer) (w : World) : (binOp .neq 49 (tag a) (tag b)).run Try.prog w = .ok (.bool (!decide (a = b))) w := neq_of_eql (eql_timer a b w)
end Go.Proofs.Ytpjbblbehbepbaa
