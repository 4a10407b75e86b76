/-
  The two closures of Check. Conditions: none.
-/
import Derived.Test.YtpjbblbehbepbaaLpJ
import Derived.Test.YtpjbblbehbepbaaLoopE
import Derived.WalkLawsBesides
namespace Go.Proofs.Ytpjbblbehbepbaa
set_option linter.unusedSimpArgs false
set_option linter.unusedVariables false
open Go.RowKit

theorem within_is (n l h : Int) (b : Bool) (hb : Valu.within n l h = b) (w : World) :
    Calls Try.prog 24 #[.int .i64 n, .int .i64 l, .int .i64 h] w fun e w' => e = .returned (.bool b) ∧ w = w' := by rw [← hb]; exact within_any n l h w
theorem within_q (n l h : Int) (b : Bool) (hb : Valu.within n l h = b) (w : World) :
    Calls Try.prog 24 #[.int .i64 n, .int .i64 l, .int .i64 h] w fun e w' => e = .returned (.bool b) ∧ w' = w := (within_is n l h b hb w).mono fun _ _ ⟨h1, h2⟩ => ⟨h1, h2.symm⟩
set_option maxHeartbeats 1000000 in
theorem task_any (j : Loopy.Job) (w : World) :
    Calls Try.prog 31 #[jag j] w fun e w' => e = .returned (.bool (!Loopy.taskOk j)) ∧ Below w.heap.size w w' := by
  obtain ⟨id, src, s, call, arg⟩ := j
  have HW := Lib.hid (fun w => within_any src 1 4 w)
  have hsp : Loopy.taskOk ⟨id, src, s, call, arg⟩ = (!s && Valu.within src 1 4) := rfl
  rw [hsp]
  obtain ⟨b, hb⟩ : ∃ b, Valu.within src 1 4 = b := ⟨_, rfl⟩
  rw [hb] at HW ⊢
  clear hsp hb
  cases s
  · go_enter Try.func31, Try.ntmps31
    go_wp2_with (fail)
    refine (HW.out _).mono ?_
    rintro e w1 ⟨rfl, rfl⟩
    go_wp2
    go_ret
    exact ⟨ret_bool (by simp), below1 _ _⟩
  · go_enter Try.func31, Try.ntmps31
    go_wp2
    go_ret
    exact ⟨ret_bool (by simp), below1 _ _⟩
set_option maxHeartbeats 1000000 in
theorem small_any (j : Loopy.Job) (w : World) :
    Calls Try.prog 32 #[jag j] w fun e w' => e = .returned (.bool (!Loopy.smallOk j)) ∧ Below w.heap.size w w' := by
  obtain ⟨id, src, s, call, arg⟩ := j
  have hsp : Loopy.smallOk ⟨id, src, s, call, arg⟩ = (s && decide (src = 0)) := rfl
  rw [hsp]
  clear hsp
  cases s
  · go_enter Try.func32, Try.ntmps32
    go_wp2
    go_ret
    exact ⟨ret_bool (by simp), below1 _ _⟩
  · go_enter Try.func32, Try.ntmps32
    go_wp2
    go_ret
    exact ⟨ret_bool (by simp [bne, beq_dec]), below1 _ _⟩
section
variable {P : Program} {ops : Array Oper} {rest : List Oper} {o : Oper} {a : Act} {w : World} {Q : Exit → Act → World → Prop}
/-- the greatest of three, under a name. -/
theorem wpList_max3 (hgd : o.guard = none) (x y z : Operand) (ts : Array TypeId) (hop : o.op = .call { callee := .builtin .max, args := #[x, y, z], argTypes := ts })
    (A B C M : Int) (hx : a.eval x = .int .i64 A) (hy : a.eval y = .int .i64 B) (hz : a.eval z = .int .i64 C) (hM : max (max A B) C = M)
    (h : wpList P ops Q rest (a.put o.dst (.int .i64 M)) w) : wpList P ops Q (o :: rest) a w := by
  refine wpList_plain hgd fun K hK => ?_
  have hrun := run_max_int3 (P := P) (w := w) ts o.type .i64 .i64 .i64 A B C
  have e : (if C > (if B > A then B else A) then C else (if B > A then B else A)) = M := by rw [← hM]; simp only [Int.max_def]; split <;> split <;> split <;> (try split) <;> omega
  rw [e] at hrun
  unfold Oper.wp execOp
  simp only [hop, resolve, invoke, builtin, Sem.run_bind, Sem.run_pure, Result.andThen_ok, List.map_toArray, List.map_cons, List.map_nil, hx, hy, hz, hrun]
  exact hK _ _ h
theorem wpList_max2 (hgd : o.guard = none) (x y : Operand) (ts : Array TypeId) (hop : o.op = .call { callee := .builtin .max, args := #[x, y], argTypes := ts })
    (A B M : Int) (hx : a.eval x = .int .i64 A) (hy : a.eval y = .int .i64 B) (hM : max A B = M)
    (h : wpList P ops Q rest (a.put o.dst (.int .i64 M)) w) : wpList P ops Q (o :: rest) a w := by
  refine wpList_plain hgd fun K hK => ?_
  have hrun := run_max_int2 (P := P) (w := w) ts o.type .i64 .i64 A B
  have e : (if B > A then B else A) = M := by rw [← hM]; simp only [Int.max_def]; split <;> split <;> omega
  rw [e] at hrun
  unfold Oper.wp execOp
  simp only [hop, resolve, invoke, builtin, Sem.run_bind, Sem.run_pure, Result.andThen_ok, List.map_toArray, List.map_cons, List.map_nil, hx, hy, hrun]
  exact hK _ _ h
end
end Go.Proofs.Ytpjbblbehbepbaa
