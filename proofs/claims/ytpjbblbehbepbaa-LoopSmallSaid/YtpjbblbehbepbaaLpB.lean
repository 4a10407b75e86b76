/-
  The small functions of the loop. Conditions: none.
-/
import Derived.Test.YtpjbblbehbepbaaLpA
namespace Go.Proofs.Ytpjbblbehbepbaa
set_option linter.unusedSimpArgs false
set_option linter.unusedVariables false
open Go.RowKit

set_option maxHeartbeats 400000 in
theorem within_any (n l h : Int) (w : World) :
    Calls Try.prog 24 #[.int .i64 n, .int .i64 l, .int .i64 h] w fun e w' => e = .returned (.bool (Valu.within n l h)) ∧ w = w' := by
  by_cases h1 : l ≤ n
  all_goals
    by_cases h2 : n ≤ h
  all_goals
    go_enter Try.func24, Try.ntmps24
    go_wp2
    go_ret
    exact ⟨ret_bool (by simp [Valu.within, h1, h2]), rfl⟩
theorem nan_any (n : Int) (w : World) :
    Calls Try.prog 48 #[.int .i64 n] w fun e w' => e = .returned (.bool false) ∧ w = w' := by
  go_enter Try.func48, Try.ntmps48
  go_wp2
  go_ret
  exact ⟨ret_bool (by simp), rfl⟩
theorem compare_any (a b : Int) (w : World) :
    Calls Try.prog 45 #[.int .i64 a, .int .i64 b] w fun e w' => e = .returned (.int .i64 (Go.Lib.compareInt a b)) ∧ w = w' := by
  rcases Int.lt_trichotomy a b with h | h | h
  · have h2 : ¬ b < a := by omega
    go_enter Try.func45, Try.ntmps45
    go_wp2_with (go_at_call 48; refine (nan_any _ _).mono ?_; rintro e w' ⟨rfl, rfl⟩)
    go_ret
    exact ⟨by simp [Go.Lib.compareInt, h], rfl⟩
  · subst h
    have h2 : ¬ a < a := by omega
    go_enter Try.func45, Try.ntmps45
    go_wp2_with (go_at_call 48; refine (nan_any _ _).mono ?_; rintro e w' ⟨rfl, rfl⟩)
    go_ret
    exact ⟨by simp [Go.Lib.compareInt], rfl⟩
  · have h2 : ¬ a < b := by omega
    go_enter Try.func45, Try.ntmps45
    go_wp2_with (go_at_call 48; refine (nan_any _ _).mono ?_; rintro e w' ⟨rfl, rfl⟩)
    go_ret
    exact ⟨by simp [Go.Lib.compareInt, h, h2], rfl⟩
def or2 (x y : Int) : Int := if x = 0 then y else x
/-- cmp.Or of two. -/
theorem or_any (g : Nat) (x y : Int) (w : World) (h0 : w.cell? ⟨g, 0, none⟩ = some (.int .i64 x)) (h1 : w.cell? ⟨g, 1, none⟩ = some (.int .i64 y)) :
    Calls Try.prog 44 #[.slice (some ⟨g, 0, none⟩) 2 2] w fun e w' => e = .returned (.int .i64 (or2 x y)) ∧ w = w' := by
  by_cases hx : x = 0
  · subst hx
    by_cases hy : y = 0
    · subst hy
      go_enter Try.func44, Try.ntmps44
      go_wp2
      refine wp_loop_rounds 3 ?_
      repeat any_goals (rw [rounds_succ]; go_wp2)
      go_ret
      exact ⟨by simp [or2], rfl⟩
    · have hy' : (y == 0) = false := by simpa using hy
      have hy2 : (y != 0) = true := by simpa using hy
      go_enter Try.func44, Try.ntmps44
      go_wp2
      refine wp_loop_rounds 3 ?_
      repeat any_goals (rw [rounds_succ]; go_wp2)
      go_ret
      exact ⟨by simp [or2], rfl⟩
  · have hx' : (x == 0) = false := by simpa using hx
    have hx2 : (x != 0) = true := by simpa using hx
    go_enter Try.func44, Try.ntmps44
    go_wp2
    refine wp_loop_rounds 3 ?_
    repeat any_goals (rw [rounds_succ]; go_wp2)
    go_ret
    exact ⟨by rw [or2, if_neg hx]; rfl, rfl⟩
end Go.Proofs.Ytpjbblbehbepbaa
