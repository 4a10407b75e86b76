/-
  Where a timer belongs: the place that a search by halves finds. Conditions: as each says.
-/
import Derived.Test.YtpjbblbehbepbaaLoopC
namespace Loopy
set_option linter.unusedSimpArgs false
set_option linter.unusedVariables false
open Valu

def pos (l : List Timer) (t : Timer) : Nat := (l.takeWhile fun u => decide (before u t < 0)).length
theorem pos_le (l : List Timer) (t : Timer) : pos l t ≤ l.length := by
  unfold pos
  exact (List.takeWhile_sublist _).length_le
theorem lay_pos (t : Timer) : ∀ l : List Timer, lay l t = l.take (pos l t) ++ t :: l.drop (pos l t)
  | [] => rfl
  | u :: r => by
    unfold lay pos
    by_cases h : before u t < 0
    · rw [if_pos h, List.takeWhile_cons_of_pos (by simpa using h), lay_pos t r]
      simp [pos]
    · rw [if_neg h, List.takeWhile_cons_of_neg (by simpa using h)]
      simp
theorem pos_eq (t : Timer) : ∀ (l : List Timer) (i : Nat), i ≤ l.length → (∀ k x, k < i → l[k]? = some x → before x t < 0) → (∀ x, l[i]? = some x → ¬ before x t < 0) → pos l t = i
  | [], i, hi, _, _ => by simp at hi; subst hi; rfl
  | u :: r, 0, _, _, h2 => by
    unfold pos
    rw [List.takeWhile_cons_of_neg (by simpa using h2 u rfl)]
    rfl
  | u :: r, i + 1, hi, h1, h2 => by
    have ih := pos_eq t r i (by simpa using hi) (fun k x hk hx => h1 (k + 1) x (by omega) (by simpa using hx)) (fun x hx => h2 x (by simpa using hx))
    unfold pos at ih ⊢
    rw [List.takeWhile_cons_of_pos (by simpa using h1 0 u (by omega) rfl), List.length_cons, ih]
theorem sorted_low {l : List Timer} (hs : l.Pairwise Lt) {t : Timer} {i j : Nat} {x y : Timer} (hij : i ≤ j) (hx : l[i]? = some x) (hy : l[j]? = some y) (h : before y t < 0) : before x t < 0 := by
  rcases Nat.lt_or_ge i j with hlt | hge
  · obtain ⟨h1, e1⟩ := List.getElem?_eq_some_iff.1 hx
    obtain ⟨h2, e2⟩ := List.getElem?_eq_some_iff.1 hy
    have := List.pairwise_iff_getElem.1 hs i j h1 h2 hlt
    rw [e1, e2] at this
    exact before_lt.2 (this.trans (before_lt.1 h))
  · obtain rfl : i = j := by omega
    rw [hx] at hy
    injection hy with hy
    rw [hy]; exact h
end Loopy
