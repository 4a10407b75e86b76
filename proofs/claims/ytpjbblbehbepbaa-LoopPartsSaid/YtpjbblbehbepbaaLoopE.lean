/-
  Steps of the check of a loop. Conditions: none.
-/
import Derived.Test.YtpjbblbehbepbaaLoopD
import Derived.Maps.OwnOps
import Derived.Maps.Views
namespace Loopy
set_option linter.unusedSimpArgs false
set_option linter.unusedVariables false
open Valu Go Go.Maps

/-- what the map of the seen numbers reads as. -/
def seen (l : List Int) : DataW Unit := setOf (.lit (.int .i64 1)) (l.map (Lit.int .i64))
theorem seen_keys (l : List Int) : ∀ x ∈ l.map (Lit.int .i64), WideAt.IsKeyLit x := by
  intro x hx
  obtain ⟨n, _, rfl⟩ := List.mem_map.1 hx
  trivial
theorem seen_map (l : List Int) : IsMap (seen l) := (tidy_setOf _ _ (seen_keys l)).isMap
theorem seen_snoc (l : List Int) (n : Int) : seen (l ++ [n]) = (seen l).put (.int .i64 n) (.lit (.int .i64 1)) := by
  unfold seen
  rw [List.map_append, List.map_cons, List.map_nil, setOf_snoc]
theorem atKey_seen (n : Int) (z : DataW Unit) : ∀ l : List Int, (seen l.reverse).atKey (.int .i64 n) z = if l.contains n then .lit (.int .i64 1) else z
  | [] => rfl
  | m :: l => by
    rw [List.reverse_cons, seen_snoc]
    by_cases h : n = m
    · subst h
      rw [atKey_put_same (k := .int .i64 n) (seen_map l.reverse) trivial]
      simp
    · rw [atKey_put_other (by intro e; injection e with _ e; exact h e), atKey_seen n z l]
      have : (m :: l).contains n = l.contains n := by simp [h]
      rw [this]
theorem seen_num {l : List Int} {n c : Int} (h : (seen l.reverse).atKey (.int .i64 n) (.lit (.int .i64 0)) = .lit (.int .i64 c)) : (c == 1) = l.contains n := by
  rw [atKey_seen] at h
  by_cases hc : l.contains n = true
  · rw [if_pos hc] at h; injection h with h; injection h with _ h; rw [hc, ← h]; rfl
  · rw [if_neg hc] at h; injection h with h; injection h with _ h
    have : l.contains n = false := by simpa using hc
    rw [this, ← h]; rfl
theorem fresh_step (next : Int) (l : List Int) (k : Nat) (n : Int) (h : l[k]? = some n) :
    fresh next (l.take k).reverse (l.drop k) = (within n 0 (next - 1) && !((l.take k).reverse.contains n) && fresh next (l.take (k + 1)).reverse (l.drop (k + 1))) := by
  obtain ⟨h1, h2⟩ := List.getElem?_eq_some_iff.1 h
  rw [List.drop_eq_getElem_cons h1, h2, List.take_add_one, h]
  simp [fresh]
/-- the one ahead. -/
def ahead (l : List Timer) : Nat → Option Timer
  | 0 => none
  | k + 1 => l[k]?
theorem rising_zero (now : Int) (l : List Timer) (t : Timer) (h : l[0]? = some t) : rising now (ahead l 0) (l.drop 0) = (timerOk now t && rising now (ahead l 1) (l.drop 1)) := by
  cases l with
  | nil => simp at h
  | cons u r => simp at h; subst h; rfl
theorem rising_step (now : Int) (l : List Timer) (k : Nat) (u t : Timer) (h0 : l[k]? = some u) (h : l[k + 1]? = some t) :
    rising now (ahead l (k + 1)) (l.drop (k + 1)) = (timerOk now t && decide (before u t < 0) && rising now (ahead l (k + 2)) (l.drop (k + 2))) := by
  obtain ⟨h1, h2⟩ := List.getElem?_eq_some_iff.1 h
  rw [List.drop_eq_getElem_cons h1, h2]
  simp only [ahead, h0, h, rising]
theorem rising_end (now : Int) (l : List Timer) (o : Option Timer) : rising now o (l.drop l.length) = true := by simp [rising]
end Loopy
