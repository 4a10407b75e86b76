/-
  A map of seen numbers, as data. Conditions: none.
-/
import Derived.Maps.OwnOps
import Derived.Maps.Views
import Derived.Test.YtbhccidchjmjlaaGen
namespace Seeny
set_option linter.unusedSimpArgs false
set_option linter.unusedVariables false
open Go Go.Maps

/-- what the map of the seen numbers reads as. -/
def seen (l : List Int) : DataW Unit := setOf (.lit (.int .i64 1)) (l.map (Lit.int .i64))
theorem seen_keys (l : List Int) : ∀ x ∈ l.map (Lit.int .i64), WideAt.IsKeyLit x := by
  intro x hx
  obtain ⟨n, _, rfl⟩ := List.mem_map.1 hx
  trivial
theorem seen_map (l : List Int) : IsMap (seen l) := (tidy_setOf _ _ (seen_keys l)).isMap
theorem seen_snoc (l : List Int) (n : Int) : seen (l ++ [n]) = (seen l).put (.int .i64 n) (.lit (.int .i64 1)) := by
  unfold seen
  rw [List.map_append, List.map_cons, List.map_nil, setOf_snoc]
theorem atKey_seen (n : Int) (z : DataW Unit) : ∀ l : List Int, (seen l.reverse).atKey (.int .i64 n) z = if l.contains n then .lit (.int .i64 1) else z
  | [] => rfl
  | m :: l => by
    rw [List.reverse_cons, seen_snoc]
    by_cases h : n = m
    · subst h
      rw [atKey_put_same (k := .int .i64 n) (seen_map l.reverse) trivial]
      simp
    · rw [atKey_put_other (by intro e; injection e with _ e; exact h e), atKey_seen n z l]
      have : (m :: l).contains n = l.contains n := by simp [h]
      rw [this]
theorem seen_num {l : List Int} {n c : Int} (h : (seen l.reverse).atKey (.int .i64 n) (.lit (.int .i64 0)) = .lit (.int .i64 c)) : (c == 1) = l.contains n := by
  rw [atKey_seen] at h
  by_cases hc : l.contains n = true
  · rw [if_pos hc] at h; injection h with h; injection h with _ h; rw [hc, ← h]; rfl
  · rw [if_neg hc] at h; injection h with h; injection h with _ h
    have : l.contains n = false := by simpa using hc
    rw [this, ← h]; rfl
end Seeny
namespace Go.Proofs.Ytbhccidchjmjlaa
open Go.RowKit Go.Maps
theorem intKey : Keyed Try.prog 3 := int_keyed Try.underlying3
theorem zero_intv (w : World) : (zeroValue 3).run Try.prog w = .ok (.int .i64 0) w := by kernel_rfl
end Go.Proofs.Ytbhccidchjmjlaa
