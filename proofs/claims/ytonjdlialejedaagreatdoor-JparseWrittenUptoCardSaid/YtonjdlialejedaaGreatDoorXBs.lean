/-
  Texts that the law leans on: PlJ. Conditions: as each says.
-/
import Derived.Test.YtonjdlialejedaaGreatDoorXBq
import Derived.Test.YtonjdlialejedaaGreatDoorXBr
import Derived.Test.YtonjdlialejedaaGreatDoorXAa
set_option linter.unusedSimpArgs false
set_option linter.unusedVariables false
namespace Wri
open Pars
open Lexy (Tk sg kw nm)
theorem stmt_ne {x r : Node} {l m : List Tk} (h : Ev .statement false false l x m) : l ≠ [] := by
 rintro rfl
 obtain ⟨n, h⟩ := h.one
 rw [eats _ .statement _ _ rfl] at h
 cases h
theorem tw_pos {x : Node} (h1 : Rt false false x) (h2 : 20 ≤ x.kind) : 0 < (tw x .stmt).length := by
 have := stmt_ne (r := x) ((ps h1).stmt h2 [] ⟨rfl, rfl, rfl⟩)
 rw [List.append_nil] at this
 exact List.length_pos_iff.2 this
theorem flat_len : ∀ l : List Node, (∀ x ∈ l, Rt false false x) → (∀ x ∈ l, 20 ≤ x.kind) → l.length ≤ (l.flatMap fun x => tw x .stmt).length
 | [], _, _ => by simp
 | x :: l, h1, h2 => by
  have := flat_len l (fun y hy => h1 y (by simp [hy])) fun y hy => h2 y (by simp [hy])
  have := tw_pos (h1 x (by simp)) (h2 x (by simp))
  simp only [List.flatMap_cons, List.length_append, List.length_cons]; omega
end Wri
