/-
  letter: of an address. Conditions: none.
-/
import Derived.Test.YtdolmjeiakdfhaaGreatDoorMem
import Derived.Test.YtdolmjeiakdfhaaGreatDoorUrl
import Derived.WalkSmall
namespace Go.Proofs.YtdolmjeiakdfhaaGreatDoor
set_option linter.unusedSimpArgs false
set_option linter.unusedVariables false
open Go.RowKit

theorem ret_bool {a b : Bool} (h : a = b) : Ending.returned (.bool a) = .returned (.bool b) := by rw [h]
theorem letter_any (c : UInt8) (w : World) : Calls Tryz.prog 60 #[.int .u8 (c.toNat : Int)] w fun e w' => e = .returned (.bool (Urly.letter c)) ∧ w = w' := by
  have h0 : (0 : Int) ≤ (c.toNat : Int) := by omega
  have h1 : (c.toNat : Int) ≤ 255 := by have := c.toNat_lt; omega
  have hd : ∀ a b : Nat, Urly.letter c = ((decide (97 ≤ (c.toNat : Int)) && decide ((c.toNat : Int) ≤ 122)) || (decide (65 ≤ (c.toNat : Int)) && decide ((c.toNat : Int) ≤ 90))) := by
    intro a b
    unfold Urly.letter
    congr 1 <;> congr 1 <;> exact decide_eq_decide.2 (by simp [UInt8.le_iff_toNat_le]; omega)
  rw [hd 0 0]
  clear hd
  obtain ⟨n, hn⟩ : ∃ n : Int, (c.toNat : Int) = n := ⟨_, rfl⟩
  rw [hn] at h0 h1 ⊢
  clear hn
  go_enter Tryz.func60, Tryz.ntmps60
  go_wp2
  all_goals go_ret
  all_goals exact ⟨ret_bool (by first | rfl | (rw [Bool.eq_iff_iff]; first | (simp; done) | (simp; omega))), rfl⟩
end Go.Proofs.YtdolmjeiakdfhaaGreatDoor
