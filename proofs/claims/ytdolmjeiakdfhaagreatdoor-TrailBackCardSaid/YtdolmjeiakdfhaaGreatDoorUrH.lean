/-
  small, plain: of bytes below 128 it is small letter by letter. Conditions: none.
-/
import Derived.Test.YtdolmjeiakdfhaaGreatDoorUrG
import Derived.Lib.TrimAscii
import Derived.Lib.MapLaws
namespace Go.Proofs.YtdolmjeiakdfhaaGreatDoor
set_option linter.unusedSimpArgs false
set_option linter.unusedVariables false
open Go.RowKit

theorem low_byte (c : UInt8) (h : c.toNat < 128) : 0 ≤ lowR (c.toNat : Int) ∧ Lib.encodeRune (lowR (c.toNat : Int)) = [Urly.lower c] := byte_all (p := fun c => c.toNat < 128 → 0 ≤ lowR (c.toNat : Int) ∧ Lib.encodeRune (lowR (c.toNat : Int)) = [Urly.lower c]) (by decide +kernel) c h
theorem small_ascii : ∀ s : List UInt8, (s.all fun b => decide (b.toNat < 128)) = true → Lib.mapD lowR s = Urly.small s
  | [], _ => rfl
  | c :: r, h => by
    simp only [List.all_cons, Bool.and_eq_true, decide_eq_true_eq] at h
    have ih := small_ascii r (by simpa using h.2)
    have hl := low_byte c h.1
    rw [Lib.mapD_step lowR (c :: r) (by simp), Lib.decodeL_ascii c r h.1, if_pos hl.1, hl.2]
    simp only [List.drop_succ_cons, List.drop_zero, ih]
    rfl
end Go.Proofs.YtdolmjeiakdfhaaGreatDoor
