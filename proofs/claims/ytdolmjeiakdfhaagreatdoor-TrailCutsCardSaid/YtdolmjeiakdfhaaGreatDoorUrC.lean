/-
  The triple of a byte; what a text begins with. Conditions: none.
-/
import Derived.Test.YtdolmjeiakdfhaaGreatDoorUrB
import Derived.IntWalk
import Derived.StillTailTactics
namespace Go.Proofs.YtdolmjeiakdfhaaGreatDoor
set_option linter.unusedSimpArgs false
set_option linter.unusedVariables false
open Go.RowKit

theorem and_low (c : UInt8) : bits .and .u8 (c.toNat : Int) 15 = ((c.toNat % 16 : Nat) : Int) := byte_all (p := fun c => bits .and .u8 (c.toNat : Int) 15 = ((c.toNat % 16 : Nat) : Int)) (by decide +kernel) c
theorem hex_slice : ∀ n : Fin 16, (⟨#[48, 49, 50, 51, 52, 53, 54, 55, 56, 57, 65, 66, 67, 68, 69, 70]⟩ : ByteArray).extract n.val (n.val + 1) = ⟨#[Urly.hex n.val]⟩ := by decide +kernel
theorem hex_ext (n : Nat) (hn : n < 16) (a b : Nat) (ha : a = n) (hb : b = n + 1) : (⟨#[48, 49, 50, 51, 52, 53, 54, 55, 56, 57, 65, 66, 67, 68, 69, 70]⟩ : ByteArray).extract a b = ⟨#[Urly.hex n]⟩ := by
  subst ha hb
  exact hex_slice ⟨a, hn⟩
set_option maxRecDepth 100000 in
theorem triple_any (c : UInt8) (w : World) :
    Calls Tryz.prog 101 #[.int .u8 (c.toNat : Int)] w fun e w' => e = .returned (.string (byt (Urly.triple c))) ∧ Below w.heap.size w w' := by
  have hc := c.toNat_lt
  have a1 := and_low c
  obtain ⟨m, hm⟩ : ∃ m : Nat, c.toNat = m := ⟨_, rfl⟩
  have ht : Hid (byt (Urly.triple c) = (⟨#[37]⟩ : ByteArray) ++ ⟨#[Urly.hex (m / 16)]⟩ ++ ⟨#[Urly.hex (m % 16)]⟩) := by show _ = _; unfold Urly.triple; rw [hm]; rfl
  rw [hm] at hc a1 ⊢
  obtain ⟨hi, hhi⟩ : ∃ hi : Int, (m : Int) / 2 ^ 4 = hi := ⟨_, rfl⟩
  obtain ⟨lo, hlo⟩ : ∃ lo : Int, ((m % 16 : Nat) : Int) = lo := ⟨_, rfl⟩
  have p1 : 0 ≤ hi ∧ hi < 16 := by omega
  have p2 : 0 ≤ lo ∧ lo < 16 := by omega
  have w1 : IntKind.u8.wrap (hi + 1) = hi + 1 := by rw [IntKind.wrap_u8]; omega
  have w2 : IntKind.u8.wrap (lo + 1) = lo + 1 := by rw [IntKind.wrap_u8]; omega
  have x1 : (⟨#[48, 49, 50, 51, 52, 53, 54, 55, 56, 57, 65, 66, 67, 68, 69, 70]⟩ : ByteArray).extract hi.toNat (hi + 1).toNat = ⟨#[Urly.hex (m / 16)]⟩ := hex_ext (m / 16) (by omega) _ _ (by omega) (by omega)
  have x2 : (⟨#[48, 49, 50, 51, 52, 53, 54, 55, 56, 57, 65, 66, 67, 68, 69, 70]⟩ : ByteArray).extract lo.toNat (lo + 1).toNat = ⟨#[Urly.hex (m % 16)]⟩ := hex_ext (m % 16) (by omega) _ _ (by omega) (by omega)
  have hm255 : (m : Int) ≤ 255 := by omega
  obtain ⟨b1, b2⟩ := p1
  obtain ⟨b3, b4⟩ := p2
  have hhi' : (m : Int) / 16 = hi := by omega
  rw [hlo] at a1
  have HLO := Lib.hid hlo
  clear hm hlo
  go_enter Tryz.func101, Tryz.ntmps101
  go_wp2
  go_region
  go_wp2
  go_ret
  exact ⟨by rw [ht.out]; rfl, (Below.refl _ w).drew⟩
end Go.Proofs.YtdolmjeiakdfhaaGreatDoor
