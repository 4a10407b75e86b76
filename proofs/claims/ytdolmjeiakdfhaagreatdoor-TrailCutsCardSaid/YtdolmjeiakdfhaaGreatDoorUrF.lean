/-
  read, at every text. Conditions: the text is not empty.
-/
import Derived.Test.YtdolmjeiakdfhaaGreatDoorUrE
namespace Go.Proofs.YtdolmjeiakdfhaaGreatDoor
set_option linter.unusedSimpArgs false
set_option linter.unusedVariables false
open Go.RowKit

theorem readOut_plain {c : UInt8} {r : List UInt8} (h : c ≠ 37) : readOut (c :: r) = (c, 1) := by
  unfold readOut Urly.read
  simp [h]
theorem readOut_short {r : List UInt8} (h : r.length < 2) : readOut (37 :: r) = (0, 0) := by
  match r, h with
  | [], _ => rfl
  | [a], _ => rfl
  | _ :: _ :: _, h => simp at h; omega
theorem readOut_triple (a b : UInt8) (r : List UInt8) : (((readOut (37 :: a :: b :: r)).1.toNat : Int) = if vint a < 0 ∨ vint b < 0 then 0 else vint a * 16 + vint b) ∧ (((readOut (37 :: a :: b :: r)).2 : Int) = if vint a < 0 ∨ vint b < 0 then 0 else 3) := by
  have ha := vint_lt a
  have hb := vint_lt b
  unfold vint at ha hb ⊢
  unfold readOut Urly.read
  simp only [ne_eq, not_true_eq_false, if_false]
  cases h1 : Urly.value a with
  | none => simp
  | some x =>
    cases h2 : Urly.value b with
    | none => simp
    | some y =>
      rw [h1] at ha
      rw [h2] at hb
      simp only at ha hb ⊢
      have e1 : ¬ ((x : Int) < 0 ∨ (y : Int) < 0) := by omega
      rw [if_neg e1, if_neg e1]
      refine ⟨?_, rfl⟩
      simp only [UInt8.toNat_ofNat']
      omega
theorem read_any (s : List UInt8) (hs : s ≠ []) (w : World) :
    Calls Tryz.prog 97 #[.string (byt s)] w fun e w' => e = .returned (.tuple #[.int .u8 ((readOut s).1.toNat : Int), .int .i64 ((readOut s).2 : Int)]) ∧ Below w.heap.size w w' := by
  cases s with
  | nil => exact absurd rfl hs
  | cons c r =>
    by_cases h : c = 37
    · subst h
      match r with
      | [] => rw [readOut_short (by simp)]; exact read_short [] w (by simp)
      | [a] => rw [readOut_short (by simp)]; exact read_short [a] w (by simp)
      | a :: b :: r =>
        have h1 := readOut_triple a b r
        rw [h1.1, h1.2]
        exact read_triple a b r w
    · rw [readOut_plain h]
      exact read_plain c r w h
end Go.Proofs.YtdolmjeiakdfhaaGreatDoor
