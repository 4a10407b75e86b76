/-
  letter, digit, and the run of bytes of which one of them holds. Conditions: as in the text before.
-/
import Derived.Test.YtgeaphapnoiniaaDoorJlB
namespace Go.Proofs.YtgeaphapnoiniaaDoor
open Go.RowKit

theorem ret_bool {a b : Bool} (h : a = b) : Ending.returned (.bool a) = .returned (.bool b) := by rw [h]

theorem letter_any (c : UInt8) (w : World) : Calls Tryd.prog 22 #[.int .u8 (c.toNat : Int)] w fun e w' => e = .returned (.bool (Lexy.isLetter c)) ∧ w = w' := by
  have h0 : (0 : Int) ≤ (c.toNat : Int) := by omega
  have h1 : (c.toNat : Int) ≤ 255 := by have := c.toNat_lt; omega
  have e95 : (c == 95) = ((c.toNat : Int) == 95) := by
    rw [Bool.eq_iff_iff]; simp only [beq_iff_eq]; rw [← UInt8.toNat_inj]; simp; omega
  have hd : ∀ a b : Nat, Lexy.isLetter c = ((decide (97 ≤ (c.toNat : Int)) && decide ((c.toNat : Int) ≤ 122)) || (decide (65 ≤ (c.toNat : Int)) && decide ((c.toNat : Int) ≤ 90)) || ((c.toNat : Int) == 95)) := by
    intro a b
    unfold Lexy.isLetter
    rw [e95]
    congr 1
    congr 1 <;> congr 1 <;> exact decide_eq_decide.2 (by omega)
  rw [hd 0 0]
  clear hd e95
  obtain ⟨n, hn⟩ : ∃ n : Int, (c.toNat : Int) = n := ⟨_, rfl⟩
  rw [hn] at h0 h1 ⊢
  clear hn
  go_enter Tryd.func22, Tryd.ntmps22
  go_wp2
  all_goals go_ret
  all_goals exact ⟨ret_bool (by first | rfl | (rw [Bool.eq_iff_iff]; first | (simp; done) | (simp; omega))), rfl⟩

theorem digit_any (c : UInt8) (w : World) : Calls Tryd.prog 24 #[.int .u8 (c.toNat : Int)] w fun e w' => e = .returned (.bool (Lexy.isDigit c)) ∧ w = w' := by
  have hd : ∀ a b : Nat, Lexy.isDigit c = (decide (48 ≤ (c.toNat : Int)) && decide ((c.toNat : Int) ≤ 57)) := by
    intro a b
    unfold Lexy.isDigit
    congr 1 <;> exact decide_eq_decide.2 (by omega)
  rw [hd 0 0]
  clear hd
  obtain ⟨n, hn⟩ : ∃ n : Int, (c.toNat : Int) = n := ⟨_, rfl⟩
  rw [hn]
  go_enter Tryd.func24, Tryd.ntmps24
  go_wp2
  all_goals go_ret
  all_goals exact ⟨ret_bool (by first | rfl | (rw [Bool.eq_iff_iff]; first | (simp; done) | (simp; omega))), rfl⟩

theorem tw_cons {p : UInt8 → Bool} {c : UInt8} {r : Lexy.Bs} (h : p c = true) : ((c :: r).takeWhile p).length = 1 + (r.takeWhile p).length := by
  simp [h]; omega
theorem tw_stop {p : UInt8 → Bool} {c : UInt8} {r : Lexy.Bs} (h : p c = false) : ((c :: r).takeWhile p).length = 0 := by
  simp [h]
theorem tw_len (p : UInt8 → Bool) (l : Lexy.Bs) : (l.takeWhile p).length ≤ l.length := List.Sublist.length_le (List.takeWhile_sublist _)

end Go.Proofs.YtgeaphapnoiniaaDoor
