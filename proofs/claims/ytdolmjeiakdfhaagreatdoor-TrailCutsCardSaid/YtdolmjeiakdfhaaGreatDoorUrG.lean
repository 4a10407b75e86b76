/-
  small: a text in small letters, rune by rune. Conditions: the library's tables of runes lie where they lie; the text is shorter than 2^45 bytes.
-/
import Derived.Test.YtdolmjeiakdfhaaGreatDoorUrF
namespace Go.Proofs.YtdolmjeiakdfhaaGreatDoor
set_option linter.unusedSimpArgs false
set_option linter.unusedVariables false
open Go.RowKit

/-- a rune, small. -/
def lowR (r : Int) : Int := if 65 ≤ r ∧ r ≤ 90 then r + 32 else r
theorem small1_any (x : Nat) (hx : x ≤ 1114111) (w : World) :
    Calls Tryz.prog 83 #[.int .i32 (x : Int)] w fun e w' => e = .returned (.int .i32 (lowR x)) ∧ w' = w := by
  obtain ⟨n, hn⟩ : ∃ n : Int, (x : Int) = n := ⟨_, rfl⟩
  have h0 : 0 ≤ n := by omega
  have h9 : n ≤ 1114111 := by omega
  rw [hn]
  clear hn hx
  unfold lowR
  by_cases h1 : 65 ≤ n
  · have g1 : decide (n ≥ 65) = true := decide_eq_true h1
    by_cases h2 : n ≤ 90
    · have g2 : decide (n ≤ 90) = true := decide_eq_true h2
      have w1 : IntKind.i32.wrap (n + 97) = n + 97 := by rw [IntKind.wrap_i32]; omega
      have w2 : IntKind.i32.wrap (n + 97 - 65) = n + 32 := by rw [IntKind.wrap_i32]; omega
      rw [if_pos ⟨h1, h2⟩]
      go_enter Tryz.func83, Tryz.ntmps83
      go_wp2
      go_ret
      exact ⟨by first | rfl | (congr 2; omega), rfl⟩
    · have g2 : decide (n ≤ 90) = false := decide_eq_false h2
      rw [if_neg (fun h => h2 h.2)]
      go_enter Tryz.func83, Tryz.ntmps83
      go_wp2
      go_ret
      exact ⟨rfl, rfl⟩
  · have g1 : decide (n ≥ 65) = false := decide_eq_false h1
    rw [if_neg (fun h => h1 h.1)]
    go_enter Tryz.func83, Tryz.ntmps83
    go_wp2
    go_ret
    exact ⟨rfl, rfl⟩
theorem eg_small : ∀ args w, (callFunc 83 args).run Tryz.prog w = .ok (.enter 83 args) w := Go.Proofs.enters_of Tryz.func83 (by kernel_rfl) rfl
theorem map_any (s : List UInt8) (w : World) (hs : s.length < 35184372088832) (hT : Lib.Utf8Tabs 4 5 w) :
    Calls Tryz.prog 82 #[.func (.func 83) #[] #[], .string (byt s)] w fun e w' => e = .returned (.string (byt (Lib.mapD lowR s))) ∧ Below w.heap.size w w' := by
  have h := Tryz.strings_Map_runes 83 #[] eg_small lowR (byt s) w (by rw [byt_size]; exact hs)
    (fun W x hx _ => (small1_any x hx W).mono fun e w' h => ⟨h.1, 0, h.2⟩) (fun x hx => by unfold lowR; split <;> omega) hT
  exact h
theorem small_any (s : List UInt8) (w : World) (hs : s.length < 35184372088832) (hT : Lib.Utf8Tabs 4 5 w) :
    Calls Tryz.prog 59 #[.string (byt s)] w fun e w' => e = .returned (.string (byt (Lib.mapD lowR s))) ∧ Below w.heap.size w w' := by
  have HM := Lib.hid (map_any s w hs hT)
  obtain ⟨S, hS⟩ : ∃ S, byt s = S := ⟨_, rfl⟩
  obtain ⟨M, hM⟩ : ∃ M, byt (Lib.mapD lowR s) = M := ⟨_, rfl⟩
  rw [hS, hM] at HM
  rw [hS, hM]
  clear hS hM
  go_enter Tryz.func59, Tryz.ntmps59
  go_wp2_with (fail)
  refine (HM.out).mono ?_
  rintro e w1 ⟨rfl, hb⟩
  go_wp2
  go_ret
  exact ⟨rfl, hb⟩
end Go.Proofs.YtdolmjeiakdfhaaGreatDoor
