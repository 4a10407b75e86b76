/-
  loopLives. Conditions: none.
-/
import Derived.Test.YtpjbblbehbepbaaLpZ
import Derived.Test.YtpjbblbehbepbaaLoopH
namespace Go.Proofs.Ytpjbblbehbepbaa
set_option linter.unusedSimpArgs false
set_option linter.unusedVariables false
open Go.RowKit

set_option maxRecDepth 100000 in
set_option maxHeartbeats 2000000 in
theorem loopLives_true (w : World) :
    Calls Try.prog 10 #[] w fun e w' => e = .returned (.bool true) ∧ Below w.heap.size w w' := by
  go_enter Try.func10, Try.ntmps10
  go_wp2_with (fail)
  refine (Play_any Loopy.lives _ _ ?_).mono ?_
  · refine ⟨_, _, rfl, ?_, ?_, ?_⟩
    · decide
    · decide
    · exact fun _ => ⟨_, _, rfl, by simp, fun j v hv => by rw [Nat.zero_add, (Box.new w _ _).cell]; exact (Array.getElem?_toList ..).symm.trans hv⟩
  rintro e w1 ⟨O, T, S, R, rfl, hO, hOut, hap, hb1⟩
  obtain ⟨⟨js, q, er⟩, hpl⟩ : ∃ r, Loopy.play Loopy.lives = r := ⟨_, rfl⟩
  have k1 := Loopy.lives_ok
  have k2 := Loopy.lives_jobs
  rw [hpl] at hO hOut k1 k2
  rw [hpl]
  simp only at hO hOut k1 k2 ⊢
  obtain ⟨k3, k4, k5, k6⟩ := k1
  subst k3
  have k7 := Loopy.lives_calls
  obtain ⟨j0, e0⟩ : ∃ j, Loopy.lj 0 = j := ⟨_, rfl⟩
  obtain ⟨j1, e1⟩ : ∃ j, Loopy.lj 1 = j := ⟨_, rfl⟩
  obtain ⟨j2, e2⟩ : ∃ j, Loopy.lj 2 = j := ⟨_, rfl⟩
  obtain ⟨j3, e3⟩ : ∃ j, Loopy.lj 3 = j := ⟨_, rfl⟩
  rw [e0, e1, e2, e3] at k2
  rw [e0, e1, e3] at k7
  subst k2
  clear e0 e1 e2 e3
  obtain ⟨k71, k72, k73, k74⟩ := k7
  have hone := hO.one
  have hOr := own_slice hO.r
  obtain ⟨A3, c3, rfl⟩ := hOr
  have hRd := Rd.own hOut
  obtain ⟨A, cap, rfl, r1, r2, r3⟩ := hRd
  obtain ⟨g, o, rfl, hg, hrg⟩ := r3 (by omega)
  rw [k6] at hone ⊢
  try rw [k4] at r1 ⊢
  have d0 := hrg 3 _ rfl
  have d1 := hrg 10 _ rfl
  have d3 := hrg 24 _ rfl
  have d4 := hrg 26 _ rfl
  rw [k71, show byt [115] = (⟨#[115]⟩ : ByteArray) from by rfl] at d0
  rw [k72, show byt [116] = (⟨#[116]⟩ : ByteArray) from by rfl] at d1
  rw [k73, show byt [101] = (⟨#[101]⟩ : ByteArray) from by rfl] at d3
  rw [k74] at d4
  have HRG := Lib.hid hrg
  clear hrg
  go_wp2_with (first | (refine wpList_store_box rfl 26 (.tmp 2) (.tmp 12) rfl (w1.heap.size) (lag q T S (.slice A3 1 c3)) rfl rfl 26 _ (Box.new w1 26 #[.int .i64 0, .int .i64 0, .slice none 0 0, .slice none 0 0, .slice none 0 0]) info_loop rfl hone ?_; intro w2 hx2 hu2 hz2; have hb2 : Below w1.heap.size w1 w2 := ((Below.refl _ w1).alloc (Nat.le_refl _) _).trans (hu2.own (Nat.le_refl _) (by simp)); have f0 := (hb2.cell (p := ⟨g, o + 3, none⟩) hg).trans d0; have f1 := (hb2.cell (p := ⟨g, o + 10, none⟩) hg).trans d1; have f3 := (hb2.cell (p := ⟨g, o + 24, none⟩) hg).trans d3; have f4 := (hb2.cell (p := ⟨g, o + 26, none⟩) hg).trans d4; have l0 := hx2.cell 0; have l4 := hx2.cell 4; simp at l0 l4; rw [k5] at l0))
  go_wp2
  go_ret
  have hU1 := (below1 w _).trans (hb1.mono (by simp))
  exact ⟨rfl, hU1.trans (hb2.mono hU1.size)⟩
end Go.Proofs.Ytpjbblbehbepbaa
