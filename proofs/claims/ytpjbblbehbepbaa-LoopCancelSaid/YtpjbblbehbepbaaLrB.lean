/-
  LoopCancel returns true. Conditions: the loop's rows read as lists.
-/
import Derived.Test.YtpjbblbehbepbaaLqA
import Derived.Test.YtpjbblbehbepbaaLqE
import Derived.Test.YtpjbblbehbepbaaLoopI
namespace Go.Proofs.Ytpjbblbehbepbaa
set_option linter.unusedSimpArgs false
set_option linter.unusedVariables false
open Go.RowKit

set_option maxRecDepth 100000 in
set_option maxHeartbeats 4000000 in
theorem cancel_walk (q : Loopy.Loop) (n : Int) (T S R : Value) (w : World) (hq : LRd w q T S R) :
    Calls Try.prog 8 #[.agg (lag q T S R), .int .i64 n] w fun e w' => e = .returned (.bool true) ∧ Below w.heap.size w w' := by
  have HA : Hid (∀ w T S R, LRd w q T S R → Calls Try.prog 13 #[.agg (lag q T S R), aag ⟨3, 0, n, [120], ⟨0, 0, []⟩⟩] w fun e w' => AskFnOut w (Loopy.ask q ⟨3, 0, n, [120], ⟨0, 0, []⟩⟩) e w') := fun w T S R h => Ask_any q _ T S R w h
  have hbk : (Loopy.ask q ⟨3, 0, n, [120], ⟨0, 0, []⟩⟩).2.2 = 0 → _ := fun h => Loopy.cancel_back (t := []) (u := ⟨0, 0, []⟩) h
  have hok : (Loopy.ask q ⟨3, 0, n, [120], ⟨0, 0, []⟩⟩).2.2 = 0 → _ := fun h => (Loopy.after_ok h).1
  obtain ⟨⟨q1, id, e1⟩, hx1⟩ : ∃ r, Loopy.ask q ⟨3, 0, n, [120], ⟨0, 0, []⟩⟩ = r := ⟨_, rfl⟩
  rw [hx1] at HA hbk hok
  simp only at hbk hok
  clear hx1
  obtain ⟨E1, hE1⟩ : ∃ E : Int, (e1 : Int) = E := ⟨_, rfl⟩
  have HB : Hid (E1 = 0 → ∀ w T S R, LRd w q1 T S R → Calls Try.prog 13 #[.agg (lag q1 T S R), aag ⟨5, 0, id, [], ⟨0, 0, []⟩⟩] w fun e w' => AskFnOut w ({ q with next := q.next + 1 }, 0, 0) e w') := fun h w T S R h1 => by
    have := Ask_any q1 ⟨5, 0, id, [], ⟨0, 0, []⟩⟩ T S R w h1
    rw [hbk (by omega)] at this
    exact this
  have HK : Hid (E1 = 0 → Loopy.Right q) := fun h => hok (by omega)
  have HE1 := Lib.hid hE1
  clear hbk hok hE1
  have HQ := Lib.hid hq
  obtain ⟨⟨AT, cT, rfl, _⟩, ⟨AS, cS, rfl, _⟩, ⟨AR, cR, rfl, _⟩⟩ := hq
  obtain ⟨c0, hc0⟩ : ∃ c, lag q (.slice AT q.tasks.length cT) (.slice AS q.smalls.length cS) (.slice AR q.timers.length cR) = c := ⟨_, rfl⟩
  go_enter Try.func8, Try.ntmps8
  go_upto_region 1 with (fail)
  rw [hc0]
  have b0 : Box (w.alloc (.cells c0 26)) w.heap.size 26 c0 := Box.new w _ _
  have hU : Below w.heap.size w (w.alloc (.cells c0 26)) := below1 w _
  generalize (w.alloc (.cells c0 26)) = W at *
  subst hc0
  have hW := Lib.hid (HQ.out.below hU)
  go_wp2_with (refine wpList_load_row rfl 26 (.tmp 2) rfl w.heap.size rfl _ (lag q (.slice AT q.tasks.length cT) (.slice AS q.smalls.length cS) (.slice AR q.timers.length cR)) (0, 0) _ b0 Try.underlying26 rfl info_loop ?_)
  refine (HA.out _ _ _ _ hW.out).mono ?_
  rintro e w1 ⟨T1, S1, R1, rfl, ho1, hb1⟩
  dsimp only at ho1 ⊢
  rw [HE1.out]
  have b0' := b0.below hb1 b0.lt
  have hU1 : Below w.heap.size w w1 := hU.trans (hb1.mono hU.size)
  have hW1 := Lib.hid (hW.out.below hb1)
  have hone1 := ho1.one
  have O1 := Lib.hid ho1
  have hsz := b0'.lt
  clear b0 hb1 hU ho1
  go_upto_region 2 with (refine wpList_store_box rfl 26 (.tmp 5) (.tmp 16) rfl w1.heap.size (lag q1 T1 S1 R1) rfl rfl 26 _ (Box.new w1 26 #[.int .i64 0, .int .i64 0, .slice none 0 0, .slice none 0 0, .slice none 0 0]) info_loop rfl hone1 ?_; intro w2 hx2 hu2 hz2)
  have hb2 : Below w1.heap.size w1 w2 := ((Below.refl _ w1).alloc (Nat.le_refl _) _).trans (hu2.own (Nat.le_refl _) (by simp))
  have b0_2 := b0'.below hb2 b0'.lt
  have hW2 := Lib.hid (hW1.out.below hb2)
  have O12 := Lib.hid (O1.out.below hb2)
  have h1a := hx2
  have hU2 : Below w.heap.size w w2 := hU1.trans (hb2.mono hU1.size)
  have hsz2 := h1a.lt
  clear hx2 hu2 hz2 hb2 b0' hU1
  by_cases k1 : E1 = 0
  · have g1 : (E1 == 0) = true := by simpa using k1
    have g1' : (E1 != 0) = false := by simpa using k1
    have hR := HK.out k1
    have hn0 := hR.nxt0
    have hn1 := hR.nxt1
    unfold Loopy.most at hn1
    have HR := Lib.hid hR
    have HB2 := Lib.hid (HB.out k1)
    clear k1 hR
    go_wp2_with (fail)
    refine (loopLives_true _).mono ?_
    rintro e w3 ⟨rfl, hb3⟩
    have b0_3 := b0_2.below hb3 b0_2.lt
    have h1b := h1a.below hb3 h1a.lt
    have hW3 := Lib.hid (hW2.out.below hb3)
    have O13 := Lib.hid (O12.out.below hb3)
    have hU3 : Below w.heap.size w w3 := hU2.trans (hb3.mono hU2.size)
    have hz3 := hb3.size
    clear b0_2 h1a hU2 hb3
    go_wp2_with (refine wpList_load_row rfl 26 (.tmp 5) rfl w1.heap.size rfl _ (lag q1 T1 S1 R1) (0, 0) _ h1b Try.underlying26 rfl info_loop ?_)
    refine (HB2.out _ _ _ _ O13.out.rd).mono ?_
    rintro e w4 ⟨T2, S2, R2, rfl, ho2, hb4⟩
    dsimp only at ho2 ⊢
    have b0_4 := b0_3.below hb4 b0_3.lt
    have hW4 := Lib.hid (hW3.out.below hb4)
    have hU4 : Below w.heap.size w w4 := hU3.trans (hb4.mono hU3.size)
    have hone2 := ho2.one
    have O2 := Lib.hid ho2
    have hz4 := hb4.size
    clear b0_3 h1b hU3 hb4 ho2
    go_upto_region 5 with (refine wpList_store_box rfl 26 (.tmp 8) (.tmp 31) rfl w4.heap.size (lag { q with next := q.next + 1 } T2 S2 R2) rfl rfl 26 _ (Box.new w4 26 #[.int .i64 0, .int .i64 0, .slice none 0 0, .slice none 0 0, .slice none 0 0]) info_loop rfl hone2 ?_; intro w5 hx5 hu5 hz5)
    have hb5 : Below w4.heap.size w4 w5 := ((Below.refl _ w4).alloc (Nat.le_refl _) _).trans (hu5.own (Nat.le_refl _) (by simp))
    have y1 := hx5.cell 1
    have z1 := hx5.frozen 1
    simp at y1
    have X5 := Lib.hid hx5
    have HB5 := Lib.hid hb5
    clear hx5 hu5 hz5 hb5
    have e1 : q.next + 1 - 1 = q.next := by omega
    go_upto_region 6 with (fail)
    have hx6 := X5.out.set 1 (.int .i64 q.next)
    have hb6 : Below w4.heap.size w4 (w5.setCell ⟨w4.heap.size, 1, none⟩ (.int .i64 q.next)) := HB5.out.setCell (Nat.le_refl _) _
    generalize (w5.setCell ⟨w4.heap.size, 1, none⟩ (.int .i64 q.next)) = w6 at *
    have b0_6 := b0_4.below hb6 b0_4.lt
    have hW6 := Lib.hid (hW4.out.below hb6)
    have hrd := (O2.out.below hb6).rd
    have R6 : Hid (LRd w6 q T2 S2 R2) := ⟨hrd.t, hrd.s, hrd.r⟩
    have hU6 := Lib.hid (hU4.trans (hb6.mono hU4.size))
    have u0 := b0_6.cell 0
    have u1 := b0_6.cell 1
    have u2 := b0_6.cell 2
    have u3 := b0_6.cell 3
    have u4 := b0_6.cell 4
    simp at u0 u1 u2 u3 u4
    have v0 := hx6.cell 0
    have v1 := hx6.cell 1
    have v2 := hx6.cell 2
    have v3 := hx6.cell 3
    have v4 := hx6.cell 4
    simp at v0 v1 v2 v3 v4
    clear hx6 hb6 b0_4 b0_6 hrd hU4 y1 z1 X5
    go_wp2_with (fail)
    refine (same_true q T2 S2 R2 _ _ _ w6 R6.out hW6.out (by have := HR.out.l1; omega) (by have := HR.out.l2; omega) (by have := HR.out.l3; omega)).mono ?_
    rintro e w7 ⟨rfl, hb7⟩
    go_wp2
    go_ret
    exact ⟨rfl, hU6.out.trans (hb7.mono hU6.out.size)⟩
  · have g1 : (E1 == 0) = false := by simpa using k1
    have g1' : (E1 != 0) = true := by simpa using k1
    clear k1
    go_wp2_with (fail)
    refine (loopLives_true _).mono ?_
    rintro e w3 ⟨rfl, hb3⟩
    have hU3 := Lib.hid (hU2.trans (hb3.mono hU2.size))
    clear hb3
    go_wp2_with (fail)
    refine (loopLives_true _).mono ?_
    rintro e w4 ⟨rfl, hb4⟩
    go_wp2
    go_ret
    exact ⟨rfl, hU3.out.trans (hb4.mono hU3.out.size)⟩
end Go.Proofs.Ytpjbblbehbepbaa
