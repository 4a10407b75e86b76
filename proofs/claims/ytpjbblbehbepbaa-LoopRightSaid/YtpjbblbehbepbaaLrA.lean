/-
  LoopRight returns true. Conditions: the loop's rows read as lists.
-/
import Derived.Test.YtpjbblbehbepbaaLqA
import Derived.Test.YtpjbblbehbepbaaLoopG
namespace Go.Proofs.Ytpjbblbehbepbaa
set_option linter.unusedSimpArgs false
set_option linter.unusedVariables false
open Go.RowKit

theorem nextR_right {q : Loopy.Loop} {til : Int} (h : (nextR q til).2 = 0) : Loopy.Right (nextR q til).1.1 ∧ q.now ≤ (nextR q til).1.1.now ∧ (nextR q til).1.1.now ≤ til := by
  unfold nextR at h ⊢
  by_cases h1 : Loopy.check q = 0
  · rw [if_pos h1] at h ⊢
    by_cases h2 : Valu.within til q.now 1000000000 = true
    · rw [if_pos h2]
      have h3 := Valu.within_iff.1 h2
      exact Loopy.next_right ((Loopy.check_iff q).1 h1) h3.1 h3.2
    · rw [if_neg h2] at h; simp at h
  · rw [if_neg h1] at h; exact absurd h h1

set_option maxRecDepth 100000 in
set_option maxHeartbeats 4000000 in
theorem right_walk (q : Loopy.Loop) (a : Loopy.Ask) (til : Int) (T S R : Value) (w : World) (hq : LRd w q T S R) :
    Calls Try.prog 4 #[.agg (lag q T S R), aag a, .int .i64 til] w fun e w' => e = .returned (.bool true) ∧ Below w.heap.size w w' := by
  have HC : Hid (∀ w q T S R, Loopy.Right q → LRd w q T S R → Calls Try.prog 15 #[.agg (lag q T S R)] w fun e w' => e = .returned (.int .i64 0) ∧ Below w.heap.size w w') := fun w q T S R hr h => by
    have := check_any q T S R w h
    rw [(Loopy.check_iff q).2 hr] at this
    exact this
  have HA : Hid (∀ w T S R, LRd w q T S R → Calls Try.prog 13 #[.agg (lag q T S R), aag a] w fun e w' => AskFnOut w (Loopy.ask q a) e w') := fun w T S R h => Ask_any q a T S R w h
  have HN : Hid (∀ w T S R, LRd w q T S R → Calls Try.prog 14 #[.agg (lag q T S R), .int .i64 til] w fun e w' => NextFnOut w (nextR q til) e w') := fun w T S R h => Next_any q til T S R w h
  have hr1 := Loopy.ask_right q a
  have hr2 := nextR_right (q := q) (til := til)
  obtain ⟨⟨q1, id, e1⟩, hx1⟩ : ∃ r, Loopy.ask q a = r := ⟨_, rfl⟩
  obtain ⟨⟨⟨q2, oj⟩, e2⟩, hx2⟩ : ∃ r, nextR q til = r := ⟨_, rfl⟩
  rw [hx1] at HA hr1
  rw [hx2] at HN hr2
  clear hx1 hx2
  obtain ⟨E1, hE1⟩ : ∃ E : Int, (e1 : Int) = E := ⟨_, rfl⟩
  obtain ⟨E2, hE2⟩ : ∃ E : Int, (e2 : Int) = E := ⟨_, rfl⟩
  have HN2 : Hid (E2 = 0 → Loopy.Right q2 ∧ q.now ≤ q2.now ∧ q2.now ≤ til) := fun h => hr2 (by simp only; omega)
  have HC1 : Hid (∀ w T S R, LRd w q1 T S R → Calls Try.prog 15 #[.agg (lag q1 T S R)] w fun e w' => e = .returned (.int .i64 0) ∧ Below w.heap.size w w') := fun w T S R h => HC.out w q1 T S R hr1 h
  have HE1 := Lib.hid hE1
  have HE2 := Lib.hid hE2
  clear hr1 hr2 hE1 hE2
  have HQ := Lib.hid hq
  obtain ⟨⟨AT, cT, rfl, _⟩, ⟨AS, cS, rfl, _⟩, ⟨AR, cR, rfl, _⟩⟩ := hq
  obtain ⟨c0, hc0⟩ : ∃ c, lag q (.slice AT q.tasks.length cT) (.slice AS q.smalls.length cS) (.slice AR q.timers.length cR) = c := ⟨_, rfl⟩
  have HC0 := Lib.hid hc0
  go_enter Try.func4, Try.ntmps4
  go_upto_region 1 with (fail)
  rw [hc0]
  have b0 : Box ((w.alloc (.cells c0 26)).alloc (.cells (ac a) 35)) w.heap.size 26 c0 := (Box.new w _ _).alloc _
  have b1 : Box ((w.alloc (.cells c0 26)).alloc (.cells (ac a) 35)) (w.heap.size + 1) 35 (ac a) := by have := Box.new (w.alloc (.cells c0 26)) 35 (ac a); simpa using this
  have hU : Below w.heap.size w ((w.alloc (.cells c0 26)).alloc (.cells (ac a) 35)) := (below1 w _).alloc (by simp) _
  generalize ((w.alloc (.cells c0 26)).alloc (.cells (ac a) 35)) = W at *
  subst hc0
  have hW := Lib.hid (HQ.out.below hU)
  go_wp2_with (first | (refine wpList_load_row rfl 26 (.tmp 3) rfl w.heap.size rfl _ (lag q (.slice AT q.tasks.length cT) (.slice AS q.smalls.length cS) (.slice AR q.timers.length cR)) (0, 0) _ b0 Try.underlying26 rfl info_loop ?_) | (refine wpList_load_row rfl 35 (.tmp 4) rfl (w.heap.size + 1) rfl _ (ac a) (0, 0) _ b1 Try.underlying35 rfl info_ask ?_))
  refine (HA.out _ _ _ _ hW.out).mono ?_
  rintro e w1 ⟨T1, S1, R1, rfl, ho1, hb1⟩
  dsimp only at ho1 ⊢
  rw [HE1.out]
  have b0' := b0.below hb1 b0.lt
  have hU1 : Below w.heap.size w w1 := hU.trans (hb1.mono hU.size)
  have hW1 := Lib.hid (hW.out.below hb1)
  have hone1 := ho1.one
  have O1 := Lib.hid ho1
  have hsz := b0'.lt
  clear b0 b1 hb1 hU ho1
  go_upto_region 2 with (refine wpList_store_box rfl 26 (.tmp 7) (.tmp 18) rfl w1.heap.size (lag q1 T1 S1 R1) rfl rfl 26 _ (Box.new w1 26 #[.int .i64 0, .int .i64 0, .slice none 0 0, .slice none 0 0, .slice none 0 0]) info_loop rfl hone1 ?_; intro w2 hx2 hu2 hz2)
  have hb2 : Below w1.heap.size w1 w2 := ((Below.refl _ w1).alloc (Nat.le_refl _) _).trans (hu2.own (Nat.le_refl _) (by simp))
  have b0_2 := b0'.below hb2 b0'.lt
  have hW2 := Lib.hid (hW1.out.below hb2)
  have O12 := Lib.hid (O1.out.below hb2)
  have h1a := hx2
  have hU2 : Below w.heap.size w w2 := hU1.trans (hb2.mono hU1.size)
  have hsz2 := h1a.lt
  clear hx2 hu2 hz2 hb2 b0' hU1
  go_wp2_with (refine wpList_load_row rfl 26 (.tmp 3) rfl w.heap.size rfl _ (lag q (.slice AT q.tasks.length cT) (.slice AS q.smalls.length cS) (.slice AR q.timers.length cR)) (0, 0) _ b0_2 Try.underlying26 rfl info_loop ?_)
  refine (HN.out _ _ _ _ hW2.out).mono ?_
  rintro e w3 ⟨T2, S2, R2, rfl, ho2, hb3⟩
  dsimp only at ho2 ⊢
  rw [HE2.out]
  have b0_3 := b0_2.below hb3 b0_2.lt
  have h1b := h1a.below hb3 h1a.lt
  have O13 := Lib.hid (O12.out.below hb3)
  have hU3 : Below w.heap.size w w3 := hU2.trans (hb3.mono hU2.size)
  have hone2 := ho2.one
  have O2 := Lib.hid ho2
  have hz3 := hb3.size
  clear b0_2 h1a hU2 hb3 ho2
  obtain ⟨j2, hj2⟩ : ∃ j, oj.getD jzero = j := ⟨_, rfl⟩
  obtain ⟨is2, his2⟩ : ∃ b, oj.isSome = b := ⟨_, rfl⟩
  rw [hj2, his2]
  clear hj2 his2
  have bx0 : Box ((w3.alloc (.cells #[.int .i64 0, .int .i64 0, .slice none 0 0, .slice none 0 0, .slice none 0 0] 26)).alloc (.cells (jc jzero) 39)) w3.heap.size 26 #[.int .i64 0, .int .i64 0, .slice none 0 0, .slice none 0 0, .slice none 0 0] := (Box.new w3 _ _).alloc _
  have bx1 : Box ((w3.alloc (.cells #[.int .i64 0, .int .i64 0, .slice none 0 0, .slice none 0 0, .slice none 0 0] 26)).alloc (.cells (jc jzero) 39)) (w3.heap.size + 1) 39 (jc jzero) := by have := Box.new (w3.alloc (.cells #[.int .i64 0, .int .i64 0, .slice none 0 0, .slice none 0 0, .slice none 0 0] 26)) 39 (jc jzero); simpa using this
  have hUx : Below w3.heap.size w3 ((w3.alloc (.cells #[.int .i64 0, .int .i64 0, .slice none 0 0, .slice none 0 0, .slice none 0 0] 26)).alloc (.cells (jc jzero) 39)) := (below1 w3 _).alloc (by simp) _
  have hzx : w3.heap.size + 1 + 1 ≤ ((w3.alloc (.cells #[.int .i64 0, .int .i64 0, .slice none 0 0, .slice none 0 0, .slice none 0 0] 26)).alloc (.cells (jc jzero) 39)).heap.size := by simp
  go_upto_region 3 with (first | (refine wpList_store_box rfl 26 (.tmp 10) (.tmp 25) rfl w3.heap.size (lag q2 T2 S2 R2) rfl rfl 26 _ bx0 info_loop rfl hone2 ?_; intro w4 hx4 hu4 hz4; have bx4 := bx1.grown hu4 (by intro h; injection h with h; omega); have hU4 := hUx.trans (hu4.own (Nat.le_refl _) (Nat.le_of_lt bx0.lt)); clear hu4 hz4 hzx) | (refine wpList_store_box rfl 39 (.tmp 11) (.tmp 26) rfl (w3.heap.size + 1) (jc j2) rfl rfl 39 _ bx4 info_job rfl (jc_one _) ?_; intro w5 hx5 hu5 hz5; have hy5 := hx4.grown hu5 (by intro h; injection h with h; omega); have hU5 := hU4.trans (hu5.own (by omega) hU4.size); clear hu5 hz5))
  have h0 := Lib.hid (b0_3.below hU5 b0_3.lt)
  have h1 := Lib.hid (h1b.below hU5 h1b.lt)
  have h2 := Lib.hid hy5
  have o1 := Lib.hid (O13.out.below hU5)
  have o2 := Lib.hid (O2.out.below hU5)
  have HU2 := Lib.hid (hU3.trans (hU5.mono hU3.size))
  clear b0_3 h1b hy5 hx4 hx5 bx0 bx1 bx4 hUx hU4 hU5 hU3 O1 O12 O13 O2 hW hW1 hW2
  by_cases k1 : E1 = 0
  · by_cases k2 : E2 = 0
    · have g1 : (E1 == 0) = true := by simpa using k1
      have g1' : (E1 != 0) = false := by simpa using k1
      have g2 : (E2 == 0) = true := by simpa using k2
      have g2' : (E2 != 0) = false := by simpa using k2
      have K1 := Lib.hid k1
      have K2 := Lib.hid k2
      clear k1 k2
      go_wp2_with (fail)
      refine (loopLives_true _).mono ?_
      rintro e w3 ⟨rfl, hb3⟩
      have HB3 := Lib.hid (HU2.out.trans (hb3.mono HU2.out.size))
      have c1 := Lib.hid (h1.out.below hb3 h1.out.lt)
      have c2 := Lib.hid (h2.out.below hb3 h2.out.lt)
      have c0 := Lib.hid (h0.out.below hb3 h0.out.lt)
      have r1 := Lib.hid (o1.out.below hb3)
      have r2 := Lib.hid (o2.out.below hb3)
      clear hb3
      have u0 := c1.out.cell 0
      have u1 := c1.out.cell 1
      have u2 := c1.out.cell 2
      have u3 := c1.out.cell 3
      have u4 := c1.out.cell 4
      simp at u0 u1 u2 u3 u4
      go_wp2_with (fail)
      refine (HC1.out _ _ _ _ r1.out.rd).mono ?_
      rintro e w4 ⟨rfl, hb4⟩
      clear u0 u1 u2 u3 u4
      have HB4 := Lib.hid (HB3.out.trans (hb4.mono HB3.out.size))
      have d2 := Lib.hid (c2.out.below hb4 c2.out.lt)
      have d0 := Lib.hid (c0.out.below hb4 c0.out.lt)
      have s2 := Lib.hid (r2.out.below hb4)
      clear hb4
      have HN := HN2.out (K2.out)
      have HK := Lib.hid HN
      have le1 : q2.now ≥ q.now := HN.2.1
      have le2 : q2.now ≤ til := HN.2.2
      have le1' : decide (q2.now ≥ q.now) = true := decide_eq_true le1
      have le2' : decide (q2.now ≤ til) = true := decide_eq_true le2
      clear HN
      have y0 := d2.out.cell 0
      have y1 := d2.out.cell 1
      have y2 := d2.out.cell 2
      have y3 := d2.out.cell 3
      have y4 := d2.out.cell 4
      simp at y0 y1 y2 y3 y4
      go_wp2_with (fail)
      refine (HC.out _ _ _ _ _ HK.out.1 s2.out.rd).mono ?_
      rintro e w5 ⟨rfl, hb5⟩
      clear y0 y1 y2 y3 y4
      have HB5 := Lib.hid (HB4.out.trans (hb5.mono HB4.out.size))
      have f2 := (d2.out.below hb5 d2.out.lt).cell 0
      have f0 := (d0.out.below hb5 d0.out.lt).cell 0
      simp at f2 f0
      clear hb5
      go_wp2
      go_ret
      exact ⟨rfl, HB5.out⟩
    · have g1 : (E1 == 0) = true := by simpa using k1
      have g1' : (E1 != 0) = false := by simpa using k1
      have g2 : (E2 == 0) = false := by simpa using k2
      have g2' : (E2 != 0) = true := by simpa using k2
      have K1 := Lib.hid k1
      have K2 := Lib.hid k2
      clear k1 k2
      go_wp2_with (fail)
      refine (loopLives_true _).mono ?_
      rintro e w3 ⟨rfl, hb3⟩
      have HB3 := Lib.hid (HU2.out.trans (hb3.mono HU2.out.size))
      have c1 := Lib.hid (h1.out.below hb3 h1.out.lt)
      have c2 := Lib.hid (h2.out.below hb3 h2.out.lt)
      have c0 := Lib.hid (h0.out.below hb3 h0.out.lt)
      have r1 := Lib.hid (o1.out.below hb3)
      have r2 := Lib.hid (o2.out.below hb3)
      clear hb3
      have u0 := c1.out.cell 0
      have u1 := c1.out.cell 1
      have u2 := c1.out.cell 2
      have u3 := c1.out.cell 3
      have u4 := c1.out.cell 4
      simp at u0 u1 u2 u3 u4
      go_wp2_with (fail)
      refine (HC1.out _ _ _ _ r1.out.rd).mono ?_
      rintro e w4 ⟨rfl, hb4⟩
      clear u0 u1 u2 u3 u4
      have HB4 := Lib.hid (HB3.out.trans (hb4.mono HB3.out.size))
      have d2 := Lib.hid (c2.out.below hb4 c2.out.lt)
      have d0 := Lib.hid (c0.out.below hb4 c0.out.lt)
      have s2 := Lib.hid (r2.out.below hb4)
      clear hb4
      go_wp2
      go_ret
      exact ⟨rfl, HB4.out⟩
  · by_cases k2 : E2 = 0
    · have g1 : (E1 == 0) = false := by simpa using k1
      have g1' : (E1 != 0) = true := by simpa using k1
      have g2 : (E2 == 0) = true := by simpa using k2
      have g2' : (E2 != 0) = false := by simpa using k2
      have K1 := Lib.hid k1
      have K2 := Lib.hid k2
      clear k1 k2
      go_wp2_with (fail)
      refine (loopLives_true _).mono ?_
      rintro e w3 ⟨rfl, hb3⟩
      have HB3 := Lib.hid (HU2.out.trans (hb3.mono HU2.out.size))
      have c1 := Lib.hid (h1.out.below hb3 h1.out.lt)
      have c2 := Lib.hid (h2.out.below hb3 h2.out.lt)
      have c0 := Lib.hid (h0.out.below hb3 h0.out.lt)
      have r1 := Lib.hid (o1.out.below hb3)
      have r2 := Lib.hid (o2.out.below hb3)
      clear hb3
      have d2 := c2
      have d0 := c0
      have s2 := r2
      have HN := HN2.out (K2.out)
      have HK := Lib.hid HN
      have le1 : q2.now ≥ q.now := HN.2.1
      have le2 : q2.now ≤ til := HN.2.2
      have le1' : decide (q2.now ≥ q.now) = true := decide_eq_true le1
      have le2' : decide (q2.now ≤ til) = true := decide_eq_true le2
      clear HN
      have y0 := d2.out.cell 0
      have y1 := d2.out.cell 1
      have y2 := d2.out.cell 2
      have y3 := d2.out.cell 3
      have y4 := d2.out.cell 4
      simp at y0 y1 y2 y3 y4
      go_wp2_with (fail)
      refine (HC.out _ _ _ _ _ HK.out.1 s2.out.rd).mono ?_
      rintro e w5 ⟨rfl, hb5⟩
      clear y0 y1 y2 y3 y4
      have HB5 := Lib.hid (HB3.out.trans (hb5.mono HB3.out.size))
      have f2 := (d2.out.below hb5 d2.out.lt).cell 0
      have f0 := (d0.out.below hb5 d0.out.lt).cell 0
      simp at f2 f0
      clear hb5
      go_wp2
      go_ret
      exact ⟨rfl, HB5.out⟩
    · have g1 : (E1 == 0) = false := by simpa using k1
      have g1' : (E1 != 0) = true := by simpa using k1
      have g2 : (E2 == 0) = false := by simpa using k2
      have g2' : (E2 != 0) = true := by simpa using k2
      have K1 := Lib.hid k1
      have K2 := Lib.hid k2
      clear k1 k2
      go_wp2_with (fail)
      refine (loopLives_true _).mono ?_
      rintro e w3 ⟨rfl, hb3⟩
      have HB3 := Lib.hid (HU2.out.trans (hb3.mono HU2.out.size))
      have c1 := Lib.hid (h1.out.below hb3 h1.out.lt)
      have c2 := Lib.hid (h2.out.below hb3 h2.out.lt)
      have c0 := Lib.hid (h0.out.below hb3 h0.out.lt)
      have r1 := Lib.hid (o1.out.below hb3)
      have r2 := Lib.hid (o2.out.below hb3)
      clear hb3
      have d2 := c2
      have d0 := c0
      have s2 := r2
      go_wp2
      go_ret
      exact ⟨rfl, HB3.out⟩
end Go.Proofs.Ytpjbblbehbepbaa
