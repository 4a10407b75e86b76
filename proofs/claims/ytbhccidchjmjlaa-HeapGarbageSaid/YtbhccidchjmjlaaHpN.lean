/-
  HeapSame returns true. Conditions: the cells read as a row; texts are no longer than an int tells.
-/
import Derived.Test.YtbhccidchjmjlaaHpM
namespace Hepy
theorem alike_one {h k : List Cell} {a b : Valu.V} (z : (alike h a k b).2 = 0) : (alike h a k b).1 = decide (((move h [a]).1, ren (pos (walked h [a])) a) = ((move k [b]).1, ren (pos (walked k [b])) b)) := by
  unfold alike at z ⊢
  split
  · next h1 => rw [if_pos h1] at z; exact absurd z h1
  · next h1 =>
    rw [if_neg h1] at z
    split
    · next h2 => rw [if_pos h2] at z; exact absurd z h2
    · next h2 =>
      rw [if_neg h2] at z
      split
      · next h3 => rw [if_pos h3] at z; exact absurd z h3
      · next h3 =>
        rw [if_neg h3] at z
        split
        · next h4 => rw [if_pos h4] at z; exact absurd z h4
        · next h4 => rw [Bool.eq_iff_iff]; simp
theorem same_law {h : List Cell} {a b c : Valu.V} (z1 : (alike h a h b).2 = 0) (z2 : (alike h b h a).2 = 0) (z3 : (alike h b h c).2 = 0) (z4 : (alike h a h c).2 = 0) (z5 : (alike h a h a).2 = 0) :
    (alike h a h a).1 = true ∧ (alike h b h a).1 = (alike h a h b).1 ∧ ((alike h a h b).1 = true → (alike h b h c).1 = true → (alike h a h c).1 = true) := by
  rw [alike_one z1, alike_one z2, alike_one z3, alike_one z4, alike_one z5]
  refine ⟨decide_eq_true rfl, ?_, fun h1 h2 => ?_⟩
  · rw [Bool.eq_iff_iff, decide_eq_true_eq, decide_eq_true_eq]; exact eq_comm
  · rw [decide_eq_true_eq] at h1 h2 ⊢
    exact h1.trans h2
end Hepy
namespace Go.Proofs.Ytbhccidchjmjlaa
set_option linter.unusedSimpArgs false
set_option linter.unusedVariables false
open Go.RowKit

set_option maxRecDepth 100000 in
set_option maxHeartbeats 8000000 in
theorem same_walk (h : List CellV) (hv : Value) (a b c : Valu.V) (w : World) (hr : HRd w h hv) (hza : a.s.length ≤ 9223372036854775807) (hzb : b.s.length ≤ 9223372036854775807) (hzc : c.s.length ≤ 9223372036854775807) :
    Calls Try.prog 5 #[hv, .agg (vc a), .agg (vc b), .agg (vc c)] w fun en w' => en = .returned (.bool true) ∧ Below w.heap.size w w' := by
  have HA1 : Hid (∀ w', Below w.heap.size w w' → Calls Try.prog 14 #[hv, .agg (vc a), hv, .agg (vc b)] w' fun e w'' => e = .returned (.tuple #[.bool (Hepy.alike (cells h) a (cells h) b).1, .int .i64 ((Hepy.alike (cells h) a (cells h) b).2 : Int)]) ∧ Below w'.heap.size w' w'') := fun w' hb => Alike_any h hv a h hv b w' (hr.below hb) (hr.below hb) hza hzb
  have HA2 : Hid (∀ w', Below w.heap.size w w' → Calls Try.prog 14 #[hv, .agg (vc b), hv, .agg (vc a)] w' fun e w'' => e = .returned (.tuple #[.bool (Hepy.alike (cells h) b (cells h) a).1, .int .i64 ((Hepy.alike (cells h) b (cells h) a).2 : Int)]) ∧ Below w'.heap.size w' w'') := fun w' hb => Alike_any h hv b h hv a w' (hr.below hb) (hr.below hb) hzb hza
  have HA3 : Hid (∀ w', Below w.heap.size w w' → Calls Try.prog 14 #[hv, .agg (vc b), hv, .agg (vc c)] w' fun e w'' => e = .returned (.tuple #[.bool (Hepy.alike (cells h) b (cells h) c).1, .int .i64 ((Hepy.alike (cells h) b (cells h) c).2 : Int)]) ∧ Below w'.heap.size w' w'') := fun w' hb => Alike_any h hv b h hv c w' (hr.below hb) (hr.below hb) hzb hzc
  have HA4 : Hid (∀ w', Below w.heap.size w w' → Calls Try.prog 14 #[hv, .agg (vc a), hv, .agg (vc c)] w' fun e w'' => e = .returned (.tuple #[.bool (Hepy.alike (cells h) a (cells h) c).1, .int .i64 ((Hepy.alike (cells h) a (cells h) c).2 : Int)]) ∧ Below w'.heap.size w' w'') := fun w' hb => Alike_any h hv a h hv c w' (hr.below hb) (hr.below hb) hza hzc
  have HA5 : Hid (∀ w', Below w.heap.size w w' → Calls Try.prog 14 #[hv, .agg (vc a), hv, .agg (vc a)] w' fun e w'' => e = .returned (.tuple #[.bool (Hepy.alike (cells h) a (cells h) a).1, .int .i64 ((Hepy.alike (cells h) a (cells h) a).2 : Int)]) ∧ Below w'.heap.size w' w'') := fun w' hb => Alike_any h hv a h hv a w' (hr.below hb) (hr.below hb) hza hza
  have HLV := Lib.hid heapLives_true
  have HLW : Hid ((Hepy.alike (cells h) a (cells h) b).2 = 0 → (Hepy.alike (cells h) b (cells h) a).2 = 0 → (Hepy.alike (cells h) b (cells h) c).2 = 0 → (Hepy.alike (cells h) a (cells h) c).2 = 0 → (Hepy.alike (cells h) a (cells h) a).2 = 0 →
    (Hepy.alike (cells h) a (cells h) a).1 = true ∧ (Hepy.alike (cells h) b (cells h) a).1 = (Hepy.alike (cells h) a (cells h) b).1 ∧ ((Hepy.alike (cells h) a (cells h) b).1 = true → (Hepy.alike (cells h) b (cells h) c).1 = true → (Hepy.alike (cells h) a (cells h) c).1 = true)) := Hepy.same_law
  obtain ⟨r1, hr1⟩ : ∃ r, Hepy.alike (cells h) a (cells h) b = r := ⟨_, rfl⟩
  obtain ⟨r2, hr2⟩ : ∃ r, Hepy.alike (cells h) b (cells h) a = r := ⟨_, rfl⟩
  obtain ⟨r3, hr3⟩ : ∃ r, Hepy.alike (cells h) b (cells h) c = r := ⟨_, rfl⟩
  obtain ⟨r4, hr4⟩ : ∃ r, Hepy.alike (cells h) a (cells h) c = r := ⟨_, rfl⟩
  obtain ⟨r5, hr5⟩ : ∃ r, Hepy.alike (cells h) a (cells h) a = r := ⟨_, rfl⟩
  rw [hr1] at HA1 HLW
  rw [hr2] at HA2 HLW
  rw [hr3] at HA3 HLW
  rw [hr4] at HA4 HLW
  rw [hr5] at HA5 HLW
  obtain ⟨q1, e1⟩ := r1
  obtain ⟨q2, e2⟩ := r2
  obtain ⟨q3, e3⟩ := r3
  obtain ⟨q4, e4⟩ := r4
  obtain ⟨q5, e5⟩ := r5
  simp only at HA1 HA2 HA3 HA4 HA5 HLW
  obtain ⟨A, cap, rfl, _⟩ := hr.r
  clear hr hza hzb hzc hr1 hr2 hr3 hr4 hr5
  go_enter Try.func5, Try.ntmps5
  go_upto_region 1 with (fail)
  refine gen_world (F := fun W => Box W w.heap.size 31 (vc a) ∧ Box W (w.heap.size + 1) 31 (vc b) ∧ Box W (w.heap.size + 2) 31 (vc c) ∧ Below w.heap.size w W) ⟨((Box.new w _ _).alloc _).alloc _, (new2 w _ _ _).alloc _, new3 w _ _ _ _, ((below1 w _).alloc (by simp) _).alloc (by simp <;> omega) _⟩ ?_
  rintro w0 ⟨ba0, bb0, bc0, hU0⟩
  have HU0 := Lib.hid hU0
  clear hU0
  go_wp2_with (first | (refine wpList_load_row rfl 31 (.tmp 5) rfl w.heap.size rfl _ (vc a) (0, 0) _ ba0 Try.underlying31 rfl info_val ?_) | (refine wpList_load_row rfl 31 (.tmp 6) rfl (w.heap.size + 1) rfl _ (vc b) (0, 0) _ bb0 Try.underlying31 rfl info_val ?_))
  refine (HA1.out _ HU0.out).mono ?_
  rintro en w1 ⟨rfl, hb1⟩
  have HU1 := Lib.hid (HU0.out.trans (hb1.mono HU0.out.size))
  have ba1 := ba0.below hb1 ba0.lt
  have bb1 := bb0.below hb1 bb0.lt
  have bc1 := bc0.below hb1 bc0.lt
  clear hb1 ba0 bb0 bc0
  simp only
  go_wp2_with (first | (refine wpList_load_row rfl 31 (.tmp 6) rfl (w.heap.size + 1) rfl _ (vc b) (0, 0) _ bb1 Try.underlying31 rfl info_val ?_) | (refine wpList_load_row rfl 31 (.tmp 5) rfl w.heap.size rfl _ (vc a) (0, 0) _ ba1 Try.underlying31 rfl info_val ?_))
  refine (HA2.out _ HU1.out).mono ?_
  rintro en w2 ⟨rfl, hb2⟩
  have HU2 := Lib.hid (HU1.out.trans (hb2.mono HU1.out.size))
  have ba2 := ba1.below hb2 ba1.lt
  have bb2 := bb1.below hb2 bb1.lt
  have bc2 := bc1.below hb2 bc1.lt
  clear hb2 ba1 bb1 bc1
  simp only
  go_wp2_with (first | (refine wpList_load_row rfl 31 (.tmp 6) rfl (w.heap.size + 1) rfl _ (vc b) (0, 0) _ bb2 Try.underlying31 rfl info_val ?_) | (refine wpList_load_row rfl 31 (.tmp 7) rfl (w.heap.size + 2) rfl _ (vc c) (0, 0) _ bc2 Try.underlying31 rfl info_val ?_))
  refine (HA3.out _ HU2.out).mono ?_
  rintro en w3 ⟨rfl, hb3⟩
  have HU3 := Lib.hid (HU2.out.trans (hb3.mono HU2.out.size))
  have ba3 := ba2.below hb3 ba2.lt
  have bb3 := bb2.below hb3 bb2.lt
  have bc3 := bc2.below hb3 bc2.lt
  clear hb3 ba2 bb2 bc2
  simp only
  go_wp2_with (first | (refine wpList_load_row rfl 31 (.tmp 5) rfl w.heap.size rfl _ (vc a) (0, 0) _ ba3 Try.underlying31 rfl info_val ?_) | (refine wpList_load_row rfl 31 (.tmp 7) rfl (w.heap.size + 2) rfl _ (vc c) (0, 0) _ bc3 Try.underlying31 rfl info_val ?_))
  refine (HA4.out _ HU3.out).mono ?_
  rintro en w4 ⟨rfl, hb4⟩
  have HU4 := Lib.hid (HU3.out.trans (hb4.mono HU3.out.size))
  have ba4 := ba3.below hb4 ba3.lt
  have bb4 := bb3.below hb4 bb3.lt
  have bc4 := bc3.below hb4 bc3.lt
  clear hb4 ba3 bb3 bc3
  simp only
  go_wp2_with ((refine wpList_load_row rfl 31 (.tmp 5) rfl w.heap.size rfl _ (vc a) (0, 0) _ ba4 Try.underlying31 rfl info_val ?_))
  refine (HA5.out _ HU4.out).mono ?_
  rintro en w5 ⟨rfl, hb5⟩
  have HU5 := Lib.hid (HU4.out.trans (hb5.mono HU4.out.size))
  have ba5 := ba4.below hb5 ba4.lt
  have bb5 := bb4.below hb5 bb4.lt
  have bc5 := bc4.below hb5 bc4.lt
  clear hb5 ba4 bb4 bc4
  simp only
  clear ba5 bb5 bc5
  go_wp2_with (fail)
  refine (HLV.out _).mono ?_
  rintro en w6 ⟨rfl, hb6⟩
  have HU6 := Lib.hid (HU5.out.trans (hb6.mono HU5.out.size))
  have hz6 := HU6.out.size
  have HOK : Hid (∀ w', RdL w' 1 ic [(e1 : Int), (e2 : Int), (e3 : Int), (e4 : Int), (e5 : Int)] (.slice (some ⟨w6.heap.size, 0, none⟩) 5 5) → Calls Try.prog 11 #[.slice (some ⟨w6.heap.size, 0, none⟩) 5 5] w' fun e w'' => e = .returned (.bool ([(e1 : Int), (e2 : Int), (e3 : Int), (e4 : Int), (e5 : Int)].all fun n => decide (n = 0))) ∧ w'' = w') := fun w' h => ok_any _ _ w' h
  obtain ⟨q, hq⟩ : ∃ q, ([(e1 : Int), (e2 : Int), (e3 : Int), (e4 : Int), (e5 : Int)].all fun n => decide (n = 0)) = q := ⟨_, rfl⟩
  rw [hq] at HOK
  have HQ := Lib.hid hq
  clear hb6 hq
  go_wp2_with (fail)
  refine (HOK.out _ (rd_box (Box.new w6 _ _) (by rfl) rfl (by omega))).mono ?_
  rintro en w7 ⟨rfl, hw7⟩
  have HU7 : Hid (Below w.heap.size w w7) := by show Below _ _ _; rw [hw7]; exact HU6.out.trans ((below1 w6 _).mono hz6)
  clear hw7
  cases q with
  | false =>
    go_wp2_with (fail)
    refine (HLV.out _).mono ?_
    rintro en w8 ⟨rfl, hb8⟩
    have HU8 := Lib.hid (HU7.out.trans (hb8.mono HU7.out.size))
    clear hb8
    go_wp2
    go_ret
    exact ⟨rfl, HU8.out⟩
  | true =>
    have hz := HQ.out
    simp only [List.all_cons, List.all_nil, Bool.and_true, Bool.and_eq_true, decide_eq_true_eq] at hz
    obtain ⟨z1, z2, z3, z4, z5⟩ := hz
    obtain ⟨t1, t2, t3⟩ := HLW.out (by omega) (by omega) (by omega) (by omega) (by omega)
    subst t1 t2
    clear z1 z2 z3 z4 z5
    cases q2 with
    | false =>
      clear t3
      go_wp2
      go_ret
      exact ⟨rfl, HU7.out⟩
    | true =>
      cases q3 with
      | false =>
        clear t3
        go_wp2
        go_ret
        exact ⟨rfl, HU7.out⟩
      | true =>
        have t4 := t3 rfl rfl
        subst t4
        clear t3
        go_wp2
        go_ret
        exact ⟨rfl, HU7.out⟩
end Go.Proofs.Ytbhccidchjmjlaa
