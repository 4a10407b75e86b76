/-
  Values: reckoned, ordered. Conditions: as each says.
-/
import Derived.Test.YtollnadeaffomaaDoorVaC
namespace Go.Proofs.YtollnadeaffomaaDoor
open Go.RowKit

/-- a struct result and a text, out of a callee's tuple, stored and returned. -/
theorem num_fit {n : Int} (h : Valu.within n (-Valu.big) Valu.big = true) : Valu.number n = (Valu.num n, []) := by unfold Valu.number; rw [if_pos h]
theorem num_unfit {n : Int} (h : Valu.within n (-Valu.big) Valu.big = false) : Valu.number n = (Valu.null, Valu.sRange) := by unfold Valu.number; rw [if_neg (by rw [h]; decide)]

set_option maxHeartbeats 1000000 in
theorem reck_add (a b : Int) (ha : Valu.within a (-Valu.big) Valu.big = true) (hb : Valu.within b (-Valu.big) Valu.big = true) (w : World) :
    Calls Tryd.prog 19 #[.string ⟨#[43]⟩, .int .i64 a, .int .i64 b] w fun e w' => e = .returned (.tuple #[vag (Valu.number (a + b)).1, .string (byt (Valu.number (a + b)).2)]) ∧ Below w.heap.size w w' := by
  obtain ⟨a1, a2⟩ := Valu.within_iff.1 ha
  obtain ⟨b1, b2⟩ := Valu.within_iff.1 hb
  unfold Valu.big at a1 a2 b1 b2
  clear ha hb
  have HN := Lib.hid (number_any (a + b))
  go_enter Tryd.func19, Tryd.ntmps19
  go_wp2_with (fail)
  refine (HN.out _).mono ?_
  rintro e w1 ⟨rfl, hb⟩
  have hr1 := (Box.new w 23 #[.int .i64 0, .int .i64 0, .string ⟨#[]⟩]).below hb (by simp)
  have hz1 := hr1.lt
  go_wp2_with (refine store_val rfl _ _ rfl w.heap.size (Valu.number (a + b)).1 rfl rfl _ hr1 rfl ?_; intro w2 hx2 hu2 hz2)
  refine bodyPost_ret (ret_val_tmp rfl _ _ _ _ rfl hx2) rfl ?_
  exact ⟨rfl, ((below1 w _).trans (hb.mono (by simp))).trans (hu2.own (Nat.le_refl _) (by omega))⟩

set_option maxHeartbeats 1000000 in
theorem reck_mul (a b : Int) (ha : Valu.within a (-Valu.big) Valu.big = true) (hb : Valu.within b (-Valu.big) Valu.big = true) (w : World) :
    Calls Tryd.prog 19 #[.string ⟨#[42]⟩, .int .i64 a, .int .i64 b] w fun e w' => e = .returned (.tuple #[vag (Valu.number (a * b)).1, .string (byt (Valu.number (a * b)).2)]) ∧ Below w.heap.size w w' := by
  have HP0 := fun w => product_any a b ha hb w
  have HN0 := number_any (a * b)
  obtain ⟨p, hp⟩ : ∃ p, a * b = p := ⟨_, rfl⟩
  rw [hp] at HP0 HN0
  rw [hp]
  clear hp ha hb
  have HN := Lib.hid HN0
  clear HN0
  cases hw : Valu.within p (-Valu.big) Valu.big
  · rw [pr_out hw] at HP0
    rw [num_unfit hw]
    have HP := Lib.hid HP0
    clear HP0 hw
    have HN2 := Lib.hid (number_no 0)
    go_enter Tryd.func19, Tryd.ntmps19
    go_wp2_with (fail)
    refine (HP.out _).mono ?_
    rintro e w0 ⟨rfl, rfl⟩
    go_wp2_with (fail)
    refine (HN2.out _).mono ?_
    rintro e w1 ⟨rfl, hb⟩
    have hr1 := (Box.new w 23 #[.int .i64 0, .int .i64 0, .string ⟨#[]⟩]).below hb (by simp)
    have hz1 := hr1.lt
    go_wp2_with (refine store_val rfl _ _ rfl w.heap.size Valu.null rfl rfl _ hr1 rfl ?_; intro w2 hx2 hu2 hz2)
    refine bodyPost_ret (ret_val_tmp rfl _ _ _ _ rfl hx2) rfl ?_
    exact ⟨rfl, ((below1 w _).trans (hb.mono (by simp))).trans (hu2.own (Nat.le_refl _) (by omega))⟩
  · rw [pr_in hw] at HP0
    have HP := Lib.hid HP0
    clear HP0 hw
    go_enter Tryd.func19, Tryd.ntmps19
    go_wp2_with (fail)
    refine (HP.out _).mono ?_
    rintro e w0 ⟨rfl, rfl⟩
    go_wp2_with (fail)
    refine (HN.out _).mono ?_
    rintro e w1 ⟨rfl, hb⟩
    have hr1 := (Box.new w 23 #[.int .i64 0, .int .i64 0, .string ⟨#[]⟩]).below hb (by simp)
    have hz1 := hr1.lt
    go_wp2_with (refine store_val rfl _ _ rfl w.heap.size (Valu.number p).1 rfl rfl _ hr1 rfl ?_; intro w2 hx2 hu2 hz2)
    refine bodyPost_ret (ret_val_tmp rfl _ _ _ _ rfl hx2) rfl ?_
    exact ⟨rfl, ((below1 w _).trans (hb.mono (by simp))).trans (hu2.own (Nat.le_refl _) (by omega))⟩

set_option maxHeartbeats 1000000 in
theorem reck_zero (sg : ByteArray) (hs : sg = ⟨#[47]⟩ ∨ sg = ⟨#[37]⟩) (a : Int) (w : World) :
    Calls Tryd.prog 19 #[.string sg, .int .i64 a, .int .i64 0] w fun e w' => e = .returned (.tuple #[vag Valu.null, .string (byt Valu.sZero)]) ∧ Below w.heap.size w w' := by
  rcases hs with rfl | rfl
  all_goals
    go_enter Tryd.func19, Tryd.ntmps19
    go_wp2
    go_returns
    exact ⟨rfl, below1 _ _⟩
theorem wrap_div (a b : Int) (h1 : -9007199254740992 ≤ a) (h2 : a ≤ 9007199254740992) : wrap64 (a.tdiv b) = a.tdiv b := by
  have h := Int.natAbs_tdiv a b
  have h3 : a.natAbs / b.natAbs ≤ a.natAbs := Nat.div_le_self _ _
  have h4 : (a.tdiv b).natAbs ≤ 9007199254740992 := by rw [h]; exact Nat.le_trans (Nat.div_le_self _ _) (by omega)
  clear h h3
  generalize a.tdiv b = x at h4
  exact IntWalk.wrap64_in x ⟨by omega, by omega⟩
set_option maxHeartbeats 1000000 in
theorem reck_div (a b : Int) (ha : Valu.within a (-Valu.big) Valu.big = true) (hb : Valu.within b (-Valu.big) Valu.big = true) (h0 : (b == 0) = false) (w : World) :
    Calls Tryd.prog 19 #[.string ⟨#[47]⟩, .int .i64 a, .int .i64 b] w fun e w' => e = .returned (.tuple #[vag (Valu.number (a.tdiv b)).1, .string (byt (Valu.number (a.tdiv b)).2)]) ∧ Below w.heap.size w w' := by
  obtain ⟨a1, a2⟩ := Valu.within_iff.1 ha
  obtain ⟨b1, b2⟩ := Valu.within_iff.1 hb
  unfold Valu.big at a1 a2 b1 b2
  clear ha hb
  have HN := Lib.hid (number_any (a.tdiv b))
  have HW := Lib.hid (wrap_div a b a1 a2)
  have hb0 : ¬ b = 0 := by simpa using h0
  go_enter Tryd.func19, Tryd.ntmps19
  go_wp2_with (fail)
  rw [HW.out]
  refine (HN.out _).mono ?_
  rintro e w1 ⟨rfl, hb⟩
  have hr1 := (Box.new w 23 #[.int .i64 0, .int .i64 0, .string ⟨#[]⟩]).below hb (by simp)
  have hz1 := hr1.lt
  go_wp2_with (refine store_val rfl _ _ rfl w.heap.size (Valu.number (a.tdiv b)).1 rfl rfl _ hr1 rfl ?_; intro w2 hx2 hu2 hz2)
  refine bodyPost_ret (ret_val_tmp rfl _ _ _ _ rfl hx2) rfl ?_
  exact ⟨rfl, ((below1 w _).trans (hb.mono (by simp))).trans (hu2.own (Nat.le_refl _) (by omega))⟩
set_option maxHeartbeats 1000000 in
theorem reck_mod (a b : Int) (ha : Valu.within a (-Valu.big) Valu.big = true) (hb : Valu.within b (-Valu.big) Valu.big = true) (h0 : (b == 0) = false) (w : World) :
    Calls Tryd.prog 19 #[.string ⟨#[37]⟩, .int .i64 a, .int .i64 b] w fun e w' => e = .returned (.tuple #[vag (Valu.number (a.tmod b)).1, .string (byt (Valu.number (a.tmod b)).2)]) ∧ Below w.heap.size w w' := by
  obtain ⟨a1, a2⟩ := Valu.within_iff.1 ha
  obtain ⟨b1, b2⟩ := Valu.within_iff.1 hb
  unfold Valu.big at a1 a2 b1 b2
  clear ha hb
  have HN := Lib.hid (number_any (a.tmod b))
  have hb0 : ¬ b = 0 := by simpa using h0
  go_enter Tryd.func19, Tryd.ntmps19
  go_wp2_with (fail)
  refine (HN.out _).mono ?_
  rintro e w1 ⟨rfl, hb⟩
  have hr1 := (Box.new w 23 #[.int .i64 0, .int .i64 0, .string ⟨#[]⟩]).below hb (by simp)
  have hz1 := hr1.lt
  go_wp2_with (refine store_val rfl _ _ rfl w.heap.size (Valu.number (a.tmod b)).1 rfl rfl _ hr1 rfl ?_; intro w2 hx2 hu2 hz2)
  refine bodyPost_ret (ret_val_tmp rfl _ _ _ _ rfl hx2) rfl ?_
  exact ⟨rfl, ((below1 w _).trans (hb.mono (by simp))).trans (hu2.own (Nat.le_refl _) (by omega))⟩
set_option maxHeartbeats 1000000 in
theorem ordered_any (sg : ByteArray) (p : Int → Bool) (hs : sg = ⟨#[60]⟩ ∧ p = Valu.lessP ∨ sg = ⟨#[62]⟩ ∧ p = Valu.moreP ∨ sg = ⟨#[62, 61]⟩ ∧ p = Valu.noP) (c : Int) (w : World) :
    Calls Tryd.prog 20 #[.string sg, .int .i64 c] w fun e w' => e = .returned (vag (Valu.truth (p c))) ∧ Below w.heap.size w w' := by
  rcases hs with ⟨rfl, rfl⟩ | ⟨rfl, rfl⟩ | ⟨rfl, rfl⟩
  · unfold Valu.lessP
    obtain ⟨t, ht⟩ : ∃ t, decide (c < 0) = t := ⟨_, rfl⟩
    rw [ht]
    have HT := Lib.hid (truth_any t)
    cases t
    all_goals
      go_enter Tryd.func20, Tryd.ntmps20
      go_wp2_with (fail)
      refine (HT.out _).mono ?_
      rintro e w1 ⟨rfl, hb⟩
      have hr1 := (Box.new w 23 #[.int .i64 0, .int .i64 0, .string ⟨#[]⟩]).below hb (by simp)
      have hz1 := hr1.lt
      go_wp2_with (refine store_val rfl _ _ rfl w.heap.size _ rfl rfl _ hr1 rfl ?_; intro w2 hx2 hu2 hz2)
      refine bodyPost_ret (ret_val rfl _ _ _ _ rfl hx2) rfl ?_
      exact ⟨rfl, ((below1 w _).trans (hb.mono (by simp))).trans (hu2.own (Nat.le_refl _) (by omega))⟩
  · unfold Valu.moreP
    obtain ⟨t, ht⟩ : ∃ t, decide (0 < c) = t := ⟨_, rfl⟩
    rw [ht]
    have HT := Lib.hid (truth_any t)
    cases t
    all_goals
      go_enter Tryd.func20, Tryd.ntmps20
      go_wp2_with (fail)
      refine (HT.out _).mono ?_
      rintro e w1 ⟨rfl, hb⟩
      have hr1 := (Box.new w 23 #[.int .i64 0, .int .i64 0, .string ⟨#[]⟩]).below hb (by simp)
      have hz1 := hr1.lt
      go_wp2_with (refine store_val rfl _ _ rfl w.heap.size _ rfl rfl _ hr1 rfl ?_; intro w2 hx2 hu2 hz2)
      refine bodyPost_ret (ret_val rfl _ _ _ _ rfl hx2) rfl ?_
      exact ⟨rfl, ((below1 w _).trans (hb.mono (by simp))).trans (hu2.own (Nat.le_refl _) (by omega))⟩
  · unfold Valu.noP
    obtain ⟨t, ht⟩ : ∃ t, decide (0 ≤ c) = t := ⟨_, rfl⟩
    rw [ht]
    have HT := Lib.hid (truth_any t)
    cases t
    all_goals
      go_enter Tryd.func20, Tryd.ntmps20
      go_wp2_with (fail)
      refine (HT.out _).mono ?_
      rintro e w1 ⟨rfl, hb⟩
      have hr1 := (Box.new w 23 #[.int .i64 0, .int .i64 0, .string ⟨#[]⟩]).below hb (by simp)
      have hz1 := hr1.lt
      go_wp2_with (refine store_val rfl _ _ rfl w.heap.size _ rfl rfl _ hr1 rfl ?_; intro w2 hx2 hu2 hz2)
      refine bodyPost_ret (ret_val rfl _ _ _ _ rfl hx2) rfl ?_
      exact ⟨rfl, ((below1 w _).trans (hb.mono (by simp))).trans (hu2.own (Nat.le_refl _) (by omega))⟩
end Go.Proofs.YtollnadeaffomaaDoor
