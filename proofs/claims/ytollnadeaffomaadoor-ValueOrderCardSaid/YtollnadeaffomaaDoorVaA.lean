/-
  The small functions of values. Conditions: none.
-/
import Derived.Test.YtollnadeaffomaaDoorMem
import Derived.Test.YtollnadeaffomaaDoorShelf
import Derived.Test.YtollnadeaffomaaDoorVal
import Derived.Test.YtollnadeaffomaaDoorJval
import Derived.Laws.StructEq
namespace Go.Proofs.YtollnadeaffomaaDoor
open Go.RowKit

set_option maxHeartbeats 400000 in
theorem within_any (n l h : Int) (w : World) :
    Calls Tryd.prog 16 #[.int .i64 n, .int .i64 l, .int .i64 h] w fun e w' => e = .returned (.bool (Valu.within n l h)) ∧ w = w' := by
  by_cases h1 : l ≤ n
  all_goals
    by_cases h2 : n ≤ h
  all_goals
    go_enter Tryd.func16, Tryd.ntmps16
    go_wp2
    go_ret
    exact ⟨ret_bool (by simp [Valu.within, h1, h2]), rfl⟩
set_option maxHeartbeats 400000 in
theorem num_any (n : Int) (w : World) :
    Calls Tryd.prog 7 #[.int .i64 n] w fun e w' => e = .returned (vag (Valu.num n)) ∧ Below w.heap.size w w' := by
  go_enter Tryd.func7, Tryd.ntmps7
  go_wp2
  go_returns
  exact ⟨rfl, below1 _ _⟩
set_option maxHeartbeats 400000 in
theorem truth_any (b : Bool) (w : World) :
    Calls Tryd.prog 18 #[.bool b] w fun e w' => e = .returned (vag (Valu.truth b)) ∧ Below w.heap.size w w' := by
  cases b
  all_goals
    go_enter Tryd.func18, Tryd.ntmps18
    go_wp2
    go_returns
    exact ⟨rfl, below1 _ _⟩
theorem kinds (k : Int) : k = 0 ∨ k = 1 ∨ k = 2 ∨ k = 3 ∨ k = 4 ∨ k = 5 ∨ ((k == 0) = false ∧ (k == 1) = false ∧ (k == 2) = false ∧ (k == 3) = false ∧ (k == 4) = false ∧ (k == 5) = false) := by
  simp only [beq_eq_false_iff_ne]; omega
set_option maxHeartbeats 1000000 in
theorem check_any (v : Valu.V) (w : World) (hz : v.s.length ≤ 9223372036854775807) :
    Calls Tryd.prog 9 #[vag v] w fun e w' => e = .returned (.bool (Valu.check v)) ∧ Below w.heap.size w w' := by
  obtain ⟨k, n, s⟩ := v
  have hz' : (byt s).size ≤ 9223372036854775807 := by rw [byt_size]; exact hz
  rcases kinds k with rfl | rfl | rfl | rfl | rfl | rfl | ⟨h0, h1, h2, h3, h4, h5⟩
  · go_enter Tryd.func9, Tryd.ntmps9
    go_wp2_with (go_at_call 16; refine (within_any _ _ _ _).mono ?_; rintro e w' ⟨rfl, rfl⟩)
    all_goals
      go_ret
      exact ⟨ret_bool (by simp_all [Valu.check, byt_empty]), below1 _ _⟩
  · go_enter Tryd.func9, Tryd.ntmps9
    go_wp2_with (go_at_call 16; refine (within_any _ _ _ _).mono ?_; rintro e w' ⟨rfl, rfl⟩)
    all_goals
      go_ret
      exact ⟨ret_bool (by simp_all [Valu.check, byt_empty]), below1 _ _⟩
  · go_enter Tryd.func9, Tryd.ntmps9
    go_wp2_with (go_at_call 16; refine (within_any _ _ _ _).mono ?_; rintro e w' ⟨rfl, rfl⟩)
    all_goals
      go_ret
      exact ⟨ret_bool (by simp_all [Valu.check, byt_empty, Valu.big]), below1 _ _⟩
  · by_cases hl : s.length ≤ 2000
    · have hl' : ((byt s).size : Int) ≤ 2000 := by rw [byt_size]; omega
      go_enter Tryd.func9, Tryd.ntmps9
      go_wp2
      go_ret
      exact ⟨ret_bool (by simp [Valu.check, hl, beq_dec]), below1 _ _⟩
    · have hl' : 2000 < ((byt s).size : Int) := by rw [byt_size]; omega
      go_enter Tryd.func9, Tryd.ntmps9
      go_wp2
      go_ret
      exact ⟨ret_bool (by simp [Valu.check, hl]), below1 _ _⟩
  · by_cases hl : 0 ≤ n
    · go_enter Tryd.func9, Tryd.ntmps9
      go_wp2
      go_ret
      exact ⟨ret_bool (by simp [Valu.check, hl, byt_empty]), below1 _ _⟩
    · have hl' : n < 0 := by omega
      go_enter Tryd.func9, Tryd.ntmps9
      go_wp2
      go_ret
      exact ⟨ret_bool (by simp [Valu.check]; omega), below1 _ _⟩
  · go_enter Tryd.func9, Tryd.ntmps9
    go_wp2
    go_ret
    exact ⟨ret_bool (by simp [Valu.check, beq_dec]), below1 _ _⟩
  · go_enter Tryd.func9, Tryd.ntmps9
    go_wp2
    go_ret
    exact ⟨ret_bool (by simp_all [Valu.check]), below1 _ _⟩
set_option maxHeartbeats 400000 in
theorem right_any (v : Valu.V) (w : World) (hz : v.s.length ≤ 9223372036854775807) :
    Calls Tryd.prog 17 #[vag v] w fun e w' => e = .returned (vag (Valu.right v)) ∧ Below w.heap.size w w' := by
  have HC := Lib.hid (fun w => check_any v w hz)
  obtain ⟨c, hc⟩ : ∃ c, Valu.check v = c := ⟨_, rfl⟩
  rw [hc] at HC
  have HE := Lib.hid hc
  clear hc
  cases c
  · go_enter Tryd.func17, Tryd.ntmps17
    go_wp2_with (fail)
    refine (HC.out _).mono ?_
    rintro e w1 ⟨rfl, hb⟩
    have hz1 := hb.size
    simp at hz1
    have hr1 := (new2 w _ _ _).below hb (by simp)
    go_wp2_with (refine store_val rfl _ _ rfl (w.heap.size + 1) Valu.null rfl rfl _ hr1 rfl ?_; intro w2 hx2 hu2 hz2)
    refine bodyPost_ret (ret_val rfl _ _ _ _ rfl hx2) rfl ?_
    refine ⟨by rw [Valu.right, if_neg (by rw [HE.out]; decide)], ?_⟩
    exact (((below1 w _).alloc (by simp) _).trans (hb.mono (by simp; omega))).trans (hu2.own (by omega) (by omega))
  · go_enter Tryd.func17, Tryd.ntmps17
    go_wp2_with (fail)
    refine (HC.out _).mono ?_
    rintro e w1 ⟨rfl, hb⟩
    have hz1 := hb.size
    simp at hz1
    have hv1 : VBox w1 w.heap.size v := ((Box.new w _ (vcells v)).alloc _).below hb (by simp; omega)
    have hr1 := (new2 w _ _ _).below hb (by simp)
    go_wp2_with (first | (refine load_val rfl _ rfl w.heap.size v rfl hv1 ?_) | (refine store_val rfl _ _ rfl (w.heap.size + 1) v rfl rfl _ hr1 rfl ?_; intro w2 hx2 hu2 hz2))
    refine bodyPost_ret (ret_val rfl _ _ _ _ rfl hx2) rfl ?_
    refine ⟨by rw [Valu.right, if_pos HE.out], ?_⟩
    exact (((below1 w _).alloc (by simp) _).trans (hb.mono (by simp; omega))).trans (hu2.own (by omega) (by omega))
theorem right_len (v : Valu.V) : (Valu.right v).s.length ≤ v.s.length := by
  unfold Valu.right; split
  · exact Nat.le_refl _
  · simp [Valu.null]
set_option maxHeartbeats 1000000 in
theorem truthy_any (v : Valu.V) (w : World) (hz : v.s.length ≤ 9223372036854775807) :
    Calls Tryd.prog 11 #[vag v] w fun e w' => e = .returned (.bool (Valu.truthy v)) ∧ Below w.heap.size w w' := by
  have HC := Lib.hid (fun w => right_any v w hz)
  unfold Valu.truthy
  obtain ⟨r, hr⟩ : ∃ r, Valu.right v = r := ⟨_, rfl⟩
  rw [hr] at HC
  rw [hr]
  clear hr
  obtain ⟨k, n, s⟩ := r
  rcases kinds k with rfl | rfl | rfl | rfl | rfl | rfl | ⟨h0, h1, h2, h3, h4, h5⟩
  all_goals
    go_enter Tryd.func11, Tryd.ntmps11
    go_wp2_with (fail)
    refine (HC.out _).mono ?_
    rintro e w1 ⟨rfl, hb⟩
    have hz1 := hb.size
    simp at hz1
    have hv1 := (Box.new w _ (vcells v)).below hb (by simp)
    go_wp2_with (refine store_val rfl _ _ rfl w.heap.size _ rfl rfl _ hv1 rfl ?_; intro w2 hx2 hu2 hz2; obtain ⟨q0, q1, q2⟩ := box3 hx2)
    go_ret
    refine ⟨ret_bool (by first | (simp [Valu.truthR]; done) | (simp [Valu.truthR, bne, beq_dec]; done) | (simp [Valu.truthR, byt_empty]; done) | (simp_all [Valu.truthR]; done)), ?_⟩
    exact ((below1 w _).trans (hb.mono (by simp))).trans (hu2.own (by omega) (by omega))
end Go.Proofs.YtollnadeaffomaaDoor
