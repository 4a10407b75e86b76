/-
  Values: products, unary and binary signs. Conditions: as each says.
-/
import Derived.Test.YtollnadeaffomaaDoorVaB
import Derived.Deep.DeepCutAuto
import Derived.Deep.RegionWith
import Derived.IntWalk
namespace Go.Proofs.YtollnadeaffomaaDoor
open Go.RowKit

set_option maxHeartbeats 1000000 in
theorem not_any (v : Valu.V) (w : World) (hz : v.s.length ≤ 140737488355328) :
    Calls Tryd.prog 12 #[.string ⟨#[33]⟩, vag v] w fun e w' => e = .returned (.tuple #[vag (Valu.truth (!Valu.truthy v)), .string (byt [])]) ∧ Below w.heap.size w w' := by
  have HC := Lib.hid (fun w => right_any v w (by omega))
  have HT := Lib.hid (fun w => truthy_any (Valu.right v) w (by have := right_len v; omega))
  have ht : Valu.truthy (Valu.right v) = Valu.truthy v := by simp only [Valu.truthy, Valu.right_right]
  rw [ht] at HT
  obtain ⟨r, hr⟩ : ∃ r, Valu.right v = r := ⟨_, rfl⟩
  obtain ⟨t, htt⟩ : ∃ t, Valu.truthy v = t := ⟨_, rfl⟩
  rw [hr] at HC HT
  rw [htt] at HT
  rw [htt]
  clear hr ht htt
  have HU := Lib.hid (truth_any (!t))
  go_enter Tryd.func12, Tryd.ntmps12
  go_wp2_with (fail)
  refine (HC.out _).mono ?_
  rintro e w1 ⟨rfl, hb⟩
  have hv1 := ((Box.new w 23 (vcells v)).alloc (.cells #[.int .i64 0, .int .i64 0, .string ⟨#[]⟩] 23)).below hb (by simp; omega)
  have hr1 := (new2 w (.cells (vcells v) 23) 23 #[.int .i64 0, .int .i64 0, .string ⟨#[]⟩]).below hb (by simp)
  have hb1 : Below w.heap.size w w1 := ((below1 w _).alloc (by simp) _).trans (hb.mono (by simp; omega))
  have hz1 := hr1.lt
  go_wp2_with (first | (refine load_val rfl _ rfl w.heap.size r rfl hx2 ?_) | (refine store_val rfl _ _ rfl w.heap.size r rfl rfl _ hv1 rfl ?_; intro w2 hx2 hu2 hz2))
  refine (HT.out _).mono ?_
  rintro e w3 ⟨rfl, hb3⟩
  go_wp2_with (fail)
  refine (HU.out _).mono ?_
  rintro e w4 ⟨rfl, hb4⟩
  have hz3 := hb3.size
  have hz4 := hb4.size
  have hr4 := ((hr1.grown hu2 (by simp)).below hb3 (by omega)).below hb4 (by omega)
  have hb24 : Below w.heap.size w w4 := ((hb1.trans (hu2.own (Nat.le_refl _) (by omega))).trans (hb3.mono (by omega))).trans (hb4.mono (by omega))
  go_wp2_with (refine store_val rfl _ _ rfl (w.heap.size + 1) (Valu.truth (!t)) rfl rfl _ hr4 rfl ?_; intro w5 hx5 hu5 hz5)
  refine bodyPost_ret (ret_val_tmp rfl _ _ _ _ rfl hx5) rfl ?_
  exact ⟨rfl, hb24.trans (hu5.own (by omega) (by omega))⟩

def PrOut (p : Int) : Value := if Valu.within p (-Valu.big) Valu.big = true then .tuple #[.int .i64 p, .bool true] else .tuple #[.int .i64 0, .bool false]
theorem pr_in {p : Int} (h : Valu.within p (-Valu.big) Valu.big = true) : PrOut p = .tuple #[.int .i64 p, .bool true] := by unfold PrOut; rw [if_pos h]
theorem pr_out {p : Int} (h : Valu.within p (-Valu.big) Valu.big = false) : PrOut p = .tuple #[.int .i64 0, .bool false] := by unfold PrOut; rw [if_neg (by rw [h]; decide)]

theorem abs_mul (a b : Int) : ((a.natAbs * b.natAbs : Nat) : Int) = if decide (a < 0) = decide (b < 0) then a * b else -(a * b) := by
  rw [Int.natCast_mul]
  by_cases ha : a < 0 <;> by_cases hb : b < 0
  · rw [show ((a.natAbs : Nat) : Int) = -a by omega, show ((b.natAbs : Nat) : Int) = -b by omega, Int.neg_mul_neg]; simp [ha, hb]
  · rw [show ((a.natAbs : Nat) : Int) = -a by omega, show ((b.natAbs : Nat) : Int) = b by omega, Int.neg_mul]; simp [ha, hb]
  · rw [show ((a.natAbs : Nat) : Int) = a by omega, show ((b.natAbs : Nat) : Int) = -b by omega, Int.mul_neg]; simp [ha, hb]
  · rw [show ((a.natAbs : Nat) : Int) = a by omega, show ((b.natAbs : Nat) : Int) = b by omega]; simp [ha, hb]
theorem ret_eq {a b : Value} (h : a = b) : Ending.returned a = .returned b := by rw [h]

set_option maxHeartbeats 2000000 in
theorem product_any (a b : Int) (ha : Valu.within a (-Valu.big) Valu.big = true) (hb : Valu.within b (-Valu.big) Valu.big = true) (w : World) :
    Calls Tryd.prog 26 #[.int .i64 a, .int .i64 b] w fun e w' => e = .returned (PrOut (a * b)) ∧ w = w' := by
  obtain ⟨a1, a2⟩ := Valu.within_iff.1 ha
  obtain ⟨b1, b2⟩ := Valu.within_iff.1 hb
  unfold Valu.big at a1 a2 b1 b2
  have HM0 := fun w => Tryd.bits_Mul64 a.natAbs b.natAbs (by omega) (by omega) w
  have hab := abs_mul a b
  have HX := Lib.hid (show max a (-a) = ((a.natAbs : Nat) : Int) by omega)
  have HY := Lib.hid (show max b (-b) = ((b.natAbs : Nat) : Int) by omega)
  clear ha hb
  obtain ⟨p, hp⟩ : ∃ p, a.natAbs * b.natAbs = p := ⟨_, rfl⟩
  rw [hp] at HM0 hab
  clear hp
  by_cases hP : p ≤ 9007199254740992
  · have HM : Hid (∀ w, Calls Tryd.prog 31 #[.int .u64 ((a.natAbs : Nat) : Int), .int .u64 ((b.natAbs : Nat) : Int)] w fun e w' => e = .returned (.tuple #[.int .u64 0, .int .u64 (p : Int)]) ∧ w' = w) := by
      intro w
      have h := HM0 w
      rw [show p / 18446744073709551616 = 0 by omega, show p % 18446744073709551616 = p by omega] at h
      exact h
    have hW : Valu.within (a * b) (-Valu.big) Valu.big = true := by
      rw [Valu.within_iff]; unfold Valu.big
      split at hab <;> omega
    have HO := Lib.hid (pr_in hW)
    have HAB := Lib.hid hab
    clear HM0 hab hW
    obtain ⟨sa, hsa⟩ : ∃ sa, decide (a < 0) = sa := ⟨_, rfl⟩
    obtain ⟨sb, hsb⟩ : ∃ sb, decide (b < 0) = sb := ⟨_, rfl⟩
    have hab2 := HAB.out
    rw [hsa, hsb] at hab2
    have hR : Hid (Value.tuple #[.int .i64 (if sa = sb then (p : Int) else -(p : Int)), .bool true] = PrOut (a * b)) := by
      rw [HO.out]
      have e : (if sa = sb then (p : Int) else -(p : Int)) = a * b := by split at hab2 <;> simp_all
      rw [e]; exact Lib.hid rfl
    clear hab2 HAB HO
    cases sa <;> cases sb
    all_goals
      go_enter Tryd.func26, Tryd.ntmps26
      go_wp2_with (fail)
      rw [HX.out, HY.out]
      refine (HM.out _).mono ?_
      rintro e w1 ⟨rfl, rfl⟩
      go_wp2
      go_ret2
      exact ⟨ret_eq hR.out, rfl⟩
  · have hW : Valu.within (a * b) (-Valu.big) Valu.big = false := by
      rw [Bool.eq_false_iff]
      intro h
      obtain ⟨h1, h2⟩ := Valu.within_iff.1 h
      unfold Valu.big at h1 h2
      split at hab <;> omega
    have HO := Lib.hid (pr_out hW)
    have HM0' := Lib.hid HM0
    clear HM0 hab hW
    by_cases hq : p / 18446744073709551616 = 0
    · have HM : Hid (∀ w, Calls Tryd.prog 31 #[.int .u64 ((a.natAbs : Nat) : Int), .int .u64 ((b.natAbs : Nat) : Int)] w fun e w' => e = .returned (.tuple #[.int .u64 0, .int .u64 (p : Int)]) ∧ w' = w) := by
        intro w
        have h := HM0'.out w
        rw [hq, show p % 18446744073709551616 = p by omega] at h
        exact h
      have hp2 : (9007199254740992 : Int) < (p : Int) := by omega
      clear hq HM0'
      go_enter Tryd.func26, Tryd.ntmps26
      go_wp2_with (fail)
      rw [HX.out, HY.out]
      refine (HM.out _).mono ?_
      rintro e w1 ⟨rfl, rfl⟩
      go_wp2
      go_ret2
      rw [HO.out]
      exact ⟨rfl, rfl⟩
    · have hq2 : ((((p / 18446744073709551616 : Nat) : Int)) != 0) = true := by simp; omega
      clear hq
      obtain ⟨u, hu⟩ : ∃ u, p / 18446744073709551616 = u := ⟨_, rfl⟩
      obtain ⟨v, hv⟩ : ∃ v, p % 18446744073709551616 = v := ⟨_, rfl⟩
      have HM := HM0'.out
      rw [hu, hv] at HM
      rw [hu] at hq2
      have HM2 := Lib.hid HM
      clear HM HM0' hu hv
      go_enter Tryd.func26, Tryd.ntmps26
      go_wp2_with (fail)
      rw [HX.out, HY.out]
      refine (HM2.out _).mono ?_
      rintro e w1 ⟨rfl, rfl⟩
      go_wp2
      go_ret2
      rw [HO.out]
      exact ⟨rfl, rfl⟩
end Go.Proofs.YtollnadeaffomaaDoor
