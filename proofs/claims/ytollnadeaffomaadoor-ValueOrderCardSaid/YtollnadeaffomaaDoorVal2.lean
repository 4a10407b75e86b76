/-
  The laws of numbers: Euclid's. Conditions: none.
-/
import Derived.Test.YtollnadeaffomaaDoorVal
namespace Valu
theorem bin_div_num {a b : Int} (ha : within a (-big) big = true) (hb : within b (-big) big = true) (h0 : b ≠ 0) : bin .div (num a) (num b) = number (a.tdiv b) := div_num ha hb h0
theorem bin_mod_num {a b : Int} (ha : within a (-big) big = true) (hb : within b (-big) big = true) (h0 : b ≠ 0) : bin .mod (num a) (num b) = number (a.tmod b) := mod_num ha hb h0
theorem bin_mul_num {a b : Int} (ha : within a (-big) big = true) (hb : within b (-big) big = true) : bin .mul (num a) (num b) = number (a * b) := mul_num ha hb
theorem bin_add_num {a b : Int} (ha : within a (-big) big = true) (hb : within b (-big) big = true) : bin .add (num a) (num b) = number (a + b) := add_num ha hb
theorem number_in {n : Int} (h : within n (-big) big = true) : number n = (num n, []) := by unfold number; rw [if_pos h]

/-- EUCLID. -/
theorem euclid (a b : Int) (ha : within a (-big) big = true) (hb : within b (-big) big = true) (h0 : b ≠ 0) :
    bin .div (num a) (num b) = (num (a.tdiv b), []) ∧ bin .mod (num a) (num b) = (num (a.tmod b), []) ∧ bin .mul (num (a.tdiv b)) (num b) = (num (a.tdiv b * b), []) ∧ bin .add (num (a.tdiv b * b)) (num (a.tmod b)) = (num a, []) ∧
    -9007199254740992 ≤ a.tmod b ∧ a.tmod b ≤ 9007199254740992 ∧ max (a.tmod b) (-(a.tmod b)) < max b (-b) ∧ ((a.tmod b == 0) || (decide (a.tmod b < 0) == decide (a < 0))) = true := by
  obtain ⟨a1, a2⟩ := within_iff.1 ha
  obtain ⟨b1, b2⟩ := within_iff.1 hb
  have hd : (a.tdiv b).natAbs = a.natAbs / b.natAbs := Int.natAbs_tdiv a b
  have hr : (a.tmod b).natAbs = a.natAbs % b.natAbs := Int.natAbs_tmod a b
  have hd2 : (a.tdiv b).natAbs ≤ a.natAbs := by rw [hd]; exact Nat.div_le_self _ _
  have hr1 : (a.tmod b).natAbs < b.natAbs := by rw [hr]; exact Nat.mod_lt _ (by omega)
  have hr2 : (a.tmod b).natAbs ≤ a.natAbs := by rw [hr]; exact Nat.mod_le _ _
  have he : a.tdiv b * b + a.tmod b = a := by rw [Int.mul_comm]; exact Int.mul_tdiv_add_tmod a b
  have hs1 : 0 ≤ a → 0 ≤ a.tmod b := fun h => Int.tmod_nonneg b h
  have hs2 : a ≤ 0 → a.tmod b ≤ 0 := fun h => by
    have := Int.tmod_nonneg b (a := -a) (by omega)
    rw [Int.neg_tmod] at this
    omega
  clear hd hr
  have hwd : within (a.tdiv b) (-big) big = true := by rw [within_iff]; unfold big at *; omega
  have hwr : within (a.tmod b) (-big) big = true := by rw [within_iff]; unfold big at *; omega
  have hwp : within (a.tdiv b * b) (-big) big = true := by
    rw [within_iff]
    generalize a.tdiv b * b = p at *
    unfold big at *
    by_cases h : a < 0
    · have := hs2 (by omega); omega
    · have := hs1 (by omega); omega
  refine ⟨by rw [bin_div_num ha hb h0, number_in hwd], by rw [bin_mod_num ha hb h0, number_in hwr], by rw [bin_mul_num hwd hb, number_in hwp], by rw [bin_add_num hwp hwr, he, number_in ha], ?_, ?_, ?_, ?_⟩
  · have := (within_iff.1 hwr).1; unfold big at this; omega
  · have := (within_iff.1 hwr).2; unfold big at this; omega
  · generalize a.tmod b = r at *; omega
  · generalize a.tmod b = r at *
    by_cases h : r = 0
    · simp [h]
    · have e : decide (r < 0) = decide (a < 0) := by
        rw [Bool.eq_iff_iff, decide_eq_true_iff, decide_eq_true_iff]
        omega
      rw [e]; simp

end Valu
