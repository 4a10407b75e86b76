/-
  The laws of order. Conditions: none.
-/
import Derived.Test.YtollnadeaffomaaDoorVal3
namespace Valu

theorem check_k2 {v : V} (h : check v = true) (hk : v.k = 2) : v = num v.n := by
  obtain ⟨k, n, s⟩ := v
  simp only at hk
  subst hk
  simp [check] at h
  simp [num, h.2]
theorem check_k3 {v : V} (h : check v = true) (hk : v.k = 3) : v = txt v.s := by
  obtain ⟨k, n, s⟩ := v
  simp only at hk
  subst hk
  simp [check] at h
  simp [txt, h.2]
/-- of two values, by a comparison c. -/
def Cmp (a b : V) (c : Int) : Prop := bin .lt a b = (truth (lessP c), []) ∧ bin .gt a b = (truth (moreP c), []) ∧ bin .ge a b = (truth (noP c), []) ∧ bin .eq a b = (truth (decide (c = 0)), [])
theorem cmp_nums {a b : V} (h : nums (right a) (right b) = true) : Cmp a b (Go.Lib.compareInt (right a).n (right b).n) := by
  have hk : (right a).k = 2 ∧ (right b).k = 2 := by simpa [nums] using h
  refine ⟨by simp [bin, binR, ordR, h], by simp [bin, binR, ordR, h], by simp [bin, binR, ordR, h], ?_⟩
  simp only [bin, binR]
  have e : decide (right a = right b) = decide (Go.Lib.compareInt (right a).n (right b).n = 0) := by
    rw [Bool.eq_iff_iff, decide_eq_true_iff, decide_eq_true_iff, compareInt_eq]
    constructor
    · intro e; rw [e]
    · intro e; rw [check_k2 (check_right a) hk.1, check_k2 (check_right b) hk.2, e]
  rw [e]
theorem cmp_texts {a b : V} (h : texts (right a) (right b) = true) : Cmp a b (Go.Lib.compareBytes (right a).s (right b).s) := by
  have hk : (right a).k = 3 ∧ (right b).k = 3 := by simpa [texts] using h
  have hn : nums (right a) (right b) = false := by simp [nums, hk.1]
  refine ⟨by simp [bin, binR, ordR, h, hn], by simp [bin, binR, ordR, h, hn], by simp [bin, binR, ordR, h, hn], ?_⟩
  simp only [bin, binR]
  have e : decide (right a = right b) = decide (Go.Lib.compareBytes (right a).s (right b).s = 0) := by
    rw [Bool.eq_iff_iff, decide_eq_true_iff, decide_eq_true_iff]
    constructor
    · intro e; rw [e]; exact compareBytes_self _
    · intro e; rw [check_k3 (check_right a) hk.1, check_k3 (check_right b) hk.2, compareBytes_eq e]
  rw [e]
theorem cmp_none {a b : V} (hn : nums (right a) (right b) = false) (ht : texts (right a) (right b) = false) : bin .lt a b = (null, sKind) ∧ bin .gt a b = (null, sKind) :=
  ⟨by simp [bin, binR, ordR, hn, ht], by simp [bin, binR, ordR, hn, ht]⟩
theorem order_cases (a b : V) : (∃ c, Cmp a b c) ∨ (bin .lt a b = (null, sKind) ∧ bin .gt a b = (null, sKind)) := by
  cases hn : nums (right a) (right b)
  · cases ht : texts (right a) (right b)
    · exact .inr (cmp_none hn ht)
    · exact .inl ⟨_, cmp_texts ht⟩
  · exact .inl ⟨_, cmp_nums hn⟩
theorem no_less (c : Int) : noP c = !lessP c := by
  unfold noP lessP
  rw [Bool.eq_iff_iff]; simp
/-- what is less is of one kind. -/
theorem less_kind {a b : V} (h : (bin .lt a b).2 = []) : nums (right a) (right b) = true ∨ texts (right a) (right b) = true := by
  cases hn : nums (right a) (right b)
  · cases ht : texts (right a) (right b)
    · rw [(cmp_none hn ht).1] at h; exact absurd h (by decide)
    · exact .inr rfl
  · exact .inl rfl
theorem less_trans {a b c : V} (h1 : (bin .lt a b).2 = []) (h2 : (bin .lt b c).2 = []) (_ : (bin .lt a c).2 = []) (t1 : truthy (bin .lt a b).1 = true) (t2 : truthy (bin .lt b c).1 = true) : truthy (bin .lt a c).1 = true := by
  rcases less_kind h1 with k1 | k1
  · have e1 : (right a).k = 2 ∧ (right b).k = 2 := by simpa [nums] using k1
    rcases less_kind h2 with k2 | k2
    · have e2 : (right b).k = 2 ∧ (right c).k = 2 := by simpa [nums] using k2
      have k3 : nums (right a) (right c) = true := by simp [nums, e1.1, e2.2]
      rw [(cmp_nums k1).1] at t1
      rw [(cmp_nums k2).1] at t2
      rw [(cmp_nums k3).1]
      rw [truthy_truth] at t1 t2 ⊢
      have p1 := compareInt_lt.1 (of_decide_eq_true t1)
      have p2 := compareInt_lt.1 (of_decide_eq_true t2)
      exact decide_eq_true (compareInt_lt.2 (by omega))
    · have e2 : (right b).k = 3 ∧ (right c).k = 3 := by simpa [texts] using k2
      omega
  · have e1 : (right a).k = 3 ∧ (right b).k = 3 := by simpa [texts] using k1
    rcases less_kind h2 with k2 | k2
    · have e2 : (right b).k = 2 ∧ (right c).k = 2 := by simpa [nums] using k2
      omega
    · have e2 : (right b).k = 3 ∧ (right c).k = 3 := by simpa [texts] using k2
      have k3 : texts (right a) (right c) = true := by simp [texts, e1.1, e2.2]
      rw [(cmp_texts k1).1] at t1
      rw [(cmp_texts k2).1] at t2
      rw [(cmp_texts k3).1]
      rw [truthy_truth] at t1 t2 ⊢
      exact decide_eq_true (compareBytes_trans (of_decide_eq_true t1) (of_decide_eq_true t2))
end Valu
