/-
  The laws of sums and products. Conditions: none.
-/
import Derived.Test.YtollnadeaffomaaDoorVal2
namespace Valu

theorem number_short (n : Int) : (number n).2.length ≤ 50 := by
  unfold number; split <;> simp [sRange]
theorem bin_short (g : Sg) (a b : V) : (bin g a b).2.length ≤ 50 := by
  unfold bin
  cases g
  · simp only [binR, addR]; repeat' split
    · exact number_short _
    · simp [sLarge]
    · simp
    · simp [sKind]
  · simp only [binR, mulR]; repeat' split
    · exact number_short _
    · simp [sKind]
  · simp only [binR, divR]; repeat' split
    · simp [sZero]
    · exact number_short _
    · simp [sKind]
  · simp only [binR, modR]; repeat' split
    · simp [sZero]
    · exact number_short _
    · simp [sKind]
  · simp only [binR, ordR]; repeat' split
    · simp
    · simp
    · simp [sKind]
  · simp only [binR, ordR]; repeat' split
    · simp
    · simp
    · simp [sKind]
  · simp only [binR, ordR]; repeat' split
    · simp
    · simp
    · simp [sKind]
  · simp [binR]
/-- a sign that reckons as f does. -/
def Does (g : Sg) (f : Int → Int → Int) : Prop := ∀ a b : Int, within a (-big) big = true → within b (-big) big = true → bin g (num a) (num b) = number (f a b)
theorem does_add : Does .add (· + ·) := fun _ _ ha hb => bin_add_num ha hb
theorem does_mul : Does .mul (· * ·) := fun _ _ ha hb => bin_mul_num ha hb
theorem does_ok {g : Sg} {f : Int → Int → Int} (h : Does g f) {a b : Int} (ha : within a (-big) big = true) (hb : within b (-big) big = true) (he : (bin g (num a) (num b)).2 = []) :
    within (f a b) (-big) big = true ∧ (bin g (num a) (num b)).1 = num (f a b) := by
  rw [h a b ha hb] at he ⊢
  obtain ⟨h1, h2⟩ := number_ok he
  exact ⟨h1, by rw [h2]⟩
theorem four_nil {e g h i : Bs} (hh : ((e ++ g) ++ h) ++ i = []) : e = [] ∧ g = [] ∧ h = [] ∧ i = [] := by
  simp only [List.append_eq_nil_iff] at hh
  exact ⟨hh.1.1.1, hh.1.1.2, hh.1.2, hh.2⟩
theorem assoc {g : Sg} {f : Int → Int → Int} (hf : Does g f) (ha : ∀ x y z, f (f x y) z = f x (f y z)) {a b c : Int} (wa : within a (-big) big = true) (wb : within b (-big) big = true) (wc : within c (-big) big = true)
    (h1 : (bin g (num a) (num b)).2 = []) (h2 : (bin g (bin g (num a) (num b)).1 (num c)).2 = []) (h3 : (bin g (num b) (num c)).2 = []) (h4 : (bin g (num a) (bin g (num b) (num c)).1).2 = []) :
    (bin g (bin g (num a) (num b)).1 (num c)).1 = (bin g (num a) (bin g (num b) (num c)).1).1 := by
  obtain ⟨k1, e1⟩ := does_ok hf wa wb h1
  obtain ⟨k3, e3⟩ := does_ok hf wb wc h3
  rw [e1] at h2 ⊢
  rw [e3] at h4 ⊢
  obtain ⟨_, e2⟩ := does_ok hf k1 wc h2
  obtain ⟨_, e4⟩ := does_ok hf wa k3 h4
  rw [e2, e4, ha]
theorem comm {g : Sg} {f : Int → Int → Int} (hf : Does g f) (hc : ∀ x y, f x y = f y x) {a b : Int} (wa : within a (-big) big = true) (wb : within b (-big) big = true) : bin g (num b) (num a) = bin g (num a) (num b) := by
  rw [hf a b wa wb, hf b a wb wa, hc]
theorem distr {a b c : Int} (wa : within a (-big) big = true) (wb : within b (-big) big = true) (wc : within c (-big) big = true)
    (h1 : (bin .add (num b) (num c)).2 = []) (h2 : (bin .mul (num a) (bin .add (num b) (num c)).1).2 = []) (h3 : (bin .mul (num a) (num b)).2 = []) (h4 : (bin .mul (num a) (num c)).2 = [])
    (h5 : (bin .add (bin .mul (num a) (num b)).1 (bin .mul (num a) (num c)).1).2 = []) :
    (bin .mul (num a) (bin .add (num b) (num c)).1).1 = (bin .add (bin .mul (num a) (num b)).1 (bin .mul (num a) (num c)).1).1 := by
  obtain ⟨k1, e1⟩ := does_ok does_add wb wc h1
  obtain ⟨k3, e3⟩ := does_ok does_mul wa wb h3
  obtain ⟨k4, e4⟩ := does_ok does_mul wa wc h4
  rw [e1] at h2 ⊢
  rw [e3, e4] at h5 ⊢
  obtain ⟨_, e2⟩ := does_ok does_mul wa k1 h2
  obtain ⟨_, e5⟩ := does_ok does_add k3 k4 h5
  rw [e2, e5]
  simp only [Int.mul_add]
end Valu
