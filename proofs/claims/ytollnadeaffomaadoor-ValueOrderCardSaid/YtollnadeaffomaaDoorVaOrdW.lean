/-
  ValueOrder's walk, for every three values. Conditions: the library's table lies where it lies; a text has fewer than 2^47 bytes.
-/
import Derived.Test.YtollnadeaffomaaDoorVaOrdN
import Derived.Test.YtollnadeaffomaaDoorVaOrdL
import Derived.Test.YtollnadeaffomaaDoorVaOrdM
import Derived.Test.YtollnadeaffomaaDoorVaOrdS
import Derived.Test.YtollnadeaffomaaDoorVal4
namespace Go.Proofs.YtollnadeaffomaaDoor
open Go.RowKit

theorem is_lt (a b : Valu.V) (ha : a.s.length ≤ 140737488355328) (hb : b.s.length ≤ 140737488355328) : BinIs [60] a b (Valu.bin .lt a b) := fun w he h4 => bin_lt a b w he h4 ha hb
theorem is_gt (a b : Valu.V) (ha : a.s.length ≤ 140737488355328) (hb : b.s.length ≤ 140737488355328) : BinIs [62] a b (Valu.bin .gt a b) := fun w he h4 => bin_gt a b w he h4 ha hb
theorem is_ge (a b : Valu.V) (ha : a.s.length ≤ 140737488355328) (hb : b.s.length ≤ 140737488355328) : BinIs [62, 61] a b (Valu.bin .ge a b) := fun w he h4 => bin_ge a b w he h4 ha hb
theorem is_eq (a b : Valu.V) (ha : a.s.length ≤ 140737488355328) (hb : b.s.length ≤ 140737488355328) : BinIs [61, 61] a b (Valu.bin .eq a b) := fun w he h4 => bin_eq a b w he h4 ha hb

theorem order_walk (a b c : Valu.V) (w : World) (he : Env w) (h4 : 4 ≤ w.heap.size) (ha : a.s.length ≤ 140737488355328) (hb : b.s.length ≤ 140737488355328) (hc : c.s.length ≤ 140737488355328) :
    Calls Tryd.prog 5 #[vag a, vag b, vag c] w fun e w' => e = .returned (.bool true) ∧ Below w.heap.size w w' := by
  have ht := fun h1 h2 h3 t1 t2 => Valu.less_trans (a := a) (b := b) (c := c) h1 h2 h3 t1 t2
  rcases q4 : Valu.bin .lt b c with ⟨X4, e4⟩
  rcases q5 : Valu.bin .lt a c with ⟨X5, e5⟩
  have o4 : X4.s.length ≤ 140737488355328 := by have h := bin_one .lt b c; rw [q4] at h; exact h
  have o5 : X5.s.length ≤ 140737488355328 := by have h := bin_one .lt a c; rw [q5] at h; exact h
  simp only [q4, q5] at ht
  have B4 := bin_is (is_lt b c hb hc) q4
  have B5 := bin_is (is_lt a c ha hc) q5
  rcases Valu.order_cases a b with ⟨x, h1, h2, h3, h5⟩ | ⟨h1, h2⟩
  · rw [Valu.no_less] at h3
    by_cases hx : x < 0
    · have p1 : Valu.lessP x = true := decide_eq_true hx
      have p2 : Valu.moreP x = false := decide_eq_false (by omega)
      have p3 : decide (x = 0) = false := decide_eq_false (by omega)
      rw [p1] at h1 h3
      rw [p2] at h2
      rw [p3] at h5
      refine order_L a b c w he h4 X4 X5 o4 o5 [] e4 e5 (fun g4 g5 t4 => ?_) (bin_is (is_lt a b ha hb) h1) (bin_is (is_gt a b ha hb) h2) (bin_is (is_eq a b ha hb) h5) B4 B5 (bin_is (is_ge a b ha hb) h3)
      exact ht (by rw [h1]) g4 g5 (by rw [h1]; exact Valu.truthy_truth true) t4
    · by_cases hy : 0 < x
      · have p1 : Valu.lessP x = false := decide_eq_false hx
        have p2 : Valu.moreP x = true := decide_eq_true hy
        have p3 : decide (x = 0) = false := decide_eq_false (by omega)
        rw [p1] at h1 h3
        rw [p2] at h2
        rw [p3] at h5
        exact order_M a b c w he h4 X4 X5 [] e4 e5 (bin_is (is_lt a b ha hb) h1) (bin_is (is_gt a b ha hb) h2) (bin_is (is_eq a b ha hb) h5) B4 B5 (bin_is (is_ge a b ha hb) h3)
      · have p1 : Valu.lessP x = false := decide_eq_false hx
        have p2 : Valu.moreP x = false := decide_eq_false hy
        have p3 : decide (x = 0) = true := decide_eq_true (by omega)
        rw [p1] at h1 h3
        rw [p2] at h2
        rw [p3] at h5
        exact order_S a b c w he h4 X4 X5 [] e4 e5 (bin_is (is_lt a b ha hb) h1) (bin_is (is_gt a b ha hb) h2) (bin_is (is_eq a b ha hb) h5) B4 B5 (bin_is (is_ge a b ha hb) h3)
  · exact order_no a b c w he h4 _ _ _ _ _ _ _ _ _ _ (bin_is (is_lt a b ha hb) h1) (bin_is (is_gt a b ha hb) h2) (is_eq a b ha hb) B4 B5 (is_ge a b ha hb)
end Go.Proofs.YtollnadeaffomaaDoor
