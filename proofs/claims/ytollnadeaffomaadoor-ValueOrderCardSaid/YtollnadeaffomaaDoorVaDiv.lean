/-
  ValueDivides' walk. Conditions: the library's table lies where it lies; both are 64-bit numbers.
-/
import Derived.Test.YtollnadeaffomaaDoorVaSame
import Derived.Test.YtollnadeaffomaaDoorVal2
namespace Go.Proofs.YtollnadeaffomaaDoor
open Go.RowKit

theorem check_is (v : Valu.V) (hz : v.s.length ≤ 140737488355328) (t : Bool) (ht : Valu.check v = t) (w : World) :
    Calls Tryd.prog 9 #[vag v] w fun e w' => e = .returned (.bool t) ∧ Below w.heap.size w w' := by rw [← ht]; exact check_any v w (by omega)
/-- Binary, told as what it gives. -/
theorem bin_is {l : Valu.Bs} {a b : Valu.V} {x y : Valu.V × Valu.Bs} (h : BinIs l a b x) (e : x = y) : BinIs l a b y := e ▸ h

set_option maxRecDepth 100000 in
set_option maxHeartbeats 4000000 in
theorem div_no_x (a b : Int) (w : World) (he : Env w) (h4 : 4 ≤ w.heap.size)
    (hx : Valu.check (Valu.num a) = false) :
    Calls Tryd.prog 4 #[.int .i64 a, .int .i64 b] w fun e w' => e = .returned (.bool true) ∧ Below w.heap.size w w' := by
  have HL := Lib.hid lives_true
  have HNa := Lib.hid (num_any a)
  have HNb := Lib.hid (num_any b)
  have HCx := Lib.hid (check_is (Valu.num a) (by simp [Valu.num]) _ hx)
  obtain ⟨Q, R, E, hq, hr⟩ := Valu.div_mod_same a b (.inl hx)
  have HD := Lib.hid (bin_is (is_div (Valu.num a) (Valu.num b) (by simp [Valu.num]) (by simp [Valu.num])) hq)
  have HM := Lib.hid (bin_is (is_mod (Valu.num a) (Valu.num b) (by simp [Valu.num]) (by simp [Valu.num])) hr)
  clear hx hq hr 
  go_enter Tryd.func4, Tryd.ntmps4
  have hb0 : Below w.heap.size w w := Below.refl _ w
  go_wp2_with (fail)
  refine (HNa.out _).mono ?_
  rintro e w1 ⟨rfl, hc1⟩
  have hb1 : Below w.heap.size w w1 := hb0.trans (hc1.mono hb0.size)
  have hz1 := hb1.size
  clear hc1 hb0
  go_wp2_with (fail)
  refine (HNb.out _).mono ?_
  rintro e w2 ⟨rfl, hc2⟩
  have hb2 : Below w.heap.size w w2 := hb1.trans (hc2.mono hb1.size)
  have hz2 := hb2.size
  clear hc2 hb1
  go_upto_region 2 with (fail)
  have xb : VBox ((w2.alloc (.cells (vcells (Valu.num a)) 23)).alloc (.cells (vcells (Valu.num b)) 23)) (w2.heap.size) (Valu.num a) := Box.alloc (Box.new w2 23 (vcells (Valu.num a))) (.cells (vcells (Valu.num b)) 23)
  have yb : VBox ((w2.alloc (.cells (vcells (Valu.num a)) 23)).alloc (.cells (vcells (Valu.num b)) 23)) (w2.heap.size + 1) (Valu.num b) := new2 w2 (.cells (vcells (Valu.num a)) 23) 23 (vcells (Valu.num b))
  have hbb1 : Below w.heap.size w ((w2.alloc (.cells (vcells (Valu.num a)) 23)).alloc (.cells (vcells (Valu.num b)) 23)) := (hb2.alloc hz2 _).alloc (by simp; omega) _
  clear hb2
  clear hz2
  generalize ((w2.alloc (.cells (vcells (Valu.num a)) 23)).alloc (.cells (vcells (Valu.num b)) 23)) = W1 at *
  generalize w2.heap.size = m1 at *
  obtain ⟨xbc0, xbc1, xbc2⟩ := box3 xb
  obtain ⟨ybc0, ybc1, ybc2⟩ := box3 yb
  go_wp2_with (fail)
  clear xbc0 xbc1 xbc2 ybc0 ybc1 ybc2
  refine (HD.out _ (he.below hbb1 h4) (by have := hbb1.size; omega)).mono ?_
  rintro e w3 ⟨rfl, hc3⟩
  have xbn := Box.below xb hc3 xb.lt
  clear xb
  have xb := xbn
  clear xbn
  have ybn := Box.below yb hc3 yb.lt
  clear yb
  have yb := ybn
  clear ybn
  have hb3 : Below w.heap.size w w3 := hbb1.trans (hc3.mono hbb1.size)
  have hz3 := hb3.size
  clear hc3 hbb1
  go_upto_region 3 with (fail)
  have xbn := (Box.alloc xb (.cells (vcells Q) 23))
  clear xb
  have xb := xbn
  clear xbn
  have ybn := (Box.alloc yb (.cells (vcells Q) 23))
  clear yb
  have yb := ybn
  clear ybn
  have qb : VBox (w3.alloc (.cells (vcells Q) 23)) (w3.heap.size) Q := Box.new w3 23 (vcells Q)
  have hbb2 : Below w.heap.size w (w3.alloc (.cells (vcells Q) 23)) := hb3.alloc hz3 _
  clear hb3
  clear hz3
  generalize (w3.alloc (.cells (vcells Q) 23)) = W2 at *
  generalize w3.heap.size = m2 at *
  obtain ⟨xbc0, xbc1, xbc2⟩ := box3 xb
  obtain ⟨ybc0, ybc1, ybc2⟩ := box3 yb
  go_wp2_with (fail)
  clear xbc0 xbc1 xbc2 ybc0 ybc1 ybc2
  refine (HM.out _ (he.below hbb2 h4) (by have := hbb2.size; omega)).mono ?_
  rintro e w4 ⟨rfl, hc4⟩
  have xbn := Box.below xb hc4 xb.lt
  clear xb
  have xb := xbn
  clear xbn
  have ybn := Box.below yb hc4 yb.lt
  clear yb
  have yb := ybn
  clear ybn
  have qbn := Box.below qb hc4 qb.lt
  clear qb
  have qb := qbn
  clear qbn
  have hb4 : Below w.heap.size w w4 := hbb2.trans (hc4.mono hbb2.size)
  have hz4 := hb4.size
  clear hc4 hbb2
  go_upto_region 4 with (fail)
  have xbn := (Box.alloc xb (.cells (vcells R) 23))
  clear xb
  have xb := xbn
  clear xbn
  have ybn := (Box.alloc yb (.cells (vcells R) 23))
  clear yb
  have yb := ybn
  clear ybn
  have qbn := (Box.alloc qb (.cells (vcells R) 23))
  clear qb
  have qb := qbn
  clear qbn
  have rb : VBox (w4.alloc (.cells (vcells R) 23)) (w4.heap.size) R := Box.new w4 23 (vcells R)
  have hbb3 : Below w.heap.size w (w4.alloc (.cells (vcells R) 23)) := hb4.alloc hz4 _
  clear hb4
  clear hz4
  generalize (w4.alloc (.cells (vcells R) 23)) = W3 at *
  generalize w4.heap.size = m3 at *
  obtain ⟨xbc0, xbc1, xbc2⟩ := box3 xb
  obtain ⟨ybc0, ybc1, ybc2⟩ := box3 yb
  go_wp2_with (fail)
  clear xbc0 xbc1 xbc2 ybc0 ybc1 ybc2
  refine (HL.out _ (he.below hbb3 h4) (by have := hbb3.size; omega)).mono ?_
  rintro e w5 ⟨rfl, hc5⟩
  have xbn := Box.below xb hc5 xb.lt
  clear xb
  have xb := xbn
  clear xbn
  have ybn := Box.below yb hc5 yb.lt
  clear yb
  have yb := ybn
  clear ybn
  have qbn := Box.below qb hc5 qb.lt
  clear qb
  have qb := qbn
  clear qbn
  have rbn := Box.below rb hc5 rb.lt
  clear rb
  have rb := rbn
  clear rbn
  have hb5 : Below w.heap.size w w5 := hbb3.trans (hc5.mono hbb3.size)
  have hz5 := hb5.size
  clear hc5 hbb3
  obtain ⟨xbc0, xbc1, xbc2⟩ := box3 xb
  obtain ⟨ybc0, ybc1, ybc2⟩ := box3 yb
  go_wp2_with (fail)
  clear xbc0 xbc1 xbc2 ybc0 ybc1 ybc2
  refine (HCx.out _).mono ?_
  rintro e w6 ⟨rfl, hc6⟩
  have xbn := Box.below xb hc6 xb.lt
  clear xb
  have xb := xbn
  clear xbn
  have ybn := Box.below yb hc6 yb.lt
  clear yb
  have yb := ybn
  clear ybn
  have qbn := Box.below qb hc6 qb.lt
  clear qb
  have qb := qbn
  clear qbn
  have rbn := Box.below rb hc6 rb.lt
  clear rb
  have rb := rbn
  clear rbn
  have hb6 : Below w.heap.size w w6 := hb5.trans (hc6.mono hb5.size)
  have hz6 := hb6.size
  clear hc6 hb5
  obtain ⟨xbc0, xbc1, xbc2⟩ := box3 xb
  obtain ⟨ybc0, ybc1, ybc2⟩ := box3 yb
  go_wp2_with (fail)
  clear xbc0 xbc1 xbc2 ybc0 ybc1 ybc2
  refine (HL.out _ (he.below hb6 h4) (by have := hb6.size; omega)).mono ?_
  rintro e w7 ⟨rfl, hc7⟩
  have xbn := Box.below xb hc7 xb.lt
  clear xb
  have xb := xbn
  clear xbn
  have ybn := Box.below yb hc7 yb.lt
  clear yb
  have yb := ybn
  clear ybn
  have qbn := Box.below qb hc7 qb.lt
  clear qb
  have qb := qbn
  clear qbn
  have rbn := Box.below rb hc7 rb.lt
  clear rb
  have rb := rbn
  clear rbn
  have hb7 : Below w.heap.size w w7 := hb6.trans (hc7.mono hb6.size)
  have hz7 := hb7.size
  clear hc7 hb6
  go_wp2
  go_ret
  exact ⟨rfl, hb7⟩

set_option maxRecDepth 100000 in
set_option maxHeartbeats 4000000 in
theorem div_no_y (a b : Int) (w : World) (he : Env w) (h4 : 4 ≤ w.heap.size)
    (hx : Valu.check (Valu.num a) = true) (hy : Valu.check (Valu.num b) = false) :
    Calls Tryd.prog 4 #[.int .i64 a, .int .i64 b] w fun e w' => e = .returned (.bool true) ∧ Below w.heap.size w w' := by
  have HL := Lib.hid lives_true
  have HNa := Lib.hid (num_any a)
  have HNb := Lib.hid (num_any b)
  have HCx := Lib.hid (check_is (Valu.num a) (by simp [Valu.num]) _ hx)
  have HCy := Lib.hid (check_is (Valu.num b) (by simp [Valu.num]) _ hy)
  obtain ⟨Q, R, E, hq, hr⟩ := Valu.div_mod_same a b (.inr (.inl hy))
  have HD := Lib.hid (bin_is (is_div (Valu.num a) (Valu.num b) (by simp [Valu.num]) (by simp [Valu.num])) hq)
  have HM := Lib.hid (bin_is (is_mod (Valu.num a) (Valu.num b) (by simp [Valu.num]) (by simp [Valu.num])) hr)
  clear hx hy hq hr 
  go_enter Tryd.func4, Tryd.ntmps4
  have hb0 : Below w.heap.size w w := Below.refl _ w
  go_wp2_with (fail)
  refine (HNa.out _).mono ?_
  rintro e w1 ⟨rfl, hc1⟩
  have hb1 : Below w.heap.size w w1 := hb0.trans (hc1.mono hb0.size)
  have hz1 := hb1.size
  clear hc1 hb0
  go_wp2_with (fail)
  refine (HNb.out _).mono ?_
  rintro e w2 ⟨rfl, hc2⟩
  have hb2 : Below w.heap.size w w2 := hb1.trans (hc2.mono hb1.size)
  have hz2 := hb2.size
  clear hc2 hb1
  go_upto_region 2 with (fail)
  have xb : VBox ((w2.alloc (.cells (vcells (Valu.num a)) 23)).alloc (.cells (vcells (Valu.num b)) 23)) (w2.heap.size) (Valu.num a) := Box.alloc (Box.new w2 23 (vcells (Valu.num a))) (.cells (vcells (Valu.num b)) 23)
  have yb : VBox ((w2.alloc (.cells (vcells (Valu.num a)) 23)).alloc (.cells (vcells (Valu.num b)) 23)) (w2.heap.size + 1) (Valu.num b) := new2 w2 (.cells (vcells (Valu.num a)) 23) 23 (vcells (Valu.num b))
  have hbb1 : Below w.heap.size w ((w2.alloc (.cells (vcells (Valu.num a)) 23)).alloc (.cells (vcells (Valu.num b)) 23)) := (hb2.alloc hz2 _).alloc (by simp; omega) _
  clear hb2
  clear hz2
  generalize ((w2.alloc (.cells (vcells (Valu.num a)) 23)).alloc (.cells (vcells (Valu.num b)) 23)) = W1 at *
  generalize w2.heap.size = m1 at *
  obtain ⟨xbc0, xbc1, xbc2⟩ := box3 xb
  obtain ⟨ybc0, ybc1, ybc2⟩ := box3 yb
  go_wp2_with (fail)
  clear xbc0 xbc1 xbc2 ybc0 ybc1 ybc2
  refine (HD.out _ (he.below hbb1 h4) (by have := hbb1.size; omega)).mono ?_
  rintro e w3 ⟨rfl, hc3⟩
  have xbn := Box.below xb hc3 xb.lt
  clear xb
  have xb := xbn
  clear xbn
  have ybn := Box.below yb hc3 yb.lt
  clear yb
  have yb := ybn
  clear ybn
  have hb3 : Below w.heap.size w w3 := hbb1.trans (hc3.mono hbb1.size)
  have hz3 := hb3.size
  clear hc3 hbb1
  go_upto_region 3 with (fail)
  have xbn := (Box.alloc xb (.cells (vcells Q) 23))
  clear xb
  have xb := xbn
  clear xbn
  have ybn := (Box.alloc yb (.cells (vcells Q) 23))
  clear yb
  have yb := ybn
  clear ybn
  have qb : VBox (w3.alloc (.cells (vcells Q) 23)) (w3.heap.size) Q := Box.new w3 23 (vcells Q)
  have hbb2 : Below w.heap.size w (w3.alloc (.cells (vcells Q) 23)) := hb3.alloc hz3 _
  clear hb3
  clear hz3
  generalize (w3.alloc (.cells (vcells Q) 23)) = W2 at *
  generalize w3.heap.size = m2 at *
  obtain ⟨xbc0, xbc1, xbc2⟩ := box3 xb
  obtain ⟨ybc0, ybc1, ybc2⟩ := box3 yb
  go_wp2_with (fail)
  clear xbc0 xbc1 xbc2 ybc0 ybc1 ybc2
  refine (HM.out _ (he.below hbb2 h4) (by have := hbb2.size; omega)).mono ?_
  rintro e w4 ⟨rfl, hc4⟩
  have xbn := Box.below xb hc4 xb.lt
  clear xb
  have xb := xbn
  clear xbn
  have ybn := Box.below yb hc4 yb.lt
  clear yb
  have yb := ybn
  clear ybn
  have qbn := Box.below qb hc4 qb.lt
  clear qb
  have qb := qbn
  clear qbn
  have hb4 : Below w.heap.size w w4 := hbb2.trans (hc4.mono hbb2.size)
  have hz4 := hb4.size
  clear hc4 hbb2
  go_upto_region 4 with (fail)
  have xbn := (Box.alloc xb (.cells (vcells R) 23))
  clear xb
  have xb := xbn
  clear xbn
  have ybn := (Box.alloc yb (.cells (vcells R) 23))
  clear yb
  have yb := ybn
  clear ybn
  have qbn := (Box.alloc qb (.cells (vcells R) 23))
  clear qb
  have qb := qbn
  clear qbn
  have rb : VBox (w4.alloc (.cells (vcells R) 23)) (w4.heap.size) R := Box.new w4 23 (vcells R)
  have hbb3 : Below w.heap.size w (w4.alloc (.cells (vcells R) 23)) := hb4.alloc hz4 _
  clear hb4
  clear hz4
  generalize (w4.alloc (.cells (vcells R) 23)) = W3 at *
  generalize w4.heap.size = m3 at *
  obtain ⟨xbc0, xbc1, xbc2⟩ := box3 xb
  obtain ⟨ybc0, ybc1, ybc2⟩ := box3 yb
  go_wp2_with (fail)
  clear xbc0 xbc1 xbc2 ybc0 ybc1 ybc2
  refine (HL.out _ (he.below hbb3 h4) (by have := hbb3.size; omega)).mono ?_
  rintro e w5 ⟨rfl, hc5⟩
  have xbn := Box.below xb hc5 xb.lt
  clear xb
  have xb := xbn
  clear xbn
  have ybn := Box.below yb hc5 yb.lt
  clear yb
  have yb := ybn
  clear ybn
  have qbn := Box.below qb hc5 qb.lt
  clear qb
  have qb := qbn
  clear qbn
  have rbn := Box.below rb hc5 rb.lt
  clear rb
  have rb := rbn
  clear rbn
  have hb5 : Below w.heap.size w w5 := hbb3.trans (hc5.mono hbb3.size)
  have hz5 := hb5.size
  clear hc5 hbb3
  obtain ⟨xbc0, xbc1, xbc2⟩ := box3 xb
  obtain ⟨ybc0, ybc1, ybc2⟩ := box3 yb
  go_wp2_with (fail)
  clear xbc0 xbc1 xbc2 ybc0 ybc1 ybc2
  refine (HCx.out _).mono ?_
  rintro e w6 ⟨rfl, hc6⟩
  have xbn := Box.below xb hc6 xb.lt
  clear xb
  have xb := xbn
  clear xbn
  have ybn := Box.below yb hc6 yb.lt
  clear yb
  have yb := ybn
  clear ybn
  have qbn := Box.below qb hc6 qb.lt
  clear qb
  have qb := qbn
  clear qbn
  have rbn := Box.below rb hc6 rb.lt
  clear rb
  have rb := rbn
  clear rbn
  have hb6 : Below w.heap.size w w6 := hb5.trans (hc6.mono hb5.size)
  have hz6 := hb6.size
  clear hc6 hb5
  obtain ⟨xbc0, xbc1, xbc2⟩ := box3 xb
  obtain ⟨ybc0, ybc1, ybc2⟩ := box3 yb
  go_wp2_with (fail)
  clear xbc0 xbc1 xbc2 ybc0 ybc1 ybc2
  refine (HCy.out _).mono ?_
  rintro e w7 ⟨rfl, hc7⟩
  have xbn := Box.below xb hc7 xb.lt
  clear xb
  have xb := xbn
  clear xbn
  have ybn := Box.below yb hc7 yb.lt
  clear yb
  have yb := ybn
  clear ybn
  have qbn := Box.below qb hc7 qb.lt
  clear qb
  have qb := qbn
  clear qbn
  have rbn := Box.below rb hc7 rb.lt
  clear rb
  have rb := rbn
  clear rbn
  have hb7 : Below w.heap.size w w7 := hb6.trans (hc7.mono hb6.size)
  have hz7 := hb7.size
  clear hc7 hb6
  obtain ⟨xbc0, xbc1, xbc2⟩ := box3 xb
  obtain ⟨ybc0, ybc1, ybc2⟩ := box3 yb
  go_wp2_with (fail)
  clear xbc0 xbc1 xbc2 ybc0 ybc1 ybc2
  refine (HL.out _ (he.below hb7 h4) (by have := hb7.size; omega)).mono ?_
  rintro e w8 ⟨rfl, hc8⟩
  have xbn := Box.below xb hc8 xb.lt
  clear xb
  have xb := xbn
  clear xbn
  have ybn := Box.below yb hc8 yb.lt
  clear yb
  have yb := ybn
  clear ybn
  have qbn := Box.below qb hc8 qb.lt
  clear qb
  have qb := qbn
  clear qbn
  have rbn := Box.below rb hc8 rb.lt
  clear rb
  have rb := rbn
  clear rbn
  have hb8 : Below w.heap.size w w8 := hb7.trans (hc8.mono hb7.size)
  have hz8 := hb8.size
  clear hc8 hb7
  go_wp2
  go_ret
  exact ⟨rfl, hb8⟩

set_option maxRecDepth 100000 in
set_option maxHeartbeats 4000000 in
theorem div_no_z (a b : Int) (w : World) (he : Env w) (h4 : 4 ≤ w.heap.size)
    (hx : Valu.check (Valu.num a) = true) (hy : Valu.check (Valu.num b) = true) (h0 : b = 0) :
    Calls Tryd.prog 4 #[.int .i64 a, .int .i64 b] w fun e w' => e = .returned (.bool true) ∧ Below w.heap.size w w' := by
  have HL := Lib.hid lives_true
  have HNa := Lib.hid (num_any a)
  have HNb := Lib.hid (num_any b)
  have HCx := Lib.hid (check_is (Valu.num a) (by simp [Valu.num]) _ hx)
  have HCy := Lib.hid (check_is (Valu.num b) (by simp [Valu.num]) _ hy)
  have hb0 : (b == 0) = true := by simpa using h0
  obtain ⟨Q, R, E, hq, hr⟩ := Valu.div_mod_same a b (.inr (.inr h0))
  have HD := Lib.hid (bin_is (is_div (Valu.num a) (Valu.num b) (by simp [Valu.num]) (by simp [Valu.num])) hq)
  have HM := Lib.hid (bin_is (is_mod (Valu.num a) (Valu.num b) (by simp [Valu.num]) (by simp [Valu.num])) hr)
  clear hx hy hq hr h0
  go_enter Tryd.func4, Tryd.ntmps4
  have hb0 : Below w.heap.size w w := Below.refl _ w
  go_wp2_with (fail)
  refine (HNa.out _).mono ?_
  rintro e w1 ⟨rfl, hc1⟩
  have hb1 : Below w.heap.size w w1 := hb0.trans (hc1.mono hb0.size)
  have hz1 := hb1.size
  clear hc1 hb0
  go_wp2_with (fail)
  refine (HNb.out _).mono ?_
  rintro e w2 ⟨rfl, hc2⟩
  have hb2 : Below w.heap.size w w2 := hb1.trans (hc2.mono hb1.size)
  have hz2 := hb2.size
  clear hc2 hb1
  go_upto_region 2 with (fail)
  have xb : VBox ((w2.alloc (.cells (vcells (Valu.num a)) 23)).alloc (.cells (vcells (Valu.num b)) 23)) (w2.heap.size) (Valu.num a) := Box.alloc (Box.new w2 23 (vcells (Valu.num a))) (.cells (vcells (Valu.num b)) 23)
  have yb : VBox ((w2.alloc (.cells (vcells (Valu.num a)) 23)).alloc (.cells (vcells (Valu.num b)) 23)) (w2.heap.size + 1) (Valu.num b) := new2 w2 (.cells (vcells (Valu.num a)) 23) 23 (vcells (Valu.num b))
  have hbb1 : Below w.heap.size w ((w2.alloc (.cells (vcells (Valu.num a)) 23)).alloc (.cells (vcells (Valu.num b)) 23)) := (hb2.alloc hz2 _).alloc (by simp; omega) _
  clear hb2
  clear hz2
  generalize ((w2.alloc (.cells (vcells (Valu.num a)) 23)).alloc (.cells (vcells (Valu.num b)) 23)) = W1 at *
  generalize w2.heap.size = m1 at *
  obtain ⟨xbc0, xbc1, xbc2⟩ := box3 xb
  obtain ⟨ybc0, ybc1, ybc2⟩ := box3 yb
  go_wp2_with (fail)
  clear xbc0 xbc1 xbc2 ybc0 ybc1 ybc2
  refine (HD.out _ (he.below hbb1 h4) (by have := hbb1.size; omega)).mono ?_
  rintro e w3 ⟨rfl, hc3⟩
  have xbn := Box.below xb hc3 xb.lt
  clear xb
  have xb := xbn
  clear xbn
  have ybn := Box.below yb hc3 yb.lt
  clear yb
  have yb := ybn
  clear ybn
  have hb3 : Below w.heap.size w w3 := hbb1.trans (hc3.mono hbb1.size)
  have hz3 := hb3.size
  clear hc3 hbb1
  go_upto_region 3 with (fail)
  have xbn := (Box.alloc xb (.cells (vcells Q) 23))
  clear xb
  have xb := xbn
  clear xbn
  have ybn := (Box.alloc yb (.cells (vcells Q) 23))
  clear yb
  have yb := ybn
  clear ybn
  have qb : VBox (w3.alloc (.cells (vcells Q) 23)) (w3.heap.size) Q := Box.new w3 23 (vcells Q)
  have hbb2 : Below w.heap.size w (w3.alloc (.cells (vcells Q) 23)) := hb3.alloc hz3 _
  clear hb3
  clear hz3
  generalize (w3.alloc (.cells (vcells Q) 23)) = W2 at *
  generalize w3.heap.size = m2 at *
  obtain ⟨xbc0, xbc1, xbc2⟩ := box3 xb
  obtain ⟨ybc0, ybc1, ybc2⟩ := box3 yb
  go_wp2_with (fail)
  clear xbc0 xbc1 xbc2 ybc0 ybc1 ybc2
  refine (HM.out _ (he.below hbb2 h4) (by have := hbb2.size; omega)).mono ?_
  rintro e w4 ⟨rfl, hc4⟩
  have xbn := Box.below xb hc4 xb.lt
  clear xb
  have xb := xbn
  clear xbn
  have ybn := Box.below yb hc4 yb.lt
  clear yb
  have yb := ybn
  clear ybn
  have qbn := Box.below qb hc4 qb.lt
  clear qb
  have qb := qbn
  clear qbn
  have hb4 : Below w.heap.size w w4 := hbb2.trans (hc4.mono hbb2.size)
  have hz4 := hb4.size
  clear hc4 hbb2
  go_upto_region 4 with (fail)
  have xbn := (Box.alloc xb (.cells (vcells R) 23))
  clear xb
  have xb := xbn
  clear xbn
  have ybn := (Box.alloc yb (.cells (vcells R) 23))
  clear yb
  have yb := ybn
  clear ybn
  have qbn := (Box.alloc qb (.cells (vcells R) 23))
  clear qb
  have qb := qbn
  clear qbn
  have rb : VBox (w4.alloc (.cells (vcells R) 23)) (w4.heap.size) R := Box.new w4 23 (vcells R)
  have hbb3 : Below w.heap.size w (w4.alloc (.cells (vcells R) 23)) := hb4.alloc hz4 _
  clear hb4
  clear hz4
  generalize (w4.alloc (.cells (vcells R) 23)) = W3 at *
  generalize w4.heap.size = m3 at *
  obtain ⟨xbc0, xbc1, xbc2⟩ := box3 xb
  obtain ⟨ybc0, ybc1, ybc2⟩ := box3 yb
  go_wp2_with (fail)
  clear xbc0 xbc1 xbc2 ybc0 ybc1 ybc2
  refine (HL.out _ (he.below hbb3 h4) (by have := hbb3.size; omega)).mono ?_
  rintro e w5 ⟨rfl, hc5⟩
  have xbn := Box.below xb hc5 xb.lt
  clear xb
  have xb := xbn
  clear xbn
  have ybn := Box.below yb hc5 yb.lt
  clear yb
  have yb := ybn
  clear ybn
  have qbn := Box.below qb hc5 qb.lt
  clear qb
  have qb := qbn
  clear qbn
  have rbn := Box.below rb hc5 rb.lt
  clear rb
  have rb := rbn
  clear rbn
  have hb5 : Below w.heap.size w w5 := hbb3.trans (hc5.mono hbb3.size)
  have hz5 := hb5.size
  clear hc5 hbb3
  obtain ⟨xbc0, xbc1, xbc2⟩ := box3 xb
  obtain ⟨ybc0, ybc1, ybc2⟩ := box3 yb
  go_wp2_with (fail)
  clear xbc0 xbc1 xbc2 ybc0 ybc1 ybc2
  refine (HCx.out _).mono ?_
  rintro e w6 ⟨rfl, hc6⟩
  have xbn := Box.below xb hc6 xb.lt
  clear xb
  have xb := xbn
  clear xbn
  have ybn := Box.below yb hc6 yb.lt
  clear yb
  have yb := ybn
  clear ybn
  have qbn := Box.below qb hc6 qb.lt
  clear qb
  have qb := qbn
  clear qbn
  have rbn := Box.below rb hc6 rb.lt
  clear rb
  have rb := rbn
  clear rbn
  have hb6 : Below w.heap.size w w6 := hb5.trans (hc6.mono hb5.size)
  have hz6 := hb6.size
  clear hc6 hb5
  obtain ⟨xbc0, xbc1, xbc2⟩ := box3 xb
  obtain ⟨ybc0, ybc1, ybc2⟩ := box3 yb
  go_wp2_with (fail)
  clear xbc0 xbc1 xbc2 ybc0 ybc1 ybc2
  refine (HCy.out _).mono ?_
  rintro e w7 ⟨rfl, hc7⟩
  have xbn := Box.below xb hc7 xb.lt
  clear xb
  have xb := xbn
  clear xbn
  have ybn := Box.below yb hc7 yb.lt
  clear yb
  have yb := ybn
  clear ybn
  have qbn := Box.below qb hc7 qb.lt
  clear qb
  have qb := qbn
  clear qbn
  have rbn := Box.below rb hc7 rb.lt
  clear rb
  have rb := rbn
  clear rbn
  have hb7 : Below w.heap.size w w7 := hb6.trans (hc7.mono hb6.size)
  have hz7 := hb7.size
  clear hc7 hb6
  obtain ⟨xbc0, xbc1, xbc2⟩ := box3 xb
  obtain ⟨ybc0, ybc1, ybc2⟩ := box3 yb
  go_wp2_with (fail)
  clear xbc0 xbc1 xbc2 ybc0 ybc1 ybc2
  refine (HL.out _ (he.below hb7 h4) (by have := hb7.size; omega)).mono ?_
  rintro e w8 ⟨rfl, hc8⟩
  have xbn := Box.below xb hc8 xb.lt
  clear xb
  have xb := xbn
  clear xbn
  have ybn := Box.below yb hc8 yb.lt
  clear yb
  have yb := ybn
  clear ybn
  have qbn := Box.below qb hc8 qb.lt
  clear qb
  have qb := qbn
  clear qbn
  have rbn := Box.below rb hc8 rb.lt
  clear rb
  have rb := rbn
  clear rbn
  have hb8 : Below w.heap.size w w8 := hb7.trans (hc8.mono hb7.size)
  have hz8 := hb8.size
  clear hc8 hb7
  go_wp2
  go_ret
  exact ⟨rfl, hb8⟩

set_option maxRecDepth 100000 in
set_option maxHeartbeats 4000000 in
theorem div_yes_at (a b q r p : Int) (w : World) (he : Env w) (h4 : 4 ≤ w.heap.size) (hx : Valu.check (Valu.num a) = true) (hy : Valu.check (Valu.num b) = true) (h0 : (b == 0) = false)
    (B1 : BinIs [47] (Valu.num a) (Valu.num b) (Valu.num q, [])) (B2 : BinIs [37] (Valu.num a) (Valu.num b) (Valu.num r, [])) (B3 : BinIs [42] (Valu.num q) (Valu.num b) (Valu.num p, [])) (B4 : BinIs [43] (Valu.num p) (Valu.num r) (Valu.num a, []))
    (r1 : -9007199254740992 ≤ r) (r2 : r ≤ 9007199254740992) (b1 : -9007199254740992 ≤ b) (b2 : b ≤ 9007199254740992) (hm : decide (max r (-r) < max b (-b)) = true) (z sr sa : Bool) (hz : (r == 0) = z) (hr : decide (r < 0) = sr) (ha : decide (a < 0) = sa) (hs : (z || (sr == sa)) = true) :
    Calls Tryd.prog 4 #[.int .i64 a, .int .i64 b] w fun e w' => e = .returned (.bool true) ∧ Below w.heap.size w w' := by
  have HL := Lib.hid lives_true
  have HNa := Lib.hid (num_any a)
  have HNb := Lib.hid (num_any b)
  have HCx := Lib.hid (check_is (Valu.num a) (by simp [Valu.num]) _ hx)
  have HCy := Lib.hid (check_is (Valu.num b) (by simp [Valu.num]) _ hy)
  have HD := Lib.hid B1
  have HM := Lib.hid B2
  have HP := Lib.hid B3
  have HS := Lib.hid B4
  have hcat : (⟨#[]⟩ : ByteArray) ++ (⟨#[]⟩ : ByteArray) = ⟨#[]⟩ := rfl
  have e1 : ∀ w, (binOp .eql 23 (vag (Valu.num a)) (vag (Valu.num a))).run Tryd.prog w = .ok (.bool true) w := fun w => by have := eql_val (Valu.num a) (Valu.num a) w; simpa using this
  clear B1 B2 B3 B4 hx hy
  cases z <;> cases sr <;> cases sa
  all_goals (first | (exact absurd hs (by decide)) | skip)
  all_goals
    clear hs
    go_enter Tryd.func4, Tryd.ntmps4
    have hb0 : Below w.heap.size w w := Below.refl _ w
    go_wp2_with (fail)
    refine (HNa.out _).mono ?_
    rintro e w1 ⟨rfl, hc1⟩
    have hb1 : Below w.heap.size w w1 := hb0.trans (hc1.mono hb0.size)
    have hz1 := hb1.size
    clear hc1 hb0
    go_wp2_with (fail)
    refine (HNb.out _).mono ?_
    rintro e w2 ⟨rfl, hc2⟩
    have hb2 : Below w.heap.size w w2 := hb1.trans (hc2.mono hb1.size)
    have hz2 := hb2.size
    clear hc2 hb1
    go_upto_region 2 with (fail)
    have xb : VBox ((w2.alloc (.cells (vcells (Valu.num a)) 23)).alloc (.cells (vcells (Valu.num b)) 23)) (w2.heap.size) (Valu.num a) := Box.alloc (Box.new w2 23 (vcells (Valu.num a))) (.cells (vcells (Valu.num b)) 23)
    have yb : VBox ((w2.alloc (.cells (vcells (Valu.num a)) 23)).alloc (.cells (vcells (Valu.num b)) 23)) (w2.heap.size + 1) (Valu.num b) := new2 w2 (.cells (vcells (Valu.num a)) 23) 23 (vcells (Valu.num b))
    have hbb1 : Below w.heap.size w ((w2.alloc (.cells (vcells (Valu.num a)) 23)).alloc (.cells (vcells (Valu.num b)) 23)) := (hb2.alloc hz2 _).alloc (by simp; omega) _
    clear hb2
    clear hz2
    generalize ((w2.alloc (.cells (vcells (Valu.num a)) 23)).alloc (.cells (vcells (Valu.num b)) 23)) = W1 at *
    generalize w2.heap.size = m1 at *
    obtain ⟨xbc0, xbc1, xbc2⟩ := box3 xb
    obtain ⟨ybc0, ybc1, ybc2⟩ := box3 yb
    go_wp2_with (fail)
    clear xbc0 xbc1 xbc2 ybc0 ybc1 ybc2
    refine (HD.out _ (he.below hbb1 h4) (by have := hbb1.size; omega)).mono ?_
    rintro e w3 ⟨rfl, hc3⟩
    have xbn := Box.below xb hc3 xb.lt
    clear xb
    have xb := xbn
    clear xbn
    have ybn := Box.below yb hc3 yb.lt
    clear yb
    have yb := ybn
    clear ybn
    have hb3 : Below w.heap.size w w3 := hbb1.trans (hc3.mono hbb1.size)
    have hz3 := hb3.size
    clear hc3 hbb1
    go_upto_region 3 with (fail)
    have xbn := (Box.alloc xb (.cells (vcells (Valu.num q)) 23))
    clear xb
    have xb := xbn
    clear xbn
    have ybn := (Box.alloc yb (.cells (vcells (Valu.num q)) 23))
    clear yb
    have yb := ybn
    clear ybn
    have qb : VBox (w3.alloc (.cells (vcells (Valu.num q)) 23)) (w3.heap.size) (Valu.num q) := Box.new w3 23 (vcells (Valu.num q))
    have hbb2 : Below w.heap.size w (w3.alloc (.cells (vcells (Valu.num q)) 23)) := hb3.alloc hz3 _
    clear hb3
    clear hz3
    generalize (w3.alloc (.cells (vcells (Valu.num q)) 23)) = W2 at *
    generalize w3.heap.size = m2 at *
    obtain ⟨xbc0, xbc1, xbc2⟩ := box3 xb
    obtain ⟨ybc0, ybc1, ybc2⟩ := box3 yb
    go_wp2_with (fail)
    clear xbc0 xbc1 xbc2 ybc0 ybc1 ybc2
    refine (HM.out _ (he.below hbb2 h4) (by have := hbb2.size; omega)).mono ?_
    rintro e w4 ⟨rfl, hc4⟩
    have xbn := Box.below xb hc4 xb.lt
    clear xb
    have xb := xbn
    clear xbn
    have ybn := Box.below yb hc4 yb.lt
    clear yb
    have yb := ybn
    clear ybn
    have qbn := Box.below qb hc4 qb.lt
    clear qb
    have qb := qbn
    clear qbn
    have hb4 : Below w.heap.size w w4 := hbb2.trans (hc4.mono hbb2.size)
    have hz4 := hb4.size
    clear hc4 hbb2
    go_upto_region 4 with (fail)
    have xbn := (Box.alloc xb (.cells (vcells (Valu.num r)) 23))
    clear xb
    have xb := xbn
    clear xbn
    have ybn := (Box.alloc yb (.cells (vcells (Valu.num r)) 23))
    clear yb
    have yb := ybn
    clear ybn
    have qbn := (Box.alloc qb (.cells (vcells (Valu.num r)) 23))
    clear qb
    have qb := qbn
    clear qbn
    have rb : VBox (w4.alloc (.cells (vcells (Valu.num r)) 23)) (w4.heap.size) (Valu.num r) := Box.new w4 23 (vcells (Valu.num r))
    have hbb3 : Below w.heap.size w (w4.alloc (.cells (vcells (Valu.num r)) 23)) := hb4.alloc hz4 _
    clear hb4
    clear hz4
    generalize (w4.alloc (.cells (vcells (Valu.num r)) 23)) = W3 at *
    generalize w4.heap.size = m3 at *
    obtain ⟨xbc0, xbc1, xbc2⟩ := box3 xb
    obtain ⟨ybc0, ybc1, ybc2⟩ := box3 yb
    go_wp2_with (fail)
    clear xbc0 xbc1 xbc2 ybc0 ybc1 ybc2
    refine (HL.out _ (he.below hbb3 h4) (by have := hbb3.size; omega)).mono ?_
    rintro e w5 ⟨rfl, hc5⟩
    have xbn := Box.below xb hc5 xb.lt
    clear xb
    have xb := xbn
    clear xbn
    have ybn := Box.below yb hc5 yb.lt
    clear yb
    have yb := ybn
    clear ybn
    have qbn := Box.below qb hc5 qb.lt
    clear qb
    have qb := qbn
    clear qbn
    have rbn := Box.below rb hc5 rb.lt
    clear rb
    have rb := rbn
    clear rbn
    have hb5 : Below w.heap.size w w5 := hbb3.trans (hc5.mono hbb3.size)
    have hz5 := hb5.size
    clear hc5 hbb3
    obtain ⟨xbc0, xbc1, xbc2⟩ := box3 xb
    obtain ⟨ybc0, ybc1, ybc2⟩ := box3 yb
    go_wp2_with (fail)
    clear xbc0 xbc1 xbc2 ybc0 ybc1 ybc2
    refine (HCx.out _).mono ?_
    rintro e w6 ⟨rfl, hc6⟩
    have xbn := Box.below xb hc6 xb.lt
    clear xb
    have xb := xbn
    clear xbn
    have ybn := Box.below yb hc6 yb.lt
    clear yb
    have yb := ybn
    clear ybn
    have qbn := Box.below qb hc6 qb.lt
    clear qb
    have qb := qbn
    clear qbn
    have rbn := Box.below rb hc6 rb.lt
    clear rb
    have rb := rbn
    clear rbn
    have hb6 : Below w.heap.size w w6 := hb5.trans (hc6.mono hb5.size)
    have hz6 := hb6.size
    clear hc6 hb5
    obtain ⟨xbc0, xbc1, xbc2⟩ := box3 xb
    obtain ⟨ybc0, ybc1, ybc2⟩ := box3 yb
    go_wp2_with (fail)
    clear xbc0 xbc1 xbc2 ybc0 ybc1 ybc2
    refine (HCy.out _).mono ?_
    rintro e w7 ⟨rfl, hc7⟩
    have xbn := Box.below xb hc7 xb.lt
    clear xb
    have xb := xbn
    clear xbn
    have ybn := Box.below yb hc7 yb.lt
    clear yb
    have yb := ybn
    clear ybn
    have qbn := Box.below qb hc7 qb.lt
    clear qb
    have qb := qbn
    clear qbn
    have rbn := Box.below rb hc7 rb.lt
    clear rb
    have rb := rbn
    clear rbn
    have hb7 : Below w.heap.size w w7 := hb6.trans (hc7.mono hb6.size)
    have hz7 := hb7.size
    clear hc7 hb6
    go_upto_region 6 with (fail)
    obtain ⟨qbc0, qbc1, qbc2⟩ := box3 qb
    obtain ⟨ybc0, ybc1, ybc2⟩ := box3 yb
    go_wp2_with (fail)
    clear qbc0 qbc1 qbc2 ybc0 ybc1 ybc2
    refine (HP.out _ (he.below hb7 h4) (by have := hb7.size; omega)).mono ?_
    rintro e w8 ⟨rfl, hc8⟩
    have xbn := Box.below xb hc8 xb.lt
    clear xb
    have xb := xbn
    clear xbn
    have ybn := Box.below yb hc8 yb.lt
    clear yb
    have yb := ybn
    clear ybn
    have qbn := Box.below qb hc8 qb.lt
    clear qb
    have qb := qbn
    clear qbn
    have rbn := Box.below rb hc8 rb.lt
    clear rb
    have rb := rbn
    clear rbn
    have hb8 : Below w.heap.size w w8 := hb7.trans (hc8.mono hb7.size)
    have hz8 := hb8.size
    clear hc8 hb7
    go_upto_region 7 with (fail)
    have xbn := (Box.alloc xb (.cells (vcells (Valu.num p)) 23))
    clear xb
    have xb := xbn
    clear xbn
    have ybn := (Box.alloc yb (.cells (vcells (Valu.num p)) 23))
    clear yb
    have yb := ybn
    clear ybn
    have qbn := (Box.alloc qb (.cells (vcells (Valu.num p)) 23))
    clear qb
    have qb := qbn
    clear qbn
    have rbn := (Box.alloc rb (.cells (vcells (Valu.num p)) 23))
    clear rb
    have rb := rbn
    clear rbn
    have pb : VBox (w8.alloc (.cells (vcells (Valu.num p)) 23)) (w8.heap.size) (Valu.num p) := Box.new w8 23 (vcells (Valu.num p))
    have hbb4 : Below w.heap.size w (w8.alloc (.cells (vcells (Valu.num p)) 23)) := hb8.alloc hz8 _
    clear hb8
    clear hz8
    generalize (w8.alloc (.cells (vcells (Valu.num p)) 23)) = W4 at *
    generalize w8.heap.size = m4 at *
    obtain ⟨pbc0, pbc1, pbc2⟩ := box3 pb
    obtain ⟨rbc0, rbc1, rbc2⟩ := box3 rb
    go_wp2_with (fail)
    clear pbc0 pbc1 pbc2 rbc0 rbc1 rbc2
    refine (HS.out _ (he.below hbb4 h4) (by have := hbb4.size; omega)).mono ?_
    rintro e w9 ⟨rfl, hc9⟩
    have xbn := Box.below xb hc9 xb.lt
    clear xb
    have xb := xbn
    clear xbn
    have ybn := Box.below yb hc9 yb.lt
    clear yb
    have yb := ybn
    clear ybn
    have qbn := Box.below qb hc9 qb.lt
    clear qb
    have qb := qbn
    clear qbn
    have rbn := Box.below rb hc9 rb.lt
    clear rb
    have rb := rbn
    clear rbn
    have pbn := Box.below pb hc9 pb.lt
    clear pb
    have pb := pbn
    clear pbn
    have hb9 : Below w.heap.size w w9 := hbb4.trans (hc9.mono hbb4.size)
    have hz9 := hb9.size
    clear hc9 hbb4
    go_upto_region 8 with (fail)
    have xbn := (Box.alloc xb (.cells (vcells (Valu.num a)) 23))
    clear xb
    have xb := xbn
    clear xbn
    have ybn := (Box.alloc yb (.cells (vcells (Valu.num a)) 23))
    clear yb
    have yb := ybn
    clear ybn
    have qbn := (Box.alloc qb (.cells (vcells (Valu.num a)) 23))
    clear qb
    have qb := qbn
    clear qbn
    have rbn := (Box.alloc rb (.cells (vcells (Valu.num a)) 23))
    clear rb
    have rb := rbn
    clear rbn
    have pbn := (Box.alloc pb (.cells (vcells (Valu.num a)) 23))
    clear pb
    have pb := pbn
    clear pbn
    have sb : VBox (w9.alloc (.cells (vcells (Valu.num a)) 23)) (w9.heap.size) (Valu.num a) := Box.new w9 23 (vcells (Valu.num a))
    have hbb5 : Below w.heap.size w (w9.alloc (.cells (vcells (Valu.num a)) 23)) := hb9.alloc hz9 _
    clear hb9
    clear hz9
    generalize (w9.alloc (.cells (vcells (Valu.num a)) 23)) = W5 at *
    generalize w9.heap.size = m5 at *
    obtain ⟨sbc0, sbc1, sbc2⟩ := box3 sb
    obtain ⟨xbc0, xbc1, xbc2⟩ := box3 xb
    obtain ⟨rbc0, rbc1, rbc2⟩ := box3 rb
    change _ = some (Value.int .i64 r) at rbc1
    rw [show byt [] = ⟨#[]⟩ from rfl]
    go_wp2
    go_ret
    exact ⟨rfl, hbb5⟩

theorem div_walk (a b : Int) (w : World) (he : Env w) (h4 : 4 ≤ w.heap.size) :
    Calls Tryd.prog 4 #[.int .i64 a, .int .i64 b] w fun e w' => e = .returned (.bool true) ∧ Below w.heap.size w w' := by
  cases hx : Valu.check (Valu.num a)
  · exact div_no_x a b w he h4 hx
  · cases hy : Valu.check (Valu.num b)
    · exact div_no_y a b w he h4 hx hy
    · by_cases h0 : b = 0
      · exact div_no_z a b w he h4 hx hy h0
      · have hwa : Valu.within a (-Valu.big) Valu.big = true := by rw [← Valu.check_num]; exact hx
        have hwb : Valu.within b (-Valu.big) Valu.big = true := by rw [← Valu.check_num]; exact hy
        obtain ⟨e1, e2, e3, e4, f1, f2, f3, f4⟩ := Valu.euclid a b hwa hwb h0
        obtain ⟨b1, b2⟩ := Valu.within_iff.1 hwb
        unfold Valu.big at b1 b2
        exact div_yes_at a b (a.tdiv b) (a.tmod b) (a.tdiv b * b) w he h4 hx hy (beq_no h0) (bin_is (is_div _ _ (by simp [Valu.num]) (by simp [Valu.num])) e1) (bin_is (is_mod _ _ (by simp [Valu.num]) (by simp [Valu.num])) e2)
          (bin_is (is_mul _ _ (by simp [Valu.num]) (by simp [Valu.num])) e3) (bin_is (is_add _ _ (by simp [Valu.num]) (by simp [Valu.num])) e4) f1 f2 b1 b2 (by simpa using f3) _ _ _ rfl rfl rfl f4
end Go.Proofs.YtollnadeaffomaaDoor
