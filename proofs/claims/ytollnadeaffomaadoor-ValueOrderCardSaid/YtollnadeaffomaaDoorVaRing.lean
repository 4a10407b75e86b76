/-
  ValueRing's walk. Conditions: the library's table lies where it lies.
-/
import Derived.Test.YtollnadeaffomaaDoorVaDiv
import Derived.LoopN
import Derived.Deep.DeepCutAuto
import Derived.Deep.CutRange
namespace Go.Proofs.YtollnadeaffomaaDoor
open Go.RowKit

theorem neq_same (p : Valu.V) (w : World) : (binOp .neq 23 (vag p) (vag p)).run Tryd.prog w = .ok (.bool false) w := by
  have := neq_val p p w; simpa using this
/-- a short text: what Binary says of what is wrong. -/
def Short (l : Valu.Bs) : Prop := l.length ≤ 50
theorem cat_fit {a b : Valu.Bs} (ha : Short a) (hb : Short b) : (9223372036854775807 < (byt a).size + (byt b).size) = False := by
  unfold Short at ha hb
  rw [byt_size, byt_size, eq_iff_iff, iff_false]
  omega
set_option maxRecDepth 100000 in
set_option maxHeartbeats 8000000 in
theorem ring_no_x (a b c : Int) (w : World) (he : Env w) (h4 : 4 ≤ w.heap.size)
    (hx : Valu.check (Valu.num a) = false) :
    Calls Tryd.prog 3 #[.int .i64 a, .int .i64 b, .int .i64 c] w fun e w' => e = .returned (.bool true) ∧ Below w.heap.size w w' := by
  have HL := Lib.hid lives_true
  have HNa := Lib.hid (num_any a)
  have HNb := Lib.hid (num_any b)
  have HNc := Lib.hid (num_any c)
  have HCx := Lib.hid (check_is (Valu.num a) (by simp [Valu.num]) _ hx)
  clear hx
  go_enter Tryd.func3, Tryd.ntmps3
  have hb0 : Below w.heap.size w w := Below.refl _ w
  go_wp2_with (fail)
  refine (HNa.out _).mono ?_
  rintro e w1 ⟨rfl, hc1⟩
  have hb1 : Below w.heap.size w w1 := hb0.trans (hc1.mono hb0.size)
  have hz1 := hb1.size
  clear hc1 hb0
  go_wp2_with (fail)
  refine (HNb.out _).mono ?_
  rintro e w2 ⟨rfl, hc2⟩
  have hb2 : Below w.heap.size w w2 := hb1.trans (hc2.mono hb1.size)
  have hz2 := hb2.size
  clear hc2 hb1
  go_wp2_with (fail)
  refine (HNc.out _).mono ?_
  rintro e w3 ⟨rfl, hc3⟩
  have hb3 : Below w.heap.size w w3 := hb2.trans (hc3.mono hb2.size)
  have hz3 := hb3.size
  clear hc3 hb2
  go_upto_region 2 with (fail)
  have xb : VBox (((w3.alloc (.cells (vcells (Valu.num a)) 23)).alloc (.cells (vcells (Valu.num b)) 23)).alloc (.cells (vcells (Valu.num c)) 23)) (w3.heap.size) (Valu.num a) := Box.alloc (Box.alloc (Box.new w3 23 (vcells (Valu.num a))) (.cells (vcells (Valu.num b)) 23)) (.cells (vcells (Valu.num c)) 23)
  have yb : VBox (((w3.alloc (.cells (vcells (Valu.num a)) 23)).alloc (.cells (vcells (Valu.num b)) 23)).alloc (.cells (vcells (Valu.num c)) 23)) (w3.heap.size + 1) (Valu.num b) := Box.alloc (new2 w3 (.cells (vcells (Valu.num a)) 23) 23 (vcells (Valu.num b))) (.cells (vcells (Valu.num c)) 23)
  have zb : VBox (((w3.alloc (.cells (vcells (Valu.num a)) 23)).alloc (.cells (vcells (Valu.num b)) 23)).alloc (.cells (vcells (Valu.num c)) 23)) (w3.heap.size + 2) (Valu.num c) := new3 w3 (.cells (vcells (Valu.num a)) 23) (.cells (vcells (Valu.num b)) 23) 23 (vcells (Valu.num c))
  have hbb1 : Below w.heap.size w (((w3.alloc (.cells (vcells (Valu.num a)) 23)).alloc (.cells (vcells (Valu.num b)) 23)).alloc (.cells (vcells (Valu.num c)) 23)) := ((hb3.alloc hz3 _).alloc (by simp; omega) _).alloc (by simp; omega) _
  clear hb3
  clear hz3
  generalize (((w3.alloc (.cells (vcells (Valu.num a)) 23)).alloc (.cells (vcells (Valu.num b)) 23)).alloc (.cells (vcells (Valu.num c)) 23)) = W1 at *
  generalize w3.heap.size = m1 at *
  obtain ⟨xbc0, xbc1, xbc2⟩ := box3 xb
  obtain ⟨ybc0, ybc1, ybc2⟩ := box3 yb
  obtain ⟨zbc0, zbc1, zbc2⟩ := box3 zb
  go_wp2_with (fail)
  clear xbc0 xbc1 xbc2 ybc0 ybc1 ybc2 zbc0 zbc1 zbc2
  refine (HL.out _ (he.below hbb1 h4) (by have := hbb1.size; omega)).mono ?_
  rintro e w4 ⟨rfl, hc4⟩
  have xbn := Box.below xb hc4 xb.lt
  clear xb
  have xb := xbn
  clear xbn
  have ybn := Box.below yb hc4 yb.lt
  clear yb
  have yb := ybn
  clear ybn
  have zbn := Box.below zb hc4 zb.lt
  clear zb
  have zb := zbn
  clear zbn
  have hb4 : Below w.heap.size w w4 := hbb1.trans (hc4.mono hbb1.size)
  have hz4 := hb4.size
  clear hc4 hbb1
  obtain ⟨xbc0, xbc1, xbc2⟩ := box3 xb
  obtain ⟨ybc0, ybc1, ybc2⟩ := box3 yb
  obtain ⟨zbc0, zbc1, zbc2⟩ := box3 zb
  go_wp2_with (fail)
  clear xbc0 xbc1 xbc2 ybc0 ybc1 ybc2 zbc0 zbc1 zbc2
  refine (HCx.out _).mono ?_
  rintro e w5 ⟨rfl, hc5⟩
  have xbn := Box.below xb hc5 xb.lt
  clear xb
  have xb := xbn
  clear xbn
  have ybn := Box.below yb hc5 yb.lt
  clear yb
  have yb := ybn
  clear ybn
  have zbn := Box.below zb hc5 zb.lt
  clear zb
  have zb := zbn
  clear zbn
  have hb5 : Below w.heap.size w w5 := hb4.trans (hc5.mono hb4.size)
  have hz5 := hb5.size
  clear hc5 hb4
  obtain ⟨xbc0, xbc1, xbc2⟩ := box3 xb
  obtain ⟨ybc0, ybc1, ybc2⟩ := box3 yb
  obtain ⟨zbc0, zbc1, zbc2⟩ := box3 zb
  go_wp2_with (fail)
  clear xbc0 xbc1 xbc2 ybc0 ybc1 ybc2 zbc0 zbc1 zbc2
  refine (HL.out _ (he.below hb5 h4) (by have := hb5.size; omega)).mono ?_
  rintro e w6 ⟨rfl, hc6⟩
  have xbn := Box.below xb hc6 xb.lt
  clear xb
  have xb := xbn
  clear xbn
  have ybn := Box.below yb hc6 yb.lt
  clear yb
  have yb := ybn
  clear ybn
  have zbn := Box.below zb hc6 zb.lt
  clear zb
  have zb := zbn
  clear zbn
  have hb6 : Below w.heap.size w w6 := hb5.trans (hc6.mono hb5.size)
  have hz6 := hb6.size
  clear hc6 hb5
  go_wp2
  go_ret
  exact ⟨rfl, hb6⟩

set_option maxRecDepth 100000 in
set_option maxHeartbeats 8000000 in
theorem ring_no_y (a b c : Int) (w : World) (he : Env w) (h4 : 4 ≤ w.heap.size)
    (hx : Valu.check (Valu.num a) = true) (hy : Valu.check (Valu.num b) = false) :
    Calls Tryd.prog 3 #[.int .i64 a, .int .i64 b, .int .i64 c] w fun e w' => e = .returned (.bool true) ∧ Below w.heap.size w w' := by
  have HL := Lib.hid lives_true
  have HNa := Lib.hid (num_any a)
  have HNb := Lib.hid (num_any b)
  have HNc := Lib.hid (num_any c)
  have HCx := Lib.hid (check_is (Valu.num a) (by simp [Valu.num]) _ hx)
  have HCy := Lib.hid (check_is (Valu.num b) (by simp [Valu.num]) _ hy)
  clear hx hy
  go_enter Tryd.func3, Tryd.ntmps3
  have hb0 : Below w.heap.size w w := Below.refl _ w
  go_wp2_with (fail)
  refine (HNa.out _).mono ?_
  rintro e w1 ⟨rfl, hc1⟩
  have hb1 : Below w.heap.size w w1 := hb0.trans (hc1.mono hb0.size)
  have hz1 := hb1.size
  clear hc1 hb0
  go_wp2_with (fail)
  refine (HNb.out _).mono ?_
  rintro e w2 ⟨rfl, hc2⟩
  have hb2 : Below w.heap.size w w2 := hb1.trans (hc2.mono hb1.size)
  have hz2 := hb2.size
  clear hc2 hb1
  go_wp2_with (fail)
  refine (HNc.out _).mono ?_
  rintro e w3 ⟨rfl, hc3⟩
  have hb3 : Below w.heap.size w w3 := hb2.trans (hc3.mono hb2.size)
  have hz3 := hb3.size
  clear hc3 hb2
  go_upto_region 2 with (fail)
  have xb : VBox (((w3.alloc (.cells (vcells (Valu.num a)) 23)).alloc (.cells (vcells (Valu.num b)) 23)).alloc (.cells (vcells (Valu.num c)) 23)) (w3.heap.size) (Valu.num a) := Box.alloc (Box.alloc (Box.new w3 23 (vcells (Valu.num a))) (.cells (vcells (Valu.num b)) 23)) (.cells (vcells (Valu.num c)) 23)
  have yb : VBox (((w3.alloc (.cells (vcells (Valu.num a)) 23)).alloc (.cells (vcells (Valu.num b)) 23)).alloc (.cells (vcells (Valu.num c)) 23)) (w3.heap.size + 1) (Valu.num b) := Box.alloc (new2 w3 (.cells (vcells (Valu.num a)) 23) 23 (vcells (Valu.num b))) (.cells (vcells (Valu.num c)) 23)
  have zb : VBox (((w3.alloc (.cells (vcells (Valu.num a)) 23)).alloc (.cells (vcells (Valu.num b)) 23)).alloc (.cells (vcells (Valu.num c)) 23)) (w3.heap.size + 2) (Valu.num c) := new3 w3 (.cells (vcells (Valu.num a)) 23) (.cells (vcells (Valu.num b)) 23) 23 (vcells (Valu.num c))
  have hbb1 : Below w.heap.size w (((w3.alloc (.cells (vcells (Valu.num a)) 23)).alloc (.cells (vcells (Valu.num b)) 23)).alloc (.cells (vcells (Valu.num c)) 23)) := ((hb3.alloc hz3 _).alloc (by simp; omega) _).alloc (by simp; omega) _
  clear hb3
  clear hz3
  generalize (((w3.alloc (.cells (vcells (Valu.num a)) 23)).alloc (.cells (vcells (Valu.num b)) 23)).alloc (.cells (vcells (Valu.num c)) 23)) = W1 at *
  generalize w3.heap.size = m1 at *
  obtain ⟨xbc0, xbc1, xbc2⟩ := box3 xb
  obtain ⟨ybc0, ybc1, ybc2⟩ := box3 yb
  obtain ⟨zbc0, zbc1, zbc2⟩ := box3 zb
  go_wp2_with (fail)
  clear xbc0 xbc1 xbc2 ybc0 ybc1 ybc2 zbc0 zbc1 zbc2
  refine (HL.out _ (he.below hbb1 h4) (by have := hbb1.size; omega)).mono ?_
  rintro e w4 ⟨rfl, hc4⟩
  have xbn := Box.below xb hc4 xb.lt
  clear xb
  have xb := xbn
  clear xbn
  have ybn := Box.below yb hc4 yb.lt
  clear yb
  have yb := ybn
  clear ybn
  have zbn := Box.below zb hc4 zb.lt
  clear zb
  have zb := zbn
  clear zbn
  have hb4 : Below w.heap.size w w4 := hbb1.trans (hc4.mono hbb1.size)
  have hz4 := hb4.size
  clear hc4 hbb1
  obtain ⟨xbc0, xbc1, xbc2⟩ := box3 xb
  obtain ⟨ybc0, ybc1, ybc2⟩ := box3 yb
  obtain ⟨zbc0, zbc1, zbc2⟩ := box3 zb
  go_wp2_with (fail)
  clear xbc0 xbc1 xbc2 ybc0 ybc1 ybc2 zbc0 zbc1 zbc2
  refine (HCx.out _).mono ?_
  rintro e w5 ⟨rfl, hc5⟩
  have xbn := Box.below xb hc5 xb.lt
  clear xb
  have xb := xbn
  clear xbn
  have ybn := Box.below yb hc5 yb.lt
  clear yb
  have yb := ybn
  clear ybn
  have zbn := Box.below zb hc5 zb.lt
  clear zb
  have zb := zbn
  clear zbn
  have hb5 : Below w.heap.size w w5 := hb4.trans (hc5.mono hb4.size)
  have hz5 := hb5.size
  clear hc5 hb4
  obtain ⟨xbc0, xbc1, xbc2⟩ := box3 xb
  obtain ⟨ybc0, ybc1, ybc2⟩ := box3 yb
  obtain ⟨zbc0, zbc1, zbc2⟩ := box3 zb
  go_wp2_with (fail)
  clear xbc0 xbc1 xbc2 ybc0 ybc1 ybc2 zbc0 zbc1 zbc2
  refine (HCy.out _).mono ?_
  rintro e w6 ⟨rfl, hc6⟩
  have xbn := Box.below xb hc6 xb.lt
  clear xb
  have xb := xbn
  clear xbn
  have ybn := Box.below yb hc6 yb.lt
  clear yb
  have yb := ybn
  clear ybn
  have zbn := Box.below zb hc6 zb.lt
  clear zb
  have zb := zbn
  clear zbn
  have hb6 : Below w.heap.size w w6 := hb5.trans (hc6.mono hb5.size)
  have hz6 := hb6.size
  clear hc6 hb5
  obtain ⟨xbc0, xbc1, xbc2⟩ := box3 xb
  obtain ⟨ybc0, ybc1, ybc2⟩ := box3 yb
  obtain ⟨zbc0, zbc1, zbc2⟩ := box3 zb
  go_wp2_with (fail)
  clear xbc0 xbc1 xbc2 ybc0 ybc1 ybc2 zbc0 zbc1 zbc2
  refine (HL.out _ (he.below hb6 h4) (by have := hb6.size; omega)).mono ?_
  rintro e w7 ⟨rfl, hc7⟩
  have xbn := Box.below xb hc7 xb.lt
  clear xb
  have xb := xbn
  clear xbn
  have ybn := Box.below yb hc7 yb.lt
  clear yb
  have yb := ybn
  clear ybn
  have zbn := Box.below zb hc7 zb.lt
  clear zb
  have zb := zbn
  clear zbn
  have hb7 : Below w.heap.size w w7 := hb6.trans (hc7.mono hb6.size)
  have hz7 := hb7.size
  clear hc7 hb6
  go_wp2
  go_ret
  exact ⟨rfl, hb7⟩

set_option maxRecDepth 100000 in
set_option maxHeartbeats 8000000 in
theorem ring_no_z (a b c : Int) (w : World) (he : Env w) (h4 : 4 ≤ w.heap.size)
    (hx : Valu.check (Valu.num a) = true) (hy : Valu.check (Valu.num b) = true) (hz : Valu.check (Valu.num c) = false) :
    Calls Tryd.prog 3 #[.int .i64 a, .int .i64 b, .int .i64 c] w fun e w' => e = .returned (.bool true) ∧ Below w.heap.size w w' := by
  have HL := Lib.hid lives_true
  have HNa := Lib.hid (num_any a)
  have HNb := Lib.hid (num_any b)
  have HNc := Lib.hid (num_any c)
  have HCx := Lib.hid (check_is (Valu.num a) (by simp [Valu.num]) _ hx)
  have HCy := Lib.hid (check_is (Valu.num b) (by simp [Valu.num]) _ hy)
  have HCz := Lib.hid (check_is (Valu.num c) (by simp [Valu.num]) _ hz)
  clear hx hy hz
  go_enter Tryd.func3, Tryd.ntmps3
  have hb0 : Below w.heap.size w w := Below.refl _ w
  go_wp2_with (fail)
  refine (HNa.out _).mono ?_
  rintro e w1 ⟨rfl, hc1⟩
  have hb1 : Below w.heap.size w w1 := hb0.trans (hc1.mono hb0.size)
  have hz1 := hb1.size
  clear hc1 hb0
  go_wp2_with (fail)
  refine (HNb.out _).mono ?_
  rintro e w2 ⟨rfl, hc2⟩
  have hb2 : Below w.heap.size w w2 := hb1.trans (hc2.mono hb1.size)
  have hz2 := hb2.size
  clear hc2 hb1
  go_wp2_with (fail)
  refine (HNc.out _).mono ?_
  rintro e w3 ⟨rfl, hc3⟩
  have hb3 : Below w.heap.size w w3 := hb2.trans (hc3.mono hb2.size)
  have hz3 := hb3.size
  clear hc3 hb2
  go_upto_region 2 with (fail)
  have xb : VBox (((w3.alloc (.cells (vcells (Valu.num a)) 23)).alloc (.cells (vcells (Valu.num b)) 23)).alloc (.cells (vcells (Valu.num c)) 23)) (w3.heap.size) (Valu.num a) := Box.alloc (Box.alloc (Box.new w3 23 (vcells (Valu.num a))) (.cells (vcells (Valu.num b)) 23)) (.cells (vcells (Valu.num c)) 23)
  have yb : VBox (((w3.alloc (.cells (vcells (Valu.num a)) 23)).alloc (.cells (vcells (Valu.num b)) 23)).alloc (.cells (vcells (Valu.num c)) 23)) (w3.heap.size + 1) (Valu.num b) := Box.alloc (new2 w3 (.cells (vcells (Valu.num a)) 23) 23 (vcells (Valu.num b))) (.cells (vcells (Valu.num c)) 23)
  have zb : VBox (((w3.alloc (.cells (vcells (Valu.num a)) 23)).alloc (.cells (vcells (Valu.num b)) 23)).alloc (.cells (vcells (Valu.num c)) 23)) (w3.heap.size + 2) (Valu.num c) := new3 w3 (.cells (vcells (Valu.num a)) 23) (.cells (vcells (Valu.num b)) 23) 23 (vcells (Valu.num c))
  have hbb1 : Below w.heap.size w (((w3.alloc (.cells (vcells (Valu.num a)) 23)).alloc (.cells (vcells (Valu.num b)) 23)).alloc (.cells (vcells (Valu.num c)) 23)) := ((hb3.alloc hz3 _).alloc (by simp; omega) _).alloc (by simp; omega) _
  clear hb3
  clear hz3
  generalize (((w3.alloc (.cells (vcells (Valu.num a)) 23)).alloc (.cells (vcells (Valu.num b)) 23)).alloc (.cells (vcells (Valu.num c)) 23)) = W1 at *
  generalize w3.heap.size = m1 at *
  obtain ⟨xbc0, xbc1, xbc2⟩ := box3 xb
  obtain ⟨ybc0, ybc1, ybc2⟩ := box3 yb
  obtain ⟨zbc0, zbc1, zbc2⟩ := box3 zb
  go_wp2_with (fail)
  clear xbc0 xbc1 xbc2 ybc0 ybc1 ybc2 zbc0 zbc1 zbc2
  refine (HL.out _ (he.below hbb1 h4) (by have := hbb1.size; omega)).mono ?_
  rintro e w4 ⟨rfl, hc4⟩
  have xbn := Box.below xb hc4 xb.lt
  clear xb
  have xb := xbn
  clear xbn
  have ybn := Box.below yb hc4 yb.lt
  clear yb
  have yb := ybn
  clear ybn
  have zbn := Box.below zb hc4 zb.lt
  clear zb
  have zb := zbn
  clear zbn
  have hb4 : Below w.heap.size w w4 := hbb1.trans (hc4.mono hbb1.size)
  have hz4 := hb4.size
  clear hc4 hbb1
  obtain ⟨xbc0, xbc1, xbc2⟩ := box3 xb
  obtain ⟨ybc0, ybc1, ybc2⟩ := box3 yb
  obtain ⟨zbc0, zbc1, zbc2⟩ := box3 zb
  go_wp2_with (fail)
  clear xbc0 xbc1 xbc2 ybc0 ybc1 ybc2 zbc0 zbc1 zbc2
  refine (HCx.out _).mono ?_
  rintro e w5 ⟨rfl, hc5⟩
  have xbn := Box.below xb hc5 xb.lt
  clear xb
  have xb := xbn
  clear xbn
  have ybn := Box.below yb hc5 yb.lt
  clear yb
  have yb := ybn
  clear ybn
  have zbn := Box.below zb hc5 zb.lt
  clear zb
  have zb := zbn
  clear zbn
  have hb5 : Below w.heap.size w w5 := hb4.trans (hc5.mono hb4.size)
  have hz5 := hb5.size
  clear hc5 hb4
  obtain ⟨xbc0, xbc1, xbc2⟩ := box3 xb
  obtain ⟨ybc0, ybc1, ybc2⟩ := box3 yb
  obtain ⟨zbc0, zbc1, zbc2⟩ := box3 zb
  go_wp2_with (fail)
  clear xbc0 xbc1 xbc2 ybc0 ybc1 ybc2 zbc0 zbc1 zbc2
  refine (HCy.out _).mono ?_
  rintro e w6 ⟨rfl, hc6⟩
  have xbn := Box.below xb hc6 xb.lt
  clear xb
  have xb := xbn
  clear xbn
  have ybn := Box.below yb hc6 yb.lt
  clear yb
  have yb := ybn
  clear ybn
  have zbn := Box.below zb hc6 zb.lt
  clear zb
  have zb := zbn
  clear zbn
  have hb6 : Below w.heap.size w w6 := hb5.trans (hc6.mono hb5.size)
  have hz6 := hb6.size
  clear hc6 hb5
  obtain ⟨xbc0, xbc1, xbc2⟩ := box3 xb
  obtain ⟨ybc0, ybc1, ybc2⟩ := box3 yb
  obtain ⟨zbc0, zbc1, zbc2⟩ := box3 zb
  go_wp2_with (fail)
  clear xbc0 xbc1 xbc2 ybc0 ybc1 ybc2 zbc0 zbc1 zbc2
  refine (HCz.out _).mono ?_
  rintro e w7 ⟨rfl, hc7⟩
  have xbn := Box.below xb hc7 xb.lt
  clear xb
  have xb := xbn
  clear xbn
  have ybn := Box.below yb hc7 yb.lt
  clear yb
  have yb := ybn
  clear ybn
  have zbn := Box.below zb hc7 zb.lt
  clear zb
  have zb := zbn
  clear zbn
  have hb7 : Below w.heap.size w w7 := hb6.trans (hc7.mono hb6.size)
  have hz7 := hb7.size
  clear hc7 hb6
  obtain ⟨xbc0, xbc1, xbc2⟩ := box3 xb
  obtain ⟨ybc0, ybc1, ybc2⟩ := box3 yb
  obtain ⟨zbc0, zbc1, zbc2⟩ := box3 zb
  go_wp2_with (fail)
  clear xbc0 xbc1 xbc2 ybc0 ybc1 ybc2 zbc0 zbc1 zbc2
  refine (HL.out _ (he.below hb7 h4) (by have := hb7.size; omega)).mono ?_
  rintro e w8 ⟨rfl, hc8⟩
  have xbn := Box.below xb hc8 xb.lt
  clear xb
  have xb := xbn
  clear xbn
  have ybn := Box.below yb hc8 yb.lt
  clear yb
  have yb := ybn
  clear ybn
  have zbn := Box.below zb hc8 zb.lt
  clear zb
  have zb := zbn
  clear zbn
  have hb8 : Below w.heap.size w w8 := hb7.trans (hc8.mono hb7.size)
  have hz8 := hb8.size
  clear hc8 hb7
  go_wp2
  go_ret
  exact ⟨rfl, hb8⟩

set_option maxRecDepth 100000 in
set_option maxHeartbeats 8000000 in
theorem ring_yes_at (a b c : Int) (w : World) (he : Env w) (h4 : 4 ≤ w.heap.size)
    (hx : Valu.check (Valu.num a) = true) (hy : Valu.check (Valu.num b) = true) (hz : Valu.check (Valu.num c) = true)
    (pA lA mA nA : Valu.V) (eA gA hA iA EA1 EA2 EA3 : Valu.Bs) (BAp : BinIs [43] (Valu.num a) (Valu.num b) (pA, eA)) (BAq : BinIs [43] (Valu.num b) (Valu.num a) (pA, eA)) (BAl : BinIs [43] pA (Valu.num c) (lA, gA)) (BAm : BinIs [43] (Valu.num b) (Valu.num c) (mA, hA)) (BAn : BinIs [43] (Valu.num a) mA (nA, iA))
    (eA1 : byt eA ++ byt gA = byt EA1) (eA2 : byt EA1 ++ byt hA = byt EA2) (eA3 : byt EA2 ++ byt iA = byt EA3) (sA1 : (9223372036854775807 < (byt eA).size + (byt gA).size) = False) (sA2 : (9223372036854775807 < (byt EA1).size + (byt hA).size) = False) (sA3 : (9223372036854775807 < (byt EA2).size + (byt iA).size) = False)
    (zA dA : Bool) (hzA : (byt EA3).toList.isEmpty = zA) (hdA : ∀ w, (binOp .neq 23 (vag lA) (vag nA)).run Tryd.prog w = .ok (.bool dA) w) (hkA : (zA && dA) = false)
    (pM lM mM nM : Valu.V) (eM gM hM iM EM1 EM2 EM3 : Valu.Bs) (BMp : BinIs [42] (Valu.num a) (Valu.num b) (pM, eM)) (BMq : BinIs [42] (Valu.num b) (Valu.num a) (pM, eM)) (BMl : BinIs [42] pM (Valu.num c) (lM, gM)) (BMm : BinIs [42] (Valu.num b) (Valu.num c) (mM, hM)) (BMn : BinIs [42] (Valu.num a) mM (nM, iM))
    (eM1 : byt eM ++ byt gM = byt EM1) (eM2 : byt EM1 ++ byt hM = byt EM2) (eM3 : byt EM2 ++ byt iM = byt EM3) (sM1 : (9223372036854775807 < (byt eM).size + (byt gM).size) = False) (sM2 : (9223372036854775807 < (byt EM1).size + (byt hM).size) = False) (sM3 : (9223372036854775807 < (byt EM2).size + (byt iM).size) = False)
    (zM dM : Bool) (hzM : (byt EM3).toList.isEmpty = zM) (hdM : ∀ w, (binOp .neq 23 (vag lM) (vag nM)).run Tryd.prog w = .ok (.bool dM) w) (hkM : (zM && dM) = false)
    (sF pF qF rF tF : Valu.V) (eF fF gF hF iF F1 F2 F3 F4 : Valu.Bs) (BFs : BinIs [43] (Valu.num b) (Valu.num c) (sF, eF)) (BFp : BinIs [42] (Valu.num a) sF (pF, fF)) (BFq : BinIs [42] (Valu.num a) (Valu.num b) (qF, gF)) (BFr : BinIs [42] (Valu.num a) (Valu.num c) (rF, hF)) (BFt : BinIs [43] qF rF (tF, iF))
    (f1 : byt eF ++ byt fF = byt F1) (f2 : byt F1 ++ byt gF = byt F2) (f3 : byt F2 ++ byt hF = byt F3) (f4 : byt F3 ++ byt iF = byt F4) (k1 : (9223372036854775807 < (byt eF).size + (byt fF).size) = False) (k2 : (9223372036854775807 < (byt F1).size + (byt gF).size) = False) (k3 : (9223372036854775807 < (byt F2).size + (byt hF).size) = False) (k4 : (9223372036854775807 < (byt F3).size + (byt iF).size) = False)
    (zF dF : Bool) (hzF : (byt F4).toList.isEmpty = zF) (hdF : ∀ w, (binOp .eql 23 (vag pF) (vag tF)).run Tryd.prog w = .ok (.bool dF) w) (hkF : (!zF || dF) = true) :
    Calls Tryd.prog 3 #[.int .i64 a, .int .i64 b, .int .i64 c] w fun e w' => e = .returned (.bool true) ∧ Below w.heap.size w w' := by
  have HL := Lib.hid lives_true
  have HNa := Lib.hid (num_any a)
  have HNb := Lib.hid (num_any b)
  have HNc := Lib.hid (num_any c)
  have HCx := Lib.hid (check_is (Valu.num a) (by simp [Valu.num]) _ hx)
  have HCy := Lib.hid (check_is (Valu.num b) (by simp [Valu.num]) _ hy)
  have HCz := Lib.hid (check_is (Valu.num c) (by simp [Valu.num]) _ hz)
  clear hx hy hz
  have HAp := Lib.hid BAp
  clear BAp
  have HAq := Lib.hid BAq
  clear BAq
  have HAl := Lib.hid BAl
  clear BAl
  have HAm := Lib.hid BAm
  clear BAm
  have HAn := Lib.hid BAn
  clear BAn
  have nsA := neq_same pA
  have HMp := Lib.hid BMp
  clear BMp
  have HMq := Lib.hid BMq
  clear BMq
  have HMl := Lib.hid BMl
  clear BMl
  have HMm := Lib.hid BMm
  clear BMm
  have HMn := Lib.hid BMn
  clear BMn
  have nsM := neq_same pM
  have HFs := Lib.hid BFs
  clear BFs
  have HFp := Lib.hid BFp
  clear BFp
  have HFq := Lib.hid BFq
  clear BFq
  have HFr := Lib.hid BFr
  clear BFr
  have HFt := Lib.hid BFt
  clear BFt
  have i0 : ∀ w, (Instr.index 27 (.agg #[.string ⟨#[43]⟩, .string ⟨#[42]⟩]) (.int .i64 0)).run Tryd.prog w = .ok (.string ⟨#[43]⟩) w := fun _ => by kernel_rfl
  have i1 : ∀ w, (Instr.index 27 (.agg #[.string ⟨#[43]⟩, .string ⟨#[42]⟩]) (.int .i64 1)).run Tryd.prog w = .ok (.string ⟨#[42]⟩) w := fun _ => by kernel_rfl
  go_enter Tryd.func3, Tryd.ntmps3
  have hb0 : Below w.heap.size w w := Below.refl _ w
  go_wp2_with (fail)
  refine (HNa.out _).mono ?_
  rintro e w1 ⟨rfl, hc1⟩
  have hb1 : Below w.heap.size w w1 := hb0.trans (hc1.mono hb0.size)
  have hz1 := hb1.size
  clear hc1 hb0
  go_wp2_with (fail)
  refine (HNb.out _).mono ?_
  rintro e w2 ⟨rfl, hc2⟩
  have hb2 : Below w.heap.size w w2 := hb1.trans (hc2.mono hb1.size)
  have hz2 := hb2.size
  clear hc2 hb1
  go_wp2_with (fail)
  refine (HNc.out _).mono ?_
  rintro e w3 ⟨rfl, hc3⟩
  have hb3 : Below w.heap.size w w3 := hb2.trans (hc3.mono hb2.size)
  have hz3 := hb3.size
  clear hc3 hb2
  go_upto_region 2 with (fail)
  have xb : VBox (((w3.alloc (.cells (vcells (Valu.num a)) 23)).alloc (.cells (vcells (Valu.num b)) 23)).alloc (.cells (vcells (Valu.num c)) 23)) (w3.heap.size) (Valu.num a) := Box.alloc (Box.alloc (Box.new w3 23 (vcells (Valu.num a))) (.cells (vcells (Valu.num b)) 23)) (.cells (vcells (Valu.num c)) 23)
  have yb : VBox (((w3.alloc (.cells (vcells (Valu.num a)) 23)).alloc (.cells (vcells (Valu.num b)) 23)).alloc (.cells (vcells (Valu.num c)) 23)) (w3.heap.size + 1) (Valu.num b) := Box.alloc (new2 w3 (.cells (vcells (Valu.num a)) 23) 23 (vcells (Valu.num b))) (.cells (vcells (Valu.num c)) 23)
  have zb : VBox (((w3.alloc (.cells (vcells (Valu.num a)) 23)).alloc (.cells (vcells (Valu.num b)) 23)).alloc (.cells (vcells (Valu.num c)) 23)) (w3.heap.size + 2) (Valu.num c) := new3 w3 (.cells (vcells (Valu.num a)) 23) (.cells (vcells (Valu.num b)) 23) 23 (vcells (Valu.num c))
  have hbb1 : Below w.heap.size w (((w3.alloc (.cells (vcells (Valu.num a)) 23)).alloc (.cells (vcells (Valu.num b)) 23)).alloc (.cells (vcells (Valu.num c)) 23)) := ((hb3.alloc hz3 _).alloc (by simp; omega) _).alloc (by simp; omega) _
  clear hb3
  clear hz3
  generalize (((w3.alloc (.cells (vcells (Valu.num a)) 23)).alloc (.cells (vcells (Valu.num b)) 23)).alloc (.cells (vcells (Valu.num c)) 23)) = W1 at *
  generalize w3.heap.size = m1 at *
  obtain ⟨xbc0, xbc1, xbc2⟩ := box3 xb
  obtain ⟨ybc0, ybc1, ybc2⟩ := box3 yb
  obtain ⟨zbc0, zbc1, zbc2⟩ := box3 zb
  go_wp2_with (fail)
  clear xbc0 xbc1 xbc2 ybc0 ybc1 ybc2 zbc0 zbc1 zbc2
  refine (HL.out _ (he.below hbb1 h4) (by have := hbb1.size; omega)).mono ?_
  rintro e w4 ⟨rfl, hc4⟩
  have xbn := Box.below xb hc4 xb.lt
  clear xb
  have xb := xbn
  clear xbn
  have ybn := Box.below yb hc4 yb.lt
  clear yb
  have yb := ybn
  clear ybn
  have zbn := Box.below zb hc4 zb.lt
  clear zb
  have zb := zbn
  clear zbn
  have hb4 : Below w.heap.size w w4 := hbb1.trans (hc4.mono hbb1.size)
  have hz4 := hb4.size
  clear hc4 hbb1
  obtain ⟨xbc0, xbc1, xbc2⟩ := box3 xb
  obtain ⟨ybc0, ybc1, ybc2⟩ := box3 yb
  obtain ⟨zbc0, zbc1, zbc2⟩ := box3 zb
  go_wp2_with (fail)
  clear xbc0 xbc1 xbc2 ybc0 ybc1 ybc2 zbc0 zbc1 zbc2
  refine (HCx.out _).mono ?_
  rintro e w5 ⟨rfl, hc5⟩
  have xbn := Box.below xb hc5 xb.lt
  clear xb
  have xb := xbn
  clear xbn
  have ybn := Box.below yb hc5 yb.lt
  clear yb
  have yb := ybn
  clear ybn
  have zbn := Box.below zb hc5 zb.lt
  clear zb
  have zb := zbn
  clear zbn
  have hb5 : Below w.heap.size w w5 := hb4.trans (hc5.mono hb4.size)
  have hz5 := hb5.size
  clear hc5 hb4
  obtain ⟨xbc0, xbc1, xbc2⟩ := box3 xb
  obtain ⟨ybc0, ybc1, ybc2⟩ := box3 yb
  obtain ⟨zbc0, zbc1, zbc2⟩ := box3 zb
  go_wp2_with (fail)
  clear xbc0 xbc1 xbc2 ybc0 ybc1 ybc2 zbc0 zbc1 zbc2
  refine (HCy.out _).mono ?_
  rintro e w6 ⟨rfl, hc6⟩
  have xbn := Box.below xb hc6 xb.lt
  clear xb
  have xb := xbn
  clear xbn
  have ybn := Box.below yb hc6 yb.lt
  clear yb
  have yb := ybn
  clear ybn
  have zbn := Box.below zb hc6 zb.lt
  clear zb
  have zb := zbn
  clear zbn
  have hb6 : Below w.heap.size w w6 := hb5.trans (hc6.mono hb5.size)
  have hz6 := hb6.size
  clear hc6 hb5
  obtain ⟨xbc0, xbc1, xbc2⟩ := box3 xb
  obtain ⟨ybc0, ybc1, ybc2⟩ := box3 yb
  obtain ⟨zbc0, zbc1, zbc2⟩ := box3 zb
  go_wp2_with (fail)
  clear xbc0 xbc1 xbc2 ybc0 ybc1 ybc2 zbc0 zbc1 zbc2
  refine (HCz.out _).mono ?_
  rintro e w7 ⟨rfl, hc7⟩
  have xbn := Box.below xb hc7 xb.lt
  clear xb
  have xb := xbn
  clear xbn
  have ybn := Box.below yb hc7 yb.lt
  clear yb
  have yb := ybn
  clear ybn
  have zbn := Box.below zb hc7 zb.lt
  clear zb
  have zb := zbn
  clear zbn
  have hb7 : Below w.heap.size w w7 := hb6.trans (hc7.mono hb6.size)
  have hz7 := hb7.size
  clear hc7 hb6
  go_wp2_with (fail)
  refine wp_loop_rounds 3 ?_
  obtain ⟨xbc0, xbc1, xbc2⟩ := box3 xb
  obtain ⟨ybc0, ybc1, ybc2⟩ := box3 yb
  obtain ⟨zbc0, zbc1, zbc2⟩ := box3 zb
  rw [rounds_succ]
  go_wp2_with (fail)
  clear xbc0 xbc1 xbc2 ybc0 ybc1 ybc2 zbc0 zbc1 zbc2
  refine (HAp.out _ (he.below hb7 h4) (by have := hb7.size; omega)).mono ?_
  rintro e w8 ⟨rfl, hc8⟩
  have xbn := Box.below xb hc8 xb.lt
  clear xb
  have xb := xbn
  clear xbn
  have ybn := Box.below yb hc8 yb.lt
  clear yb
  have yb := ybn
  clear ybn
  have zbn := Box.below zb hc8 zb.lt
  clear zb
  have zb := zbn
  clear zbn
  have hb8 : Below w.heap.size w w8 := hb7.trans (hc8.mono hb7.size)
  have hz8 := hb8.size
  clear hc8 hb7
  go_upto_region 8 with (fail)
  have xbn := (Box.alloc xb (.cells (vcells pA) 23))
  clear xb
  have xb := xbn
  clear xbn
  have ybn := (Box.alloc yb (.cells (vcells pA) 23))
  clear yb
  have yb := ybn
  clear ybn
  have zbn := (Box.alloc zb (.cells (vcells pA) 23))
  clear zb
  have zb := zbn
  clear zbn
  have pb1 : VBox (w8.alloc (.cells (vcells pA) 23)) (w8.heap.size) pA := Box.new w8 23 (vcells pA)
  have hbb2 : Below w.heap.size w (w8.alloc (.cells (vcells pA) 23)) := hb8.alloc hz8 _
  clear hb8
  clear hz8
  generalize (w8.alloc (.cells (vcells pA) 23)) = W2 at *
  generalize w8.heap.size = m2 at *
  obtain ⟨xbc0, xbc1, xbc2⟩ := box3 xb
  obtain ⟨ybc0, ybc1, ybc2⟩ := box3 yb
  go_wp2_with (fail)
  clear xbc0 xbc1 xbc2 ybc0 ybc1 ybc2
  refine (HAq.out _ (he.below hbb2 h4) (by have := hbb2.size; omega)).mono ?_
  rintro e w9 ⟨rfl, hc9⟩
  have xbn := Box.below xb hc9 xb.lt
  clear xb
  have xb := xbn
  clear xbn
  have ybn := Box.below yb hc9 yb.lt
  clear yb
  have yb := ybn
  clear ybn
  have zbn := Box.below zb hc9 zb.lt
  clear zb
  have zb := zbn
  clear zbn
  have pb1n := Box.below pb1 hc9 pb1.lt
  clear pb1
  have pb1 := pb1n
  clear pb1n
  have hb9 : Below w.heap.size w w9 := hbb2.trans (hc9.mono hbb2.size)
  have hz9 := hb9.size
  clear hc9 hbb2
  go_upto_region 9 with (fail)
  have xbn := (Box.alloc xb (.cells (vcells pA) 23))
  clear xb
  have xb := xbn
  clear xbn
  have ybn := (Box.alloc yb (.cells (vcells pA) 23))
  clear yb
  have yb := ybn
  clear ybn
  have zbn := (Box.alloc zb (.cells (vcells pA) 23))
  clear zb
  have zb := zbn
  clear zbn
  have pb1n := (Box.alloc pb1 (.cells (vcells pA) 23))
  clear pb1
  have pb1 := pb1n
  clear pb1n
  have qb1 : VBox (w9.alloc (.cells (vcells pA) 23)) (w9.heap.size) pA := Box.new w9 23 (vcells pA)
  have hbb3 : Below w.heap.size w (w9.alloc (.cells (vcells pA) 23)) := hb9.alloc hz9 _
  clear hb9
  clear hz9
  generalize (w9.alloc (.cells (vcells pA) 23)) = W3 at *
  generalize w9.heap.size = m3 at *
  obtain ⟨pb1c0, pb1c1, pb1c2⟩ := box3 pb1
  obtain ⟨qb1c0, qb1c1, qb1c2⟩ := box3 qb1
  obtain ⟨zbc0, zbc1, zbc2⟩ := box3 zb
  go_wp2_with (fail)
  clear pb1c0 pb1c1 pb1c2 qb1c0 qb1c1 qb1c2 zbc0 zbc1 zbc2
  refine (HAl.out _ (he.below hbb3 h4) (by have := hbb3.size; omega)).mono ?_
  rintro e w10 ⟨rfl, hc10⟩
  have xbn := Box.below xb hc10 xb.lt
  clear xb
  have xb := xbn
  clear xbn
  have ybn := Box.below yb hc10 yb.lt
  clear yb
  have yb := ybn
  clear ybn
  have zbn := Box.below zb hc10 zb.lt
  clear zb
  have zb := zbn
  clear zbn
  have pb1n := Box.below pb1 hc10 pb1.lt
  clear pb1
  have pb1 := pb1n
  clear pb1n
  have qb1n := Box.below qb1 hc10 qb1.lt
  clear qb1
  have qb1 := qb1n
  clear qb1n
  have hb10 : Below w.heap.size w w10 := hbb3.trans (hc10.mono hbb3.size)
  have hz10 := hb10.size
  clear hc10 hbb3
  go_upto_region 12 with (fail)
  have xbn := (Box.alloc xb (.cells (vcells lA) 23))
  clear xb
  have xb := xbn
  clear xbn
  have ybn := (Box.alloc yb (.cells (vcells lA) 23))
  clear yb
  have yb := ybn
  clear ybn
  have zbn := (Box.alloc zb (.cells (vcells lA) 23))
  clear zb
  have zb := zbn
  clear zbn
  have pb1n := (Box.alloc pb1 (.cells (vcells lA) 23))
  clear pb1
  have pb1 := pb1n
  clear pb1n
  have qb1n := (Box.alloc qb1 (.cells (vcells lA) 23))
  clear qb1
  have qb1 := qb1n
  clear qb1n
  have lb1 : VBox (w10.alloc (.cells (vcells lA) 23)) (w10.heap.size) lA := Box.new w10 23 (vcells lA)
  have hbb4 : Below w.heap.size w (w10.alloc (.cells (vcells lA) 23)) := hb10.alloc hz10 _
  clear hb10
  clear hz10
  generalize (w10.alloc (.cells (vcells lA) 23)) = W4 at *
  generalize w10.heap.size = m4 at *
  obtain ⟨ybc0, ybc1, ybc2⟩ := box3 yb
  obtain ⟨zbc0, zbc1, zbc2⟩ := box3 zb
  go_wp2_with (fail)
  clear ybc0 ybc1 ybc2 zbc0 zbc1 zbc2
  refine (HAm.out _ (he.below hbb4 h4) (by have := hbb4.size; omega)).mono ?_
  rintro e w11 ⟨rfl, hc11⟩
  have xbn := Box.below xb hc11 xb.lt
  clear xb
  have xb := xbn
  clear xbn
  have ybn := Box.below yb hc11 yb.lt
  clear yb
  have yb := ybn
  clear ybn
  have zbn := Box.below zb hc11 zb.lt
  clear zb
  have zb := zbn
  clear zbn
  have pb1n := Box.below pb1 hc11 pb1.lt
  clear pb1
  have pb1 := pb1n
  clear pb1n
  have qb1n := Box.below qb1 hc11 qb1.lt
  clear qb1
  have qb1 := qb1n
  clear qb1n
  have lb1n := Box.below lb1 hc11 lb1.lt
  clear lb1
  have lb1 := lb1n
  clear lb1n
  have hb11 : Below w.heap.size w w11 := hbb4.trans (hc11.mono hbb4.size)
  have hz11 := hb11.size
  clear hc11 hbb4
  go_upto_region 13 with (fail)
  have xbn := (Box.alloc xb (.cells (vcells mA) 23))
  clear xb
  have xb := xbn
  clear xbn
  have ybn := (Box.alloc yb (.cells (vcells mA) 23))
  clear yb
  have yb := ybn
  clear ybn
  have zbn := (Box.alloc zb (.cells (vcells mA) 23))
  clear zb
  have zb := zbn
  clear zbn
  have pb1n := (Box.alloc pb1 (.cells (vcells mA) 23))
  clear pb1
  have pb1 := pb1n
  clear pb1n
  have qb1n := (Box.alloc qb1 (.cells (vcells mA) 23))
  clear qb1
  have qb1 := qb1n
  clear qb1n
  have lb1n := (Box.alloc lb1 (.cells (vcells mA) 23))
  clear lb1
  have lb1 := lb1n
  clear lb1n
  have mb1 : VBox (w11.alloc (.cells (vcells mA) 23)) (w11.heap.size) mA := Box.new w11 23 (vcells mA)
  have hbb5 : Below w.heap.size w (w11.alloc (.cells (vcells mA) 23)) := hb11.alloc hz11 _
  clear hb11
  clear hz11
  generalize (w11.alloc (.cells (vcells mA) 23)) = W5 at *
  generalize w11.heap.size = m5 at *
  obtain ⟨xbc0, xbc1, xbc2⟩ := box3 xb
  obtain ⟨mb1c0, mb1c1, mb1c2⟩ := box3 mb1
  go_wp2_with (fail)
  clear xbc0 xbc1 xbc2 mb1c0 mb1c1 mb1c2
  refine (HAn.out _ (he.below hbb5 h4) (by have := hbb5.size; omega)).mono ?_
  rintro e w12 ⟨rfl, hc12⟩
  have xbn := Box.below xb hc12 xb.lt
  clear xb
  have xb := xbn
  clear xbn
  have ybn := Box.below yb hc12 yb.lt
  clear yb
  have yb := ybn
  clear ybn
  have zbn := Box.below zb hc12 zb.lt
  clear zb
  have zb := zbn
  clear zbn
  have pb1n := Box.below pb1 hc12 pb1.lt
  clear pb1
  have pb1 := pb1n
  clear pb1n
  have qb1n := Box.below qb1 hc12 qb1.lt
  clear qb1
  have qb1 := qb1n
  clear qb1n
  have lb1n := Box.below lb1 hc12 lb1.lt
  clear lb1
  have lb1 := lb1n
  clear lb1n
  have mb1n := Box.below mb1 hc12 mb1.lt
  clear mb1
  have mb1 := mb1n
  clear mb1n
  have hb12 : Below w.heap.size w w12 := hbb5.trans (hc12.mono hbb5.size)
  have hz12 := hb12.size
  clear hc12 hbb5
  go_upto_region 14 with (fail)
  have xbn := (Box.alloc xb (.cells (vcells nA) 23))
  clear xb
  have xb := xbn
  clear xbn
  have ybn := (Box.alloc yb (.cells (vcells nA) 23))
  clear yb
  have yb := ybn
  clear ybn
  have zbn := (Box.alloc zb (.cells (vcells nA) 23))
  clear zb
  have zb := zbn
  clear zbn
  have pb1n := (Box.alloc pb1 (.cells (vcells nA) 23))
  clear pb1
  have pb1 := pb1n
  clear pb1n
  have qb1n := (Box.alloc qb1 (.cells (vcells nA) 23))
  clear qb1
  have qb1 := qb1n
  clear qb1n
  have lb1n := (Box.alloc lb1 (.cells (vcells nA) 23))
  clear lb1
  have lb1 := lb1n
  clear lb1n
  have mb1n := (Box.alloc mb1 (.cells (vcells nA) 23))
  clear mb1
  have mb1 := mb1n
  clear mb1n
  have nb1 : VBox (w12.alloc (.cells (vcells nA) 23)) (w12.heap.size) nA := Box.new w12 23 (vcells nA)
  have hbb6 : Below w.heap.size w (w12.alloc (.cells (vcells nA) 23)) := hb12.alloc hz12 _
  clear hb12
  clear hz12
  generalize (w12.alloc (.cells (vcells nA) 23)) = W6 at *
  generalize w12.heap.size = m6 at *
  obtain ⟨lb1c0, lb1c1, lb1c2⟩ := box3 lb1
  obtain ⟨nb1c0, nb1c1, nb1c2⟩ := box3 nb1
  go_cut [115] from 103 to 115 (fun s wx => s = .bool false ∧ wx = W6)
  case first =>
    cases zA <;> cases dA
    all_goals (first | (exact absurd hkA (by decide)) | skip)
    all_goals (go_wp2_with (fail); go_meet; exact ⟨rfl, rfl⟩)
  case rest =>
    obtain ⟨rfl, hwx1⟩ := hcut
    subst hwx1
    clear lb1c0 lb1c1 lb1c2 nb1c0 nb1c1 nb1c2 eA1 eA2 eA3 sA1 sA2 sA3 hzA hdA hkA nsA
    go_wp2_with (fail)
    clear pb1 qb1 lb1 mb1 nb1
    obtain ⟨xbc0, xbc1, xbc2⟩ := box3 xb
    obtain ⟨ybc0, ybc1, ybc2⟩ := box3 yb
    obtain ⟨zbc0, zbc1, zbc2⟩ := box3 zb
    rw [rounds_succ]
    go_wp2_with (fail)
    clear xbc0 xbc1 xbc2 ybc0 ybc1 ybc2 zbc0 zbc1 zbc2
    refine (HMp.out _ (he.below hbb6 h4) (by have := hbb6.size; omega)).mono ?_
    rintro e w13 ⟨rfl, hc13⟩
    have xbn := Box.below xb hc13 xb.lt
    clear xb
    have xb := xbn
    clear xbn
    have ybn := Box.below yb hc13 yb.lt
    clear yb
    have yb := ybn
    clear ybn
    have zbn := Box.below zb hc13 zb.lt
    clear zb
    have zb := zbn
    clear zbn
    have hb13 : Below w.heap.size w w13 := hbb6.trans (hc13.mono hbb6.size)
    have hz13 := hb13.size
    clear hc13 hbb6
    go_upto_region 8 with (fail)
    have xbn := (Box.alloc xb (.cells (vcells pM) 23))
    clear xb
    have xb := xbn
    clear xbn
    have ybn := (Box.alloc yb (.cells (vcells pM) 23))
    clear yb
    have yb := ybn
    clear ybn
    have zbn := (Box.alloc zb (.cells (vcells pM) 23))
    clear zb
    have zb := zbn
    clear zbn
    have pb2 : VBox (w13.alloc (.cells (vcells pM) 23)) (w13.heap.size) pM := Box.new w13 23 (vcells pM)
    have hbb7 : Below w.heap.size w (w13.alloc (.cells (vcells pM) 23)) := hb13.alloc hz13 _
    clear hb13
    clear hz13
    generalize (w13.alloc (.cells (vcells pM) 23)) = W7 at *
    generalize w13.heap.size = m7 at *
    obtain ⟨xbc0, xbc1, xbc2⟩ := box3 xb
    obtain ⟨ybc0, ybc1, ybc2⟩ := box3 yb
    go_wp2_with (fail)
    clear xbc0 xbc1 xbc2 ybc0 ybc1 ybc2
    refine (HMq.out _ (he.below hbb7 h4) (by have := hbb7.size; omega)).mono ?_
    rintro e w14 ⟨rfl, hc14⟩
    have xbn := Box.below xb hc14 xb.lt
    clear xb
    have xb := xbn
    clear xbn
    have ybn := Box.below yb hc14 yb.lt
    clear yb
    have yb := ybn
    clear ybn
    have zbn := Box.below zb hc14 zb.lt
    clear zb
    have zb := zbn
    clear zbn
    have pb2n := Box.below pb2 hc14 pb2.lt
    clear pb2
    have pb2 := pb2n
    clear pb2n
    have hb14 : Below w.heap.size w w14 := hbb7.trans (hc14.mono hbb7.size)
    have hz14 := hb14.size
    clear hc14 hbb7
    go_upto_region 9 with (fail)
    have xbn := (Box.alloc xb (.cells (vcells pM) 23))
    clear xb
    have xb := xbn
    clear xbn
    have ybn := (Box.alloc yb (.cells (vcells pM) 23))
    clear yb
    have yb := ybn
    clear ybn
    have zbn := (Box.alloc zb (.cells (vcells pM) 23))
    clear zb
    have zb := zbn
    clear zbn
    have pb2n := (Box.alloc pb2 (.cells (vcells pM) 23))
    clear pb2
    have pb2 := pb2n
    clear pb2n
    have qb2 : VBox (w14.alloc (.cells (vcells pM) 23)) (w14.heap.size) pM := Box.new w14 23 (vcells pM)
    have hbb8 : Below w.heap.size w (w14.alloc (.cells (vcells pM) 23)) := hb14.alloc hz14 _
    clear hb14
    clear hz14
    generalize (w14.alloc (.cells (vcells pM) 23)) = W8 at *
    generalize w14.heap.size = m8 at *
    obtain ⟨pb2c0, pb2c1, pb2c2⟩ := box3 pb2
    obtain ⟨qb2c0, qb2c1, qb2c2⟩ := box3 qb2
    obtain ⟨zbc0, zbc1, zbc2⟩ := box3 zb
    go_wp2_with (fail)
    clear pb2c0 pb2c1 pb2c2 qb2c0 qb2c1 qb2c2 zbc0 zbc1 zbc2
    refine (HMl.out _ (he.below hbb8 h4) (by have := hbb8.size; omega)).mono ?_
    rintro e w15 ⟨rfl, hc15⟩
    have xbn := Box.below xb hc15 xb.lt
    clear xb
    have xb := xbn
    clear xbn
    have ybn := Box.below yb hc15 yb.lt
    clear yb
    have yb := ybn
    clear ybn
    have zbn := Box.below zb hc15 zb.lt
    clear zb
    have zb := zbn
    clear zbn
    have pb2n := Box.below pb2 hc15 pb2.lt
    clear pb2
    have pb2 := pb2n
    clear pb2n
    have qb2n := Box.below qb2 hc15 qb2.lt
    clear qb2
    have qb2 := qb2n
    clear qb2n
    have hb15 : Below w.heap.size w w15 := hbb8.trans (hc15.mono hbb8.size)
    have hz15 := hb15.size
    clear hc15 hbb8
    go_upto_region 12 with (fail)
    have xbn := (Box.alloc xb (.cells (vcells lM) 23))
    clear xb
    have xb := xbn
    clear xbn
    have ybn := (Box.alloc yb (.cells (vcells lM) 23))
    clear yb
    have yb := ybn
    clear ybn
    have zbn := (Box.alloc zb (.cells (vcells lM) 23))
    clear zb
    have zb := zbn
    clear zbn
    have pb2n := (Box.alloc pb2 (.cells (vcells lM) 23))
    clear pb2
    have pb2 := pb2n
    clear pb2n
    have qb2n := (Box.alloc qb2 (.cells (vcells lM) 23))
    clear qb2
    have qb2 := qb2n
    clear qb2n
    have lb2 : VBox (w15.alloc (.cells (vcells lM) 23)) (w15.heap.size) lM := Box.new w15 23 (vcells lM)
    have hbb9 : Below w.heap.size w (w15.alloc (.cells (vcells lM) 23)) := hb15.alloc hz15 _
    clear hb15
    clear hz15
    generalize (w15.alloc (.cells (vcells lM) 23)) = W9 at *
    generalize w15.heap.size = m9 at *
    obtain ⟨ybc0, ybc1, ybc2⟩ := box3 yb
    obtain ⟨zbc0, zbc1, zbc2⟩ := box3 zb
    go_wp2_with (fail)
    clear ybc0 ybc1 ybc2 zbc0 zbc1 zbc2
    refine (HMm.out _ (he.below hbb9 h4) (by have := hbb9.size; omega)).mono ?_
    rintro e w16 ⟨rfl, hc16⟩
    have xbn := Box.below xb hc16 xb.lt
    clear xb
    have xb := xbn
    clear xbn
    have ybn := Box.below yb hc16 yb.lt
    clear yb
    have yb := ybn
    clear ybn
    have zbn := Box.below zb hc16 zb.lt
    clear zb
    have zb := zbn
    clear zbn
    have pb2n := Box.below pb2 hc16 pb2.lt
    clear pb2
    have pb2 := pb2n
    clear pb2n
    have qb2n := Box.below qb2 hc16 qb2.lt
    clear qb2
    have qb2 := qb2n
    clear qb2n
    have lb2n := Box.below lb2 hc16 lb2.lt
    clear lb2
    have lb2 := lb2n
    clear lb2n
    have hb16 : Below w.heap.size w w16 := hbb9.trans (hc16.mono hbb9.size)
    have hz16 := hb16.size
    clear hc16 hbb9
    go_upto_region 13 with (fail)
    have xbn := (Box.alloc xb (.cells (vcells mM) 23))
    clear xb
    have xb := xbn
    clear xbn
    have ybn := (Box.alloc yb (.cells (vcells mM) 23))
    clear yb
    have yb := ybn
    clear ybn
    have zbn := (Box.alloc zb (.cells (vcells mM) 23))
    clear zb
    have zb := zbn
    clear zbn
    have pb2n := (Box.alloc pb2 (.cells (vcells mM) 23))
    clear pb2
    have pb2 := pb2n
    clear pb2n
    have qb2n := (Box.alloc qb2 (.cells (vcells mM) 23))
    clear qb2
    have qb2 := qb2n
    clear qb2n
    have lb2n := (Box.alloc lb2 (.cells (vcells mM) 23))
    clear lb2
    have lb2 := lb2n
    clear lb2n
    have mb2 : VBox (w16.alloc (.cells (vcells mM) 23)) (w16.heap.size) mM := Box.new w16 23 (vcells mM)
    have hbb10 : Below w.heap.size w (w16.alloc (.cells (vcells mM) 23)) := hb16.alloc hz16 _
    clear hb16
    clear hz16
    generalize (w16.alloc (.cells (vcells mM) 23)) = W10 at *
    generalize w16.heap.size = m10 at *
    obtain ⟨xbc0, xbc1, xbc2⟩ := box3 xb
    obtain ⟨mb2c0, mb2c1, mb2c2⟩ := box3 mb2
    go_wp2_with (fail)
    clear xbc0 xbc1 xbc2 mb2c0 mb2c1 mb2c2
    refine (HMn.out _ (he.below hbb10 h4) (by have := hbb10.size; omega)).mono ?_
    rintro e w17 ⟨rfl, hc17⟩
    have xbn := Box.below xb hc17 xb.lt
    clear xb
    have xb := xbn
    clear xbn
    have ybn := Box.below yb hc17 yb.lt
    clear yb
    have yb := ybn
    clear ybn
    have zbn := Box.below zb hc17 zb.lt
    clear zb
    have zb := zbn
    clear zbn
    have pb2n := Box.below pb2 hc17 pb2.lt
    clear pb2
    have pb2 := pb2n
    clear pb2n
    have qb2n := Box.below qb2 hc17 qb2.lt
    clear qb2
    have qb2 := qb2n
    clear qb2n
    have lb2n := Box.below lb2 hc17 lb2.lt
    clear lb2
    have lb2 := lb2n
    clear lb2n
    have mb2n := Box.below mb2 hc17 mb2.lt
    clear mb2
    have mb2 := mb2n
    clear mb2n
    have hb17 : Below w.heap.size w w17 := hbb10.trans (hc17.mono hbb10.size)
    have hz17 := hb17.size
    clear hc17 hbb10
    go_upto_region 14 with (fail)
    have xbn := (Box.alloc xb (.cells (vcells nM) 23))
    clear xb
    have xb := xbn
    clear xbn
    have ybn := (Box.alloc yb (.cells (vcells nM) 23))
    clear yb
    have yb := ybn
    clear ybn
    have zbn := (Box.alloc zb (.cells (vcells nM) 23))
    clear zb
    have zb := zbn
    clear zbn
    have pb2n := (Box.alloc pb2 (.cells (vcells nM) 23))
    clear pb2
    have pb2 := pb2n
    clear pb2n
    have qb2n := (Box.alloc qb2 (.cells (vcells nM) 23))
    clear qb2
    have qb2 := qb2n
    clear qb2n
    have lb2n := (Box.alloc lb2 (.cells (vcells nM) 23))
    clear lb2
    have lb2 := lb2n
    clear lb2n
    have mb2n := (Box.alloc mb2 (.cells (vcells nM) 23))
    clear mb2
    have mb2 := mb2n
    clear mb2n
    have nb2 : VBox (w17.alloc (.cells (vcells nM) 23)) (w17.heap.size) nM := Box.new w17 23 (vcells nM)
    have hbb11 : Below w.heap.size w (w17.alloc (.cells (vcells nM) 23)) := hb17.alloc hz17 _
    clear hb17
    clear hz17
    generalize (w17.alloc (.cells (vcells nM) 23)) = W11 at *
    generalize w17.heap.size = m11 at *
    obtain ⟨lb2c0, lb2c1, lb2c2⟩ := box3 lb2
    obtain ⟨nb2c0, nb2c1, nb2c2⟩ := box3 nb2
    go_cut [115] from 103 to 115 (fun s wx => s = .bool false ∧ wx = W11)
    case first =>
      cases zM <;> cases dM
      all_goals (first | (exact absurd hkM (by decide)) | skip)
      all_goals (go_wp2_with (fail); go_meet; exact ⟨rfl, rfl⟩)
    case rest =>
      obtain ⟨rfl, hwx2⟩ := hcut
      subst hwx2
      clear lb2c0 lb2c1 lb2c2 nb2c0 nb2c1 nb2c2 eM1 eM2 eM3 sM1 sM2 sM3 hzM hdM hkM nsM
      go_wp2_with (fail)
      clear pb2 qb2 lb2 mb2 nb2
      rw [rounds_succ]
      go_upto_region 17 with (fail)
      obtain ⟨ybc0, ybc1, ybc2⟩ := box3 yb
      obtain ⟨zbc0, zbc1, zbc2⟩ := box3 zb
      go_wp2_with (fail)
      clear ybc0 ybc1 ybc2 zbc0 zbc1 zbc2
      refine (HFs.out _ (he.below hbb11 h4) (by have := hbb11.size; omega)).mono ?_
      rintro e w18 ⟨rfl, hc18⟩
      have xbn := Box.below xb hc18 xb.lt
      clear xb
      have xb := xbn
      clear xbn
      have ybn := Box.below yb hc18 yb.lt
      clear yb
      have yb := ybn
      clear ybn
      have zbn := Box.below zb hc18 zb.lt
      clear zb
      have zb := zbn
      clear zbn
      have hb18 : Below w.heap.size w w18 := hbb11.trans (hc18.mono hbb11.size)
      have hz18 := hb18.size
      clear hc18 hbb11
      go_upto_region 18 with (fail)
      have xbn := (Box.alloc xb (.cells (vcells sF) 23))
      clear xb
      have xb := xbn
      clear xbn
      have ybn := (Box.alloc yb (.cells (vcells sF) 23))
      clear yb
      have yb := ybn
      clear ybn
      have zbn := (Box.alloc zb (.cells (vcells sF) 23))
      clear zb
      have zb := zbn
      clear zbn
      have sb : VBox (w18.alloc (.cells (vcells sF) 23)) (w18.heap.size) sF := Box.new w18 23 (vcells sF)
      have hbb12 : Below w.heap.size w (w18.alloc (.cells (vcells sF) 23)) := hb18.alloc hz18 _
      clear hb18
      clear hz18
      generalize (w18.alloc (.cells (vcells sF) 23)) = W12 at *
      generalize w18.heap.size = m12 at *
      obtain ⟨xbc0, xbc1, xbc2⟩ := box3 xb
      obtain ⟨sbc0, sbc1, sbc2⟩ := box3 sb
      go_wp2_with (fail)
      clear xbc0 xbc1 xbc2 sbc0 sbc1 sbc2
      refine (HFp.out _ (he.below hbb12 h4) (by have := hbb12.size; omega)).mono ?_
      rintro e w19 ⟨rfl, hc19⟩
      have xbn := Box.below xb hc19 xb.lt
      clear xb
      have xb := xbn
      clear xbn
      have ybn := Box.below yb hc19 yb.lt
      clear yb
      have yb := ybn
      clear ybn
      have zbn := Box.below zb hc19 zb.lt
      clear zb
      have zb := zbn
      clear zbn
      have sbn := Box.below sb hc19 sb.lt
      clear sb
      have sb := sbn
      clear sbn
      have hb19 : Below w.heap.size w w19 := hbb12.trans (hc19.mono hbb12.size)
      have hz19 := hb19.size
      clear hc19 hbb12
      go_upto_region 19 with (fail)
      have xbn := (Box.alloc xb (.cells (vcells pF) 23))
      clear xb
      have xb := xbn
      clear xbn
      have ybn := (Box.alloc yb (.cells (vcells pF) 23))
      clear yb
      have yb := ybn
      clear ybn
      have zbn := (Box.alloc zb (.cells (vcells pF) 23))
      clear zb
      have zb := zbn
      clear zbn
      have sbn := (Box.alloc sb (.cells (vcells pF) 23))
      clear sb
      have sb := sbn
      clear sbn
      have pb : VBox (w19.alloc (.cells (vcells pF) 23)) (w19.heap.size) pF := Box.new w19 23 (vcells pF)
      have hbb13 : Below w.heap.size w (w19.alloc (.cells (vcells pF) 23)) := hb19.alloc hz19 _
      clear hb19
      clear hz19
      generalize (w19.alloc (.cells (vcells pF) 23)) = W13 at *
      generalize w19.heap.size = m13 at *
      obtain ⟨xbc0, xbc1, xbc2⟩ := box3 xb
      obtain ⟨ybc0, ybc1, ybc2⟩ := box3 yb
      go_wp2_with (fail)
      clear xbc0 xbc1 xbc2 ybc0 ybc1 ybc2
      refine (HFq.out _ (he.below hbb13 h4) (by have := hbb13.size; omega)).mono ?_
      rintro e w20 ⟨rfl, hc20⟩
      have xbn := Box.below xb hc20 xb.lt
      clear xb
      have xb := xbn
      clear xbn
      have ybn := Box.below yb hc20 yb.lt
      clear yb
      have yb := ybn
      clear ybn
      have zbn := Box.below zb hc20 zb.lt
      clear zb
      have zb := zbn
      clear zbn
      have sbn := Box.below sb hc20 sb.lt
      clear sb
      have sb := sbn
      clear sbn
      have pbn := Box.below pb hc20 pb.lt
      clear pb
      have pb := pbn
      clear pbn
      have hb20 : Below w.heap.size w w20 := hbb13.trans (hc20.mono hbb13.size)
      have hz20 := hb20.size
      clear hc20 hbb13
      go_upto_region 20 with (fail)
      have xbn := (Box.alloc xb (.cells (vcells qF) 23))
      clear xb
      have xb := xbn
      clear xbn
      have ybn := (Box.alloc yb (.cells (vcells qF) 23))
      clear yb
      have yb := ybn
      clear ybn
      have zbn := (Box.alloc zb (.cells (vcells qF) 23))
      clear zb
      have zb := zbn
      clear zbn
      have sbn := (Box.alloc sb (.cells (vcells qF) 23))
      clear sb
      have sb := sbn
      clear sbn
      have pbn := (Box.alloc pb (.cells (vcells qF) 23))
      clear pb
      have pb := pbn
      clear pbn
      have qb : VBox (w20.alloc (.cells (vcells qF) 23)) (w20.heap.size) qF := Box.new w20 23 (vcells qF)
      have hbb14 : Below w.heap.size w (w20.alloc (.cells (vcells qF) 23)) := hb20.alloc hz20 _
      clear hb20
      clear hz20
      generalize (w20.alloc (.cells (vcells qF) 23)) = W14 at *
      generalize w20.heap.size = m14 at *
      obtain ⟨xbc0, xbc1, xbc2⟩ := box3 xb
      obtain ⟨zbc0, zbc1, zbc2⟩ := box3 zb
      go_wp2_with (fail)
      clear xbc0 xbc1 xbc2 zbc0 zbc1 zbc2
      refine (HFr.out _ (he.below hbb14 h4) (by have := hbb14.size; omega)).mono ?_
      rintro e w21 ⟨rfl, hc21⟩
      have xbn := Box.below xb hc21 xb.lt
      clear xb
      have xb := xbn
      clear xbn
      have ybn := Box.below yb hc21 yb.lt
      clear yb
      have yb := ybn
      clear ybn
      have zbn := Box.below zb hc21 zb.lt
      clear zb
      have zb := zbn
      clear zbn
      have sbn := Box.below sb hc21 sb.lt
      clear sb
      have sb := sbn
      clear sbn
      have pbn := Box.below pb hc21 pb.lt
      clear pb
      have pb := pbn
      clear pbn
      have qbn := Box.below qb hc21 qb.lt
      clear qb
      have qb := qbn
      clear qbn
      have hb21 : Below w.heap.size w w21 := hbb14.trans (hc21.mono hbb14.size)
      have hz21 := hb21.size
      clear hc21 hbb14
      go_upto_region 21 with (fail)
      have xbn := (Box.alloc xb (.cells (vcells rF) 23))
      clear xb
      have xb := xbn
      clear xbn
      have ybn := (Box.alloc yb (.cells (vcells rF) 23))
      clear yb
      have yb := ybn
      clear ybn
      have zbn := (Box.alloc zb (.cells (vcells rF) 23))
      clear zb
      have zb := zbn
      clear zbn
      have sbn := (Box.alloc sb (.cells (vcells rF) 23))
      clear sb
      have sb := sbn
      clear sbn
      have pbn := (Box.alloc pb (.cells (vcells rF) 23))
      clear pb
      have pb := pbn
      clear pbn
      have qbn := (Box.alloc qb (.cells (vcells rF) 23))
      clear qb
      have qb := qbn
      clear qbn
      have rb : VBox (w21.alloc (.cells (vcells rF) 23)) (w21.heap.size) rF := Box.new w21 23 (vcells rF)
      have hbb15 : Below w.heap.size w (w21.alloc (.cells (vcells rF) 23)) := hb21.alloc hz21 _
      clear hb21
      clear hz21
      generalize (w21.alloc (.cells (vcells rF) 23)) = W15 at *
      generalize w21.heap.size = m15 at *
      obtain ⟨qbc0, qbc1, qbc2⟩ := box3 qb
      obtain ⟨rbc0, rbc1, rbc2⟩ := box3 rb
      go_wp2_with (fail)
      clear qbc0 qbc1 qbc2 rbc0 rbc1 rbc2
      refine (HFt.out _ (he.below hbb15 h4) (by have := hbb15.size; omega)).mono ?_
      rintro e w22 ⟨rfl, hc22⟩
      have xbn := Box.below xb hc22 xb.lt
      clear xb
      have xb := xbn
      clear xbn
      have ybn := Box.below yb hc22 yb.lt
      clear yb
      have yb := ybn
      clear ybn
      have zbn := Box.below zb hc22 zb.lt
      clear zb
      have zb := zbn
      clear zbn
      have sbn := Box.below sb hc22 sb.lt
      clear sb
      have sb := sbn
      clear sbn
      have pbn := Box.below pb hc22 pb.lt
      clear pb
      have pb := pbn
      clear pbn
      have qbn := Box.below qb hc22 qb.lt
      clear qb
      have qb := qbn
      clear qbn
      have rbn := Box.below rb hc22 rb.lt
      clear rb
      have rb := rbn
      clear rbn
      have hb22 : Below w.heap.size w w22 := hbb15.trans (hc22.mono hbb15.size)
      have hz22 := hb22.size
      clear hc22 hbb15
      go_upto_region 22 with (fail)
      have xbn := (Box.alloc xb (.cells (vcells tF) 23))
      clear xb
      have xb := xbn
      clear xbn
      have ybn := (Box.alloc yb (.cells (vcells tF) 23))
      clear yb
      have yb := ybn
      clear ybn
      have zbn := (Box.alloc zb (.cells (vcells tF) 23))
      clear zb
      have zb := zbn
      clear zbn
      have sbn := (Box.alloc sb (.cells (vcells tF) 23))
      clear sb
      have sb := sbn
      clear sbn
      have pbn := (Box.alloc pb (.cells (vcells tF) 23))
      clear pb
      have pb := pbn
      clear pbn
      have qbn := (Box.alloc qb (.cells (vcells tF) 23))
      clear qb
      have qb := qbn
      clear qbn
      have rbn := (Box.alloc rb (.cells (vcells tF) 23))
      clear rb
      have rb := rbn
      clear rbn
      have tb : VBox (w22.alloc (.cells (vcells tF) 23)) (w22.heap.size) tF := Box.new w22 23 (vcells tF)
      have hbb16 : Below w.heap.size w (w22.alloc (.cells (vcells tF) 23)) := hb22.alloc hz22 _
      clear hb22
      clear hz22
      generalize (w22.alloc (.cells (vcells tF) 23)) = W16 at *
      generalize w22.heap.size = m16 at *
      obtain ⟨pbc0, pbc1, pbc2⟩ := box3 pb
      obtain ⟨tbc0, tbc1, tbc2⟩ := box3 tb
      cases zF <;> cases dF
      all_goals (first | (exact absurd hkF (by decide)) | skip)
      all_goals (go_wp2; go_ret; exact ⟨rfl, hbb16⟩)

end Go.Proofs.YtollnadeaffomaaDoor
