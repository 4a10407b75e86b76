/-
  Values: two and three live. Conditions: the library's table lies where it lies.
-/
import Derived.Test.YtollnadeaffomaaDoorVaFadd
import Derived.Test.YtollnadeaffomaaDoorVaFmul
import Derived.Test.YtollnadeaffomaaDoorVaFdiv
import Derived.Test.YtollnadeaffomaaDoorVaFmod
namespace Go.Proofs.YtollnadeaffomaaDoor
open Go.RowKit

/-- Binary at a sign, told as a pair. -/
def BinIs (l : Valu.Bs) (a b : Valu.V) (x : Valu.V × Valu.Bs) : Prop := ∀ w : World, Env w → 4 ≤ w.heap.size →
  Calls Tryd.prog 10 #[.string ⟨l.toArray⟩, vag a, vag b] w fun e w' => e = .returned (.tuple #[vag x.1, .string (byt x.2)]) ∧ Below w.heap.size w w'
theorem is_add (a b : Valu.V) (ha : a.s.length ≤ 140737488355328) (hb : b.s.length ≤ 140737488355328) : BinIs [43] a b (Valu.bin .add a b) := fun w he h4 => bin_add a b w he h4 ha hb
theorem is_mul (a b : Valu.V) (ha : a.s.length ≤ 140737488355328) (hb : b.s.length ≤ 140737488355328) : BinIs [42] a b (Valu.bin .mul a b) := fun w he h4 => bin_mul a b w he h4 ha hb
theorem is_div (a b : Valu.V) (ha : a.s.length ≤ 140737488355328) (hb : b.s.length ≤ 140737488355328) : BinIs [47] a b (Valu.bin .div a b) := fun w he h4 => bin_div a b w he h4 ha hb
theorem is_mod (a b : Valu.V) (ha : a.s.length ≤ 140737488355328) (hb : b.s.length ≤ 140737488355328) : BinIs [37] a b (Valu.bin .mod a b) := fun w he h4 => bin_mod a b w he h4 ha hb

theorem t_mul : Valu.bin .mul (Valu.num 2) (Valu.num 3) = (Valu.num 6, []) := by decide
theorem t_div : Valu.bin .div (Valu.num 1) (Valu.num 0) = (Valu.null, Valu.sZero) := by decide
theorem t_add : Valu.bin .add (Valu.num (-2)) (Valu.txt [97]) = (Valu.txt [45, 50, 97], []) := by
  have e : Lib.itoa (-2) = [45, 50] := by simp [Lib.itoa, Lib.decDigits]
  have e1 : Valu.text (Valu.num (-2)) = [45, 50] := by
    unfold Valu.text
    rw [Valu.right_of (by decide)]
    simp [Valu.textR, Valu.num, e]
  have e2 : Valu.text (Valu.txt [97]) = [97] := by decide
  unfold Valu.bin
  rw [Valu.right_of (by decide), Valu.right_of (by decide)]
  simp only [Valu.binR, Valu.addR, e1, e2]
  decide

theorem twoW {W wp w1 : World} {n m : Nat} {a b : Valu.V} (hA : VBox W n a) (hB : VBox W m b) (hW : Below W.heap.size W wp) (hb : Below wp.heap.size wp w1) :
    Below W.heap.size W w1 ∧ w1.cell? ⟨n, 0, none⟩ = some (.int .i64 a.k) ∧ w1.cell? ⟨n, 1, none⟩ = some (.int .i64 a.n) ∧ w1.cell? ⟨n, 2, none⟩ = some (.string (byt a.s)) ∧
    w1.cell? ⟨m, 0, none⟩ = some (.int .i64 b.k) ∧ w1.cell? ⟨m, 1, none⟩ = some (.int .i64 b.n) ∧ w1.cell? ⟨m, 2, none⟩ = some (.string (byt b.s)) := by
  have h1 : Below W.heap.size W w1 := hW.trans (hb.mono hW.size)
  obtain ⟨a0, a1, a2⟩ := box3 (Box.below hA h1 hA.lt)
  obtain ⟨b0, b1, b2⟩ := box3 (Box.below hB h1 hB.lt)
  exact ⟨h1, a0, a1, a2, b0, b1, b2⟩
set_option maxRecDepth 100000 in
set_option maxHeartbeats 2000000 in
theorem lives_true (w : World) (he : Env w) (h4 : 4 ≤ w.heap.size) :
    Calls Tryd.prog 8 #[] w fun e w' => e = .returned (.bool true) ∧ Below w.heap.size w w' := by
  have HN := Lib.hid num_any
  have B1 := is_mul (Valu.num 2) (Valu.num 3) (by decide) (by decide)
  have B2 := is_add (Valu.num (-2)) (Valu.txt [97]) (by decide) (by decide)
  have B3 := is_div (Valu.num 1) (Valu.num 0) (by decide) (by decide)
  rw [t_mul] at B1
  rw [t_add] at B2
  rw [t_div] at B3
  have HB1 := Lib.hid B1
  have HB2 := Lib.hid B2
  have HB3 := Lib.hid B3
  have HT : Hid (∀ w, Calls Tryd.prog 11 #[vag (Valu.num 0)] w fun e w' => e = .returned (.bool false) ∧ Below w.heap.size w w') := fun w => truthy_any (Valu.num 0) w (by decide)
  have e1 : ∀ w, (binOp .eql 23 (vag (Valu.num 6)) (vag (Valu.num 6))).run Tryd.prog w = .ok (.bool true) w := fun w => eql_val _ _ w
  have e2 : ∀ w, (binOp .eql 23 (vag (Valu.txt [45, 50, 97])) (.agg #[.int .i64 3, .int .i64 0, .string ⟨#[45, 50, 97]⟩])).run Tryd.prog w = .ok (.bool true) w := fun w => eql_val (Valu.txt [45, 50, 97]) (Valu.txt [45, 50, 97]) w
  clear B1 B2 B3
  go_enter Tryd.func8, Tryd.ntmps8
  go_wp2_with (fail)
  refine (HN.out 2 _).mono ?_
  rintro e w1 ⟨rfl, hb1⟩
  have hz1 := hb1.size
  go_wp2_with (fail)
  refine (HN.out 3 _).mono ?_
  rintro e w2 ⟨rfl, hb2⟩
  have hz2 := hb2.size
  have hb02 : Below w.heap.size w w2 := hb1.trans (hb2.mono hz1)
  go_wp2_with (fail)
  refine (HB1.out _ (he.below hb02 h4) (by omega)).mono ?_
  rintro e w3 ⟨rfl, hb3⟩
  have hb03 : Below w.heap.size w w3 := hb02.trans (hb3.mono hb02.size)
  have hz3 := hb03.size
  clear hb1 hb2 hb3 hb02 hz1 hz2
  go_wp2_with (fail)
  refine (HN.out (-2) _).mono ?_
  rintro e w4 ⟨rfl, hb4⟩
  have hv4 : VBox w4 w3.heap.size (Valu.num 6) := (Box.new w3 _ _).below hb4 (by simp)
  have hb04 : Below w.heap.size w w4 := (hb03.trans (below1 w3 _ |>.mono hz3)).trans (hb4.mono (by simp; omega))
  have hz4 := hb04.size
  clear hb4
  go_wp2_with (fail)
  refine (HB2.out _ (he.below hb04 h4) (by omega)).mono ?_
  rintro e w5 ⟨rfl, hb5⟩
  have hv5 := hv4.below hb5 hv4.lt
  have hb05 : Below w.heap.size w w5 := hb04.trans (hb5.mono hz4)
  have hz5 := hb05.size
  clear hb5 hv4 hb04 hz4
  go_wp2_with (fail)
  refine (HN.out 1 _).mono ?_
  rintro e w6 ⟨rfl, hb6⟩
  have hv6 := Box.below (Box.alloc hv5 _) hb6 (by have := hv5.lt; simp; omega)
  have hu6 : VBox w6 w5.heap.size (Valu.txt [45, 50, 97]) := (Box.new w5 _ _).below hb6 (by simp)
  have hb06 : Below w.heap.size w w6 := (hb05.trans (below1 w5 _ |>.mono hz5)).trans (hb6.mono (by simp; omega))
  have hz6 := hb06.size
  go_wp2_with (fail)
  refine (HN.out 0 _).mono ?_
  rintro e w7 ⟨rfl, hb7⟩
  have hv7 := hv6.below hb7 hv6.lt
  have hu7 := hu6.below hb7 hu6.lt
  have hb07 : Below w.heap.size w w7 := hb06.trans (hb7.mono hz6)
  have hz7 := hb07.size
  go_wp2_with (fail)
  refine (HB3.out _ (he.below hb07 h4) (by omega)).mono ?_
  rintro e w8 ⟨rfl, hb8⟩
  have hv8 := hv7.below hb8 hv7.lt
  have hu8 := hu7.below hb8 hu7.lt
  have hb08 : Below w.heap.size w w8 := hb07.trans (hb8.mono hz7)
  have hz8 := hb08.size
  go_upto_region 4 with (fail)
  have hvW : VBox (w8.alloc (.cells (vcells Valu.null) 23)) w3.heap.size (Valu.num 6) := Box.alloc hv8 _
  have huW : VBox (w8.alloc (.cells (vcells Valu.null) 23)) w5.heap.size (Valu.txt [45, 50, 97]) := Box.alloc hu8 _
  have hbW : Below w.heap.size w (w8.alloc (.cells (vcells Valu.null) 23)) := hb08.alloc hz8 _
  rw [show byt [] = ⟨#[]⟩ from rfl, show byt Valu.sZero = ⟨#[122, 101, 114, 111]⟩ from rfl]
  clear hv8 hu8 hb08 hz8 hb8 hz7 hb07 hu7 hv7 hb7 hz6 hb06 hu6 hv6 hb6 hz5 hb05 hv5 hz3 hb03 HB1 HB2 HB3
  generalize (w8.alloc (.cells (vcells Valu.null) 23)) = W at *
  generalize w3.heap.size = n at *
  generalize w5.heap.size = m at *
  go_region_held3 (fun w' => Below W.heap.size W w' ∧ w'.cell? ⟨n, 0, none⟩ = some (.int .i64 (Valu.num 6).k) ∧ w'.cell? ⟨n, 1, none⟩ = some (.int .i64 (Valu.num 6).n) ∧ w'.cell? ⟨n, 2, none⟩ = some (.string (byt (Valu.num 6).s)) ∧ w'.cell? ⟨m, 0, none⟩ = some (.int .i64 (Valu.txt [45, 50, 97]).k) ∧ w'.cell? ⟨m, 1, none⟩ = some (.int .i64 (Valu.txt [45, 50, 97]).n) ∧ w'.cell? ⟨m, 2, none⟩ = some (.string (byt (Valu.txt [45, 50, 97]).s)))
    (first | exact twoW hvW huW (Below.refl _ W) (Below.drew (Below.refl _ W)) | (go_split_ands; exact twoW hvW huW (by assumption) hb1))
    (first | (go_at_call 7; refine (HN.out _ _).mono ?_; rintro e w1 ⟨rfl, hb1⟩) | (go_at_call 11; refine (HT.out _).mono ?_; rintro e w1 ⟨rfl, hb1⟩))
  rename_i hH
  go_wp2
  go_ret
  exact ⟨rfl, hbW.trans (hH.1.mono hbW.size)⟩
end Go.Proofs.YtollnadeaffomaaDoor
