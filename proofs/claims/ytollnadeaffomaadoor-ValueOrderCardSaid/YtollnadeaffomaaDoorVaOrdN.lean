/-
  ValueOrder's walk, where the two can't be ordered. Conditions: the library's table lies where it lies; a text has fewer than 2^47 bytes.
-/
import Derived.Test.YtollnadeaffomaaDoorVaRingW
import Derived.Test.YtollnadeaffomaaDoorVaFlt
import Derived.Test.YtollnadeaffomaaDoorVaFgt
import Derived.Test.YtollnadeaffomaaDoorVaFge
import Derived.Test.YtollnadeaffomaaDoorVaFeq
namespace Go.Proofs.YtollnadeaffomaaDoor
open Go.RowKit

set_option maxRecDepth 100000 in
set_option maxHeartbeats 4000000 in
theorem order_no (a b c : Valu.V) (w : World) (he : Env w) (h4 : 4 ≤ w.heap.size) (X1 X2 X3 X4 X5 X6 : Valu.V) (e3 e4 e5 e6 : Valu.Bs)
    (B1 : BinIs [60] a b (X1, Valu.sKind)) (B2 : BinIs [62] a b (X2, Valu.sKind)) (B3 : BinIs [61, 61] a b (X3, e3)) (B4 : BinIs [60] b c (X4, e4)) (B5 : BinIs [60] a c (X5, e5)) (B6 : BinIs [62, 61] a b (X6, e6)) :
    Calls Tryd.prog 5 #[vag a, vag b, vag c] w fun e w' => e = .returned (.bool true) ∧ Below w.heap.size w w' := by
  have HL := Lib.hid lives_true
  have HLab := Lib.hid B1
  have HGab := Lib.hid B2
  have HEab := Lib.hid B3
  have HLbc := Lib.hid B4
  have HLac := Lib.hid B5
  have HNab := Lib.hid B6
  clear B1 B2 B3 B4 B5 B6
  go_enter Tryd.func5, Tryd.ntmps5
  have hb0 : Below w.heap.size w w := Below.refl _ w
  go_upto_region 1 with (fail)
  have ab : VBox (((w.alloc (.cells (vcells a) 23)).alloc (.cells (vcells b) 23)).alloc (.cells (vcells c) 23)) (w.heap.size) a := Box.alloc (Box.alloc (Box.new w 23 (vcells a)) (.cells (vcells b) 23)) (.cells (vcells c) 23)
  have bb : VBox (((w.alloc (.cells (vcells a) 23)).alloc (.cells (vcells b) 23)).alloc (.cells (vcells c) 23)) (w.heap.size + 1) b := Box.alloc (new2 w (.cells (vcells a) 23) 23 (vcells b)) (.cells (vcells c) 23)
  have cb : VBox (((w.alloc (.cells (vcells a) 23)).alloc (.cells (vcells b) 23)).alloc (.cells (vcells c) 23)) (w.heap.size + 2) c := new3 w (.cells (vcells a) 23) (.cells (vcells b) 23) 23 (vcells c)
  have hbb1 : Below w.heap.size w (((w.alloc (.cells (vcells a) 23)).alloc (.cells (vcells b) 23)).alloc (.cells (vcells c) 23)) := ((hb0.alloc (Nat.le_refl _) _).alloc (by simp <;> omega) _).alloc (by simp <;> omega) _
  clear hb0
  generalize (((w.alloc (.cells (vcells a) 23)).alloc (.cells (vcells b) 23)).alloc (.cells (vcells c) 23)) = W1 at *
  obtain ⟨abc0, abc1, abc2⟩ := box3 ab
  obtain ⟨bbc0, bbc1, bbc2⟩ := box3 bb
  go_wp2_with (fail)
  clear abc0 abc1 abc2 bbc0 bbc1 bbc2
  refine (HLab.out _ (he.below hbb1 h4) (by have := hbb1.size; omega)).mono ?_
  rintro e w1 ⟨rfl, hc1⟩
  have abn := Box.below ab hc1 ab.lt
  clear ab
  have ab := abn
  clear abn
  have bbn := Box.below bb hc1 bb.lt
  clear bb
  have bb := bbn
  clear bbn
  have cbn := Box.below cb hc1 cb.lt
  clear cb
  have cb := cbn
  clear cbn
  have hb1 : Below w.heap.size w w1 := hbb1.trans (hc1.mono hbb1.size)
  have hz1 := hb1.size
  clear hc1 hbb1
  go_upto_region 2 with (fail)
  have abn := (Box.alloc ab (.cells (vcells X1) 23))
  clear ab
  have ab := abn
  clear abn
  have bbn := (Box.alloc bb (.cells (vcells X1) 23))
  clear bb
  have bb := bbn
  clear bbn
  have cbn := (Box.alloc cb (.cells (vcells X1) 23))
  clear cb
  have cb := cbn
  clear cbn
  have lb : VBox (w1.alloc (.cells (vcells X1) 23)) (w1.heap.size) X1 := Box.new w1 23 (vcells X1)
  have hbb2 : Below w.heap.size w (w1.alloc (.cells (vcells X1) 23)) := hb1.alloc hz1 _
  clear hb1
  clear hz1
  generalize (w1.alloc (.cells (vcells X1) 23)) = W2 at *
  generalize w1.heap.size = m2 at *
  obtain ⟨abc0, abc1, abc2⟩ := box3 ab
  obtain ⟨bbc0, bbc1, bbc2⟩ := box3 bb
  go_wp2_with (fail)
  clear abc0 abc1 abc2 bbc0 bbc1 bbc2
  refine (HGab.out _ (he.below hbb2 h4) (by have := hbb2.size; omega)).mono ?_
  rintro e w2 ⟨rfl, hc2⟩
  have abn := Box.below ab hc2 ab.lt
  clear ab
  have ab := abn
  clear abn
  have bbn := Box.below bb hc2 bb.lt
  clear bb
  have bb := bbn
  clear bbn
  have cbn := Box.below cb hc2 cb.lt
  clear cb
  have cb := cbn
  clear cbn
  have lbn := Box.below lb hc2 lb.lt
  clear lb
  have lb := lbn
  clear lbn
  have hb2 : Below w.heap.size w w2 := hbb2.trans (hc2.mono hbb2.size)
  have hz2 := hb2.size
  clear hc2 hbb2
  go_upto_region 3 with (fail)
  have abn := (Box.alloc ab (.cells (vcells X2) 23))
  clear ab
  have ab := abn
  clear abn
  have bbn := (Box.alloc bb (.cells (vcells X2) 23))
  clear bb
  have bb := bbn
  clear bbn
  have cbn := (Box.alloc cb (.cells (vcells X2) 23))
  clear cb
  have cb := cbn
  clear cbn
  have lbn := (Box.alloc lb (.cells (vcells X2) 23))
  clear lb
  have lb := lbn
  clear lbn
  have gb : VBox (w2.alloc (.cells (vcells X2) 23)) (w2.heap.size) X2 := Box.new w2 23 (vcells X2)
  have hbb3 : Below w.heap.size w (w2.alloc (.cells (vcells X2) 23)) := hb2.alloc hz2 _
  clear hb2
  clear hz2
  generalize (w2.alloc (.cells (vcells X2) 23)) = W3 at *
  generalize w2.heap.size = m3 at *
  obtain ⟨abc0, abc1, abc2⟩ := box3 ab
  obtain ⟨bbc0, bbc1, bbc2⟩ := box3 bb
  go_wp2_with (fail)
  clear abc0 abc1 abc2 bbc0 bbc1 bbc2
  refine (HEab.out _ (he.below hbb3 h4) (by have := hbb3.size; omega)).mono ?_
  rintro e w3 ⟨rfl, hc3⟩
  have abn := Box.below ab hc3 ab.lt
  clear ab
  have ab := abn
  clear abn
  have bbn := Box.below bb hc3 bb.lt
  clear bb
  have bb := bbn
  clear bbn
  have cbn := Box.below cb hc3 cb.lt
  clear cb
  have cb := cbn
  clear cbn
  have lbn := Box.below lb hc3 lb.lt
  clear lb
  have lb := lbn
  clear lbn
  have gbn := Box.below gb hc3 gb.lt
  clear gb
  have gb := gbn
  clear gbn
  have hb3 : Below w.heap.size w w3 := hbb3.trans (hc3.mono hbb3.size)
  have hz3 := hb3.size
  clear hc3 hbb3
  go_upto_region 4 with (fail)
  have abn := (Box.alloc ab (.cells (vcells X3) 23))
  clear ab
  have ab := abn
  clear abn
  have bbn := (Box.alloc bb (.cells (vcells X3) 23))
  clear bb
  have bb := bbn
  clear bbn
  have cbn := (Box.alloc cb (.cells (vcells X3) 23))
  clear cb
  have cb := cbn
  clear cbn
  have lbn := (Box.alloc lb (.cells (vcells X3) 23))
  clear lb
  have lb := lbn
  clear lbn
  have gbn := (Box.alloc gb (.cells (vcells X3) 23))
  clear gb
  have gb := gbn
  clear gbn
  have eb : VBox (w3.alloc (.cells (vcells X3) 23)) (w3.heap.size) X3 := Box.new w3 23 (vcells X3)
  have hbb4 : Below w.heap.size w (w3.alloc (.cells (vcells X3) 23)) := hb3.alloc hz3 _
  clear hb3
  clear hz3
  generalize (w3.alloc (.cells (vcells X3) 23)) = W4 at *
  generalize w3.heap.size = m4 at *
  obtain ⟨bbc0, bbc1, bbc2⟩ := box3 bb
  obtain ⟨cbc0, cbc1, cbc2⟩ := box3 cb
  go_wp2_with (fail)
  clear bbc0 bbc1 bbc2 cbc0 cbc1 cbc2
  refine (HLbc.out _ (he.below hbb4 h4) (by have := hbb4.size; omega)).mono ?_
  rintro e w4 ⟨rfl, hc4⟩
  have abn := Box.below ab hc4 ab.lt
  clear ab
  have ab := abn
  clear abn
  have bbn := Box.below bb hc4 bb.lt
  clear bb
  have bb := bbn
  clear bbn
  have cbn := Box.below cb hc4 cb.lt
  clear cb
  have cb := cbn
  clear cbn
  have lbn := Box.below lb hc4 lb.lt
  clear lb
  have lb := lbn
  clear lbn
  have gbn := Box.below gb hc4 gb.lt
  clear gb
  have gb := gbn
  clear gbn
  have ebn := Box.below eb hc4 eb.lt
  clear eb
  have eb := ebn
  clear ebn
  have hb4 : Below w.heap.size w w4 := hbb4.trans (hc4.mono hbb4.size)
  have hz4 := hb4.size
  clear hc4 hbb4
  go_upto_region 5 with (fail)
  have abn := (Box.alloc ab (.cells (vcells X4) 23))
  clear ab
  have ab := abn
  clear abn
  have bbn := (Box.alloc bb (.cells (vcells X4) 23))
  clear bb
  have bb := bbn
  clear bbn
  have cbn := (Box.alloc cb (.cells (vcells X4) 23))
  clear cb
  have cb := cbn
  clear cbn
  have lbn := (Box.alloc lb (.cells (vcells X4) 23))
  clear lb
  have lb := lbn
  clear lbn
  have gbn := (Box.alloc gb (.cells (vcells X4) 23))
  clear gb
  have gb := gbn
  clear gbn
  have ebn := (Box.alloc eb (.cells (vcells X4) 23))
  clear eb
  have eb := ebn
  clear ebn
  have nb : VBox (w4.alloc (.cells (vcells X4) 23)) (w4.heap.size) X4 := Box.new w4 23 (vcells X4)
  have hbb5 : Below w.heap.size w (w4.alloc (.cells (vcells X4) 23)) := hb4.alloc hz4 _
  clear hb4
  clear hz4
  generalize (w4.alloc (.cells (vcells X4) 23)) = W5 at *
  generalize w4.heap.size = m5 at *
  obtain ⟨abc0, abc1, abc2⟩ := box3 ab
  obtain ⟨cbc0, cbc1, cbc2⟩ := box3 cb
  go_wp2_with (fail)
  clear abc0 abc1 abc2 cbc0 cbc1 cbc2
  refine (HLac.out _ (he.below hbb5 h4) (by have := hbb5.size; omega)).mono ?_
  rintro e w5 ⟨rfl, hc5⟩
  have abn := Box.below ab hc5 ab.lt
  clear ab
  have ab := abn
  clear abn
  have bbn := Box.below bb hc5 bb.lt
  clear bb
  have bb := bbn
  clear bbn
  have cbn := Box.below cb hc5 cb.lt
  clear cb
  have cb := cbn
  clear cbn
  have lbn := Box.below lb hc5 lb.lt
  clear lb
  have lb := lbn
  clear lbn
  have gbn := Box.below gb hc5 gb.lt
  clear gb
  have gb := gbn
  clear gbn
  have ebn := Box.below eb hc5 eb.lt
  clear eb
  have eb := ebn
  clear ebn
  have nbn := Box.below nb hc5 nb.lt
  clear nb
  have nb := nbn
  clear nbn
  have hb5 : Below w.heap.size w w5 := hbb5.trans (hc5.mono hbb5.size)
  have hz5 := hb5.size
  clear hc5 hbb5
  go_upto_region 6 with (fail)
  have abn := (Box.alloc ab (.cells (vcells X5) 23))
  clear ab
  have ab := abn
  clear abn
  have bbn := (Box.alloc bb (.cells (vcells X5) 23))
  clear bb
  have bb := bbn
  clear bbn
  have cbn := (Box.alloc cb (.cells (vcells X5) 23))
  clear cb
  have cb := cbn
  clear cbn
  have lbn := (Box.alloc lb (.cells (vcells X5) 23))
  clear lb
  have lb := lbn
  clear lbn
  have gbn := (Box.alloc gb (.cells (vcells X5) 23))
  clear gb
  have gb := gbn
  clear gbn
  have ebn := (Box.alloc eb (.cells (vcells X5) 23))
  clear eb
  have eb := ebn
  clear ebn
  have nbn := (Box.alloc nb (.cells (vcells X5) 23))
  clear nb
  have nb := nbn
  clear nbn
  have fb : VBox (w5.alloc (.cells (vcells X5) 23)) (w5.heap.size) X5 := Box.new w5 23 (vcells X5)
  have hbb6 : Below w.heap.size w (w5.alloc (.cells (vcells X5) 23)) := hb5.alloc hz5 _
  clear hb5
  clear hz5
  generalize (w5.alloc (.cells (vcells X5) 23)) = W6 at *
  generalize w5.heap.size = m6 at *
  obtain ⟨abc0, abc1, abc2⟩ := box3 ab
  obtain ⟨bbc0, bbc1, bbc2⟩ := box3 bb
  go_wp2_with (fail)
  clear abc0 abc1 abc2 bbc0 bbc1 bbc2
  refine (HNab.out _ (he.below hbb6 h4) (by have := hbb6.size; omega)).mono ?_
  rintro e w6 ⟨rfl, hc6⟩
  have abn := Box.below ab hc6 ab.lt
  clear ab
  have ab := abn
  clear abn
  have bbn := Box.below bb hc6 bb.lt
  clear bb
  have bb := bbn
  clear bbn
  have cbn := Box.below cb hc6 cb.lt
  clear cb
  have cb := cbn
  clear cbn
  have lbn := Box.below lb hc6 lb.lt
  clear lb
  have lb := lbn
  clear lbn
  have gbn := Box.below gb hc6 gb.lt
  clear gb
  have gb := gbn
  clear gbn
  have ebn := Box.below eb hc6 eb.lt
  clear eb
  have eb := ebn
  clear ebn
  have nbn := Box.below nb hc6 nb.lt
  clear nb
  have nb := nbn
  clear nbn
  have fbn := Box.below fb hc6 fb.lt
  clear fb
  have fb := fbn
  clear fbn
  have hb6 : Below w.heap.size w w6 := hbb6.trans (hc6.mono hbb6.size)
  have hz6 := hb6.size
  clear hc6 hbb6
  go_upto_region 7 with (fail)
  have abn := (Box.alloc ab (.cells (vcells X6) 23))
  clear ab
  have ab := abn
  clear abn
  have bbn := (Box.alloc bb (.cells (vcells X6) 23))
  clear bb
  have bb := bbn
  clear bbn
  have cbn := (Box.alloc cb (.cells (vcells X6) 23))
  clear cb
  have cb := cbn
  clear cbn
  have lbn := (Box.alloc lb (.cells (vcells X6) 23))
  clear lb
  have lb := lbn
  clear lbn
  have gbn := (Box.alloc gb (.cells (vcells X6) 23))
  clear gb
  have gb := gbn
  clear gbn
  have ebn := (Box.alloc eb (.cells (vcells X6) 23))
  clear eb
  have eb := ebn
  clear ebn
  have nbn := (Box.alloc nb (.cells (vcells X6) 23))
  clear nb
  have nb := nbn
  clear nbn
  have fbn := (Box.alloc fb (.cells (vcells X6) 23))
  clear fb
  have fb := fbn
  clear fbn
  have ob : VBox (w6.alloc (.cells (vcells X6) 23)) (w6.heap.size) X6 := Box.new w6 23 (vcells X6)
  have hbb7 : Below w.heap.size w (w6.alloc (.cells (vcells X6) 23)) := hb6.alloc hz6 _
  clear hb6
  clear hz6
  generalize (w6.alloc (.cells (vcells X6) 23)) = W7 at *
  generalize w6.heap.size = m7 at *
  rw [show byt Valu.sKind = ⟨#[107, 105, 110, 100]⟩ from rfl]
  go_wp2_with (fail)
  refine (HL.out _ (he.below hbb7 h4) (by have := hbb7.size; omega)).mono ?_
  rintro e w7 ⟨rfl, hc7⟩
  have abn := Box.below ab hc7 ab.lt
  clear ab
  have ab := abn
  clear abn
  have bbn := Box.below bb hc7 bb.lt
  clear bb
  have bb := bbn
  clear bbn
  have cbn := Box.below cb hc7 cb.lt
  clear cb
  have cb := cbn
  clear cbn
  have lbn := Box.below lb hc7 lb.lt
  clear lb
  have lb := lbn
  clear lbn
  have gbn := Box.below gb hc7 gb.lt
  clear gb
  have gb := gbn
  clear gbn
  have ebn := Box.below eb hc7 eb.lt
  clear eb
  have eb := ebn
  clear ebn
  have nbn := Box.below nb hc7 nb.lt
  clear nb
  have nb := nbn
  clear nbn
  have fbn := Box.below fb hc7 fb.lt
  clear fb
  have fb := fbn
  clear fbn
  have obn := Box.below ob hc7 ob.lt
  clear ob
  have ob := obn
  clear obn
  have hb7 : Below w.heap.size w w7 := hbb7.trans (hc7.mono hbb7.size)
  have hz7 := hb7.size
  clear hc7 hbb7
  go_wp2_with (fail)
  refine (HL.out _ (he.below hb7 h4) (by have := hb7.size; omega)).mono ?_
  rintro e w8 ⟨rfl, hc8⟩
  have abn := Box.below ab hc8 ab.lt
  clear ab
  have ab := abn
  clear abn
  have bbn := Box.below bb hc8 bb.lt
  clear bb
  have bb := bbn
  clear bbn
  have cbn := Box.below cb hc8 cb.lt
  clear cb
  have cb := cbn
  clear cbn
  have lbn := Box.below lb hc8 lb.lt
  clear lb
  have lb := lbn
  clear lbn
  have gbn := Box.below gb hc8 gb.lt
  clear gb
  have gb := gbn
  clear gbn
  have ebn := Box.below eb hc8 eb.lt
  clear eb
  have eb := ebn
  clear ebn
  have nbn := Box.below nb hc8 nb.lt
  clear nb
  have nb := nbn
  clear nbn
  have fbn := Box.below fb hc8 fb.lt
  clear fb
  have fb := fbn
  clear fbn
  have obn := Box.below ob hc8 ob.lt
  clear ob
  have ob := obn
  clear obn
  have hb8 : Below w.heap.size w w8 := hb7.trans (hc8.mono hb7.size)
  have hz8 := hb8.size
  clear hc8 hb7
  go_wp2
  go_ret
  exact ⟨rfl, hb8⟩
end Go.Proofs.YtollnadeaffomaaDoor
