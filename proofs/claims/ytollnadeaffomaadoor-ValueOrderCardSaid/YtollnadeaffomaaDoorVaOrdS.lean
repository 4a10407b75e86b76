/-
  ValueOrder's walk, where the two can be ordered. Conditions: the library's table lies where it lies; a text has fewer than 2^47 bytes.
-/
import Derived.Test.YtollnadeaffomaaDoorVaRingW
import Derived.Test.YtollnadeaffomaaDoorVaFlt
import Derived.Test.YtollnadeaffomaaDoorVaFgt
import Derived.Test.YtollnadeaffomaaDoorVaFge
import Derived.Test.YtollnadeaffomaaDoorVaFeq
import Derived.Test.YtollnadeaffomaaDoorVaIdx
namespace Go.Proofs.YtollnadeaffomaaDoor
open Go.RowKit

set_option maxRecDepth 100000 in
set_option maxHeartbeats 16000000 in
theorem order_S (a b c : Valu.V) (w : World) (he : Env w) (h4 : 4 ≤ w.heap.size) (X4 X5 : Valu.V) (e3 e4 e5 : Valu.Bs) 
    (B1 : BinIs [60] a b ((Valu.truth false), [])) (B2 : BinIs [62] a b ((Valu.truth false), [])) (B3 : BinIs [61, 61] a b ((Valu.truth true), e3)) (B4 : BinIs [60] b c (X4, e4)) (B5 : BinIs [60] a c (X5, e5)) (B6 : BinIs [62, 61] a b ((Valu.truth true), [])) :
    Calls Tryd.prog 5 #[vag a, vag b, vag c] w fun e w' => e = .returned (.bool true) ∧ Below w.heap.size w w' := by
  have HL := Lib.hid lives_true
  have HLab := Lib.hid B1
  have HGab := Lib.hid B2
  have HEab := Lib.hid B3
  have HLbc := Lib.hid B4
  have HLac := Lib.hid B5
  have HNab := Lib.hid B6
  have HTt := Lib.hid (fun t w => truth_is (Valu.truth t) (truth_one t) t (Valu.truthy_truth t) w)
  clear B1 B2 B3 B4 B5 B6
  go_enter Tryd.func5, Tryd.ntmps5
  have hb0 : Below w.heap.size w w := Below.refl _ w
  go_upto_region 1 with (fail)
  have ab : VBox (((w.alloc (.cells (vcells a) 23)).alloc (.cells (vcells b) 23)).alloc (.cells (vcells c) 23)) (w.heap.size) a := Box.alloc (Box.alloc (Box.new w 23 (vcells a)) (.cells (vcells b) 23)) (.cells (vcells c) 23)
  have bb : VBox (((w.alloc (.cells (vcells a) 23)).alloc (.cells (vcells b) 23)).alloc (.cells (vcells c) 23)) (w.heap.size + 1) b := Box.alloc (new2 w (.cells (vcells a) 23) 23 (vcells b)) (.cells (vcells c) 23)
  have cb : VBox (((w.alloc (.cells (vcells a) 23)).alloc (.cells (vcells b) 23)).alloc (.cells (vcells c) 23)) (w.heap.size + 2) c := new3 w (.cells (vcells a) 23) (.cells (vcells b) 23) 23 (vcells c)
  have hbb1 : Below w.heap.size w (((w.alloc (.cells (vcells a) 23)).alloc (.cells (vcells b) 23)).alloc (.cells (vcells c) 23)) := ((hb0.alloc (Nat.le_refl _) _).alloc (by simp <;> omega) _).alloc (by simp <;> omega) _
  clear hb0
  generalize (((w.alloc (.cells (vcells a) 23)).alloc (.cells (vcells b) 23)).alloc (.cells (vcells c) 23)) = W1 at *
  obtain ⟨abc0, abc1, abc2⟩ := box3 ab
  obtain ⟨bbc0, bbc1, bbc2⟩ := box3 bb
  go_wp2_with (fail)
  clear abc0 abc1 abc2 bbc0 bbc1 bbc2
  refine (HLab.out _ (he.below hbb1 h4) (by have := hbb1.size; omega)).mono ?_
  rintro e w1 ⟨rfl, hc1⟩
  have abn := Box.below ab hc1 ab.lt
  clear ab
  have ab := abn
  clear abn
  have bbn := Box.below bb hc1 bb.lt
  clear bb
  have bb := bbn
  clear bbn
  have cbn := Box.below cb hc1 cb.lt
  clear cb
  have cb := cbn
  clear cbn
  have hb1 : Below w.heap.size w w1 := hbb1.trans (hc1.mono hbb1.size)
  have hz1 := hb1.size
  clear hc1 hbb1
  go_upto_region 2 with (fail)
  have abn := (Box.alloc ab (.cells (vcells (Valu.truth false)) 23))
  clear ab
  have ab := abn
  clear abn
  have bbn := (Box.alloc bb (.cells (vcells (Valu.truth false)) 23))
  clear bb
  have bb := bbn
  clear bbn
  have cbn := (Box.alloc cb (.cells (vcells (Valu.truth false)) 23))
  clear cb
  have cb := cbn
  clear cbn
  have lb : VBox (w1.alloc (.cells (vcells (Valu.truth false)) 23)) (w1.heap.size) (Valu.truth false) := Box.new w1 23 (vcells (Valu.truth false))
  have hbb2 : Below w.heap.size w (w1.alloc (.cells (vcells (Valu.truth false)) 23)) := hb1.alloc hz1 _
  clear hb1
  clear hz1
  generalize (w1.alloc (.cells (vcells (Valu.truth false)) 23)) = W2 at *
  generalize w1.heap.size = m2 at *
  obtain ⟨abc0, abc1, abc2⟩ := box3 ab
  obtain ⟨bbc0, bbc1, bbc2⟩ := box3 bb
  go_wp2_with (fail)
  clear abc0 abc1 abc2 bbc0 bbc1 bbc2
  refine (HGab.out _ (he.below hbb2 h4) (by have := hbb2.size; omega)).mono ?_
  rintro e w2 ⟨rfl, hc2⟩
  have abn := Box.below ab hc2 ab.lt
  clear ab
  have ab := abn
  clear abn
  have bbn := Box.below bb hc2 bb.lt
  clear bb
  have bb := bbn
  clear bbn
  have cbn := Box.below cb hc2 cb.lt
  clear cb
  have cb := cbn
  clear cbn
  have lbn := Box.below lb hc2 lb.lt
  clear lb
  have lb := lbn
  clear lbn
  have hb2 : Below w.heap.size w w2 := hbb2.trans (hc2.mono hbb2.size)
  have hz2 := hb2.size
  clear hc2 hbb2
  go_upto_region 3 with (fail)
  have abn := (Box.alloc ab (.cells (vcells (Valu.truth false)) 23))
  clear ab
  have ab := abn
  clear abn
  have bbn := (Box.alloc bb (.cells (vcells (Valu.truth false)) 23))
  clear bb
  have bb := bbn
  clear bbn
  have cbn := (Box.alloc cb (.cells (vcells (Valu.truth false)) 23))
  clear cb
  have cb := cbn
  clear cbn
  have lbn := (Box.alloc lb (.cells (vcells (Valu.truth false)) 23))
  clear lb
  have lb := lbn
  clear lbn
  have gb : VBox (w2.alloc (.cells (vcells (Valu.truth false)) 23)) (w2.heap.size) (Valu.truth false) := Box.new w2 23 (vcells (Valu.truth false))
  have hbb3 : Below w.heap.size w (w2.alloc (.cells (vcells (Valu.truth false)) 23)) := hb2.alloc hz2 _
  clear hb2
  clear hz2
  generalize (w2.alloc (.cells (vcells (Valu.truth false)) 23)) = W3 at *
  generalize w2.heap.size = m3 at *
  obtain ⟨abc0, abc1, abc2⟩ := box3 ab
  obtain ⟨bbc0, bbc1, bbc2⟩ := box3 bb
  go_wp2_with (fail)
  clear abc0 abc1 abc2 bbc0 bbc1 bbc2
  refine (HEab.out _ (he.below hbb3 h4) (by have := hbb3.size; omega)).mono ?_
  rintro e w3 ⟨rfl, hc3⟩
  have abn := Box.below ab hc3 ab.lt
  clear ab
  have ab := abn
  clear abn
  have bbn := Box.below bb hc3 bb.lt
  clear bb
  have bb := bbn
  clear bbn
  have cbn := Box.below cb hc3 cb.lt
  clear cb
  have cb := cbn
  clear cbn
  have lbn := Box.below lb hc3 lb.lt
  clear lb
  have lb := lbn
  clear lbn
  have gbn := Box.below gb hc3 gb.lt
  clear gb
  have gb := gbn
  clear gbn
  have hb3 : Below w.heap.size w w3 := hbb3.trans (hc3.mono hbb3.size)
  have hz3 := hb3.size
  clear hc3 hbb3
  go_upto_region 4 with (fail)
  have abn := (Box.alloc ab (.cells (vcells (Valu.truth true)) 23))
  clear ab
  have ab := abn
  clear abn
  have bbn := (Box.alloc bb (.cells (vcells (Valu.truth true)) 23))
  clear bb
  have bb := bbn
  clear bbn
  have cbn := (Box.alloc cb (.cells (vcells (Valu.truth true)) 23))
  clear cb
  have cb := cbn
  clear cbn
  have lbn := (Box.alloc lb (.cells (vcells (Valu.truth true)) 23))
  clear lb
  have lb := lbn
  clear lbn
  have gbn := (Box.alloc gb (.cells (vcells (Valu.truth true)) 23))
  clear gb
  have gb := gbn
  clear gbn
  have eb : VBox (w3.alloc (.cells (vcells (Valu.truth true)) 23)) (w3.heap.size) (Valu.truth true) := Box.new w3 23 (vcells (Valu.truth true))
  have hbb4 : Below w.heap.size w (w3.alloc (.cells (vcells (Valu.truth true)) 23)) := hb3.alloc hz3 _
  clear hb3
  clear hz3
  generalize (w3.alloc (.cells (vcells (Valu.truth true)) 23)) = W4 at *
  generalize w3.heap.size = m4 at *
  obtain ⟨bbc0, bbc1, bbc2⟩ := box3 bb
  obtain ⟨cbc0, cbc1, cbc2⟩ := box3 cb
  go_wp2_with (fail)
  clear bbc0 bbc1 bbc2 cbc0 cbc1 cbc2
  refine (HLbc.out _ (he.below hbb4 h4) (by have := hbb4.size; omega)).mono ?_
  rintro e w4 ⟨rfl, hc4⟩
  have abn := Box.below ab hc4 ab.lt
  clear ab
  have ab := abn
  clear abn
  have bbn := Box.below bb hc4 bb.lt
  clear bb
  have bb := bbn
  clear bbn
  have cbn := Box.below cb hc4 cb.lt
  clear cb
  have cb := cbn
  clear cbn
  have lbn := Box.below lb hc4 lb.lt
  clear lb
  have lb := lbn
  clear lbn
  have gbn := Box.below gb hc4 gb.lt
  clear gb
  have gb := gbn
  clear gbn
  have ebn := Box.below eb hc4 eb.lt
  clear eb
  have eb := ebn
  clear ebn
  have hb4 : Below w.heap.size w w4 := hbb4.trans (hc4.mono hbb4.size)
  have hz4 := hb4.size
  clear hc4 hbb4
  go_upto_region 5 with (fail)
  have abn := (Box.alloc ab (.cells (vcells X4) 23))
  clear ab
  have ab := abn
  clear abn
  have bbn := (Box.alloc bb (.cells (vcells X4) 23))
  clear bb
  have bb := bbn
  clear bbn
  have cbn := (Box.alloc cb (.cells (vcells X4) 23))
  clear cb
  have cb := cbn
  clear cbn
  have lbn := (Box.alloc lb (.cells (vcells X4) 23))
  clear lb
  have lb := lbn
  clear lbn
  have gbn := (Box.alloc gb (.cells (vcells X4) 23))
  clear gb
  have gb := gbn
  clear gbn
  have ebn := (Box.alloc eb (.cells (vcells X4) 23))
  clear eb
  have eb := ebn
  clear ebn
  have nb : VBox (w4.alloc (.cells (vcells X4) 23)) (w4.heap.size) X4 := Box.new w4 23 (vcells X4)
  have hbb5 : Below w.heap.size w (w4.alloc (.cells (vcells X4) 23)) := hb4.alloc hz4 _
  clear hb4
  clear hz4
  generalize (w4.alloc (.cells (vcells X4) 23)) = W5 at *
  generalize w4.heap.size = m5 at *
  obtain ⟨abc0, abc1, abc2⟩ := box3 ab
  obtain ⟨cbc0, cbc1, cbc2⟩ := box3 cb
  go_wp2_with (fail)
  clear abc0 abc1 abc2 cbc0 cbc1 cbc2
  refine (HLac.out _ (he.below hbb5 h4) (by have := hbb5.size; omega)).mono ?_
  rintro e w5 ⟨rfl, hc5⟩
  have abn := Box.below ab hc5 ab.lt
  clear ab
  have ab := abn
  clear abn
  have bbn := Box.below bb hc5 bb.lt
  clear bb
  have bb := bbn
  clear bbn
  have cbn := Box.below cb hc5 cb.lt
  clear cb
  have cb := cbn
  clear cbn
  have lbn := Box.below lb hc5 lb.lt
  clear lb
  have lb := lbn
  clear lbn
  have gbn := Box.below gb hc5 gb.lt
  clear gb
  have gb := gbn
  clear gbn
  have ebn := Box.below eb hc5 eb.lt
  clear eb
  have eb := ebn
  clear ebn
  have nbn := Box.below nb hc5 nb.lt
  clear nb
  have nb := nbn
  clear nbn
  have hb5 : Below w.heap.size w w5 := hbb5.trans (hc5.mono hbb5.size)
  have hz5 := hb5.size
  clear hc5 hbb5
  go_upto_region 6 with (fail)
  have abn := (Box.alloc ab (.cells (vcells X5) 23))
  clear ab
  have ab := abn
  clear abn
  have bbn := (Box.alloc bb (.cells (vcells X5) 23))
  clear bb
  have bb := bbn
  clear bbn
  have cbn := (Box.alloc cb (.cells (vcells X5) 23))
  clear cb
  have cb := cbn
  clear cbn
  have lbn := (Box.alloc lb (.cells (vcells X5) 23))
  clear lb
  have lb := lbn
  clear lbn
  have gbn := (Box.alloc gb (.cells (vcells X5) 23))
  clear gb
  have gb := gbn
  clear gbn
  have ebn := (Box.alloc eb (.cells (vcells X5) 23))
  clear eb
  have eb := ebn
  clear ebn
  have nbn := (Box.alloc nb (.cells (vcells X5) 23))
  clear nb
  have nb := nbn
  clear nbn
  have fb : VBox (w5.alloc (.cells (vcells X5) 23)) (w5.heap.size) X5 := Box.new w5 23 (vcells X5)
  have hbb6 : Below w.heap.size w (w5.alloc (.cells (vcells X5) 23)) := hb5.alloc hz5 _
  clear hb5
  clear hz5
  generalize (w5.alloc (.cells (vcells X5) 23)) = W6 at *
  generalize w5.heap.size = m6 at *
  obtain ⟨abc0, abc1, abc2⟩ := box3 ab
  obtain ⟨bbc0, bbc1, bbc2⟩ := box3 bb
  go_wp2_with (fail)
  clear abc0 abc1 abc2 bbc0 bbc1 bbc2
  refine (HNab.out _ (he.below hbb6 h4) (by have := hbb6.size; omega)).mono ?_
  rintro e w6 ⟨rfl, hc6⟩
  have abn := Box.below ab hc6 ab.lt
  clear ab
  have ab := abn
  clear abn
  have bbn := Box.below bb hc6 bb.lt
  clear bb
  have bb := bbn
  clear bbn
  have cbn := Box.below cb hc6 cb.lt
  clear cb
  have cb := cbn
  clear cbn
  have lbn := Box.below lb hc6 lb.lt
  clear lb
  have lb := lbn
  clear lbn
  have gbn := Box.below gb hc6 gb.lt
  clear gb
  have gb := gbn
  clear gbn
  have ebn := Box.below eb hc6 eb.lt
  clear eb
  have eb := ebn
  clear ebn
  have nbn := Box.below nb hc6 nb.lt
  clear nb
  have nb := nbn
  clear nbn
  have fbn := Box.below fb hc6 fb.lt
  clear fb
  have fb := fbn
  clear fbn
  have hb6 : Below w.heap.size w w6 := hbb6.trans (hc6.mono hbb6.size)
  have hz6 := hb6.size
  clear hc6 hbb6
  go_upto_region 7 with (fail)
  have abn := (Box.alloc ab (.cells (vcells (Valu.truth true)) 23))
  clear ab
  have ab := abn
  clear abn
  have bbn := (Box.alloc bb (.cells (vcells (Valu.truth true)) 23))
  clear bb
  have bb := bbn
  clear bbn
  have cbn := (Box.alloc cb (.cells (vcells (Valu.truth true)) 23))
  clear cb
  have cb := cbn
  clear cbn
  have lbn := (Box.alloc lb (.cells (vcells (Valu.truth true)) 23))
  clear lb
  have lb := lbn
  clear lbn
  have gbn := (Box.alloc gb (.cells (vcells (Valu.truth true)) 23))
  clear gb
  have gb := gbn
  clear gbn
  have ebn := (Box.alloc eb (.cells (vcells (Valu.truth true)) 23))
  clear eb
  have eb := ebn
  clear ebn
  have nbn := (Box.alloc nb (.cells (vcells (Valu.truth true)) 23))
  clear nb
  have nb := nbn
  clear nbn
  have fbn := (Box.alloc fb (.cells (vcells (Valu.truth true)) 23))
  clear fb
  have fb := fbn
  clear fbn
  have ob : VBox (w6.alloc (.cells (vcells (Valu.truth true)) 23)) (w6.heap.size) (Valu.truth true) := Box.new w6 23 (vcells (Valu.truth true))
  have hbb7 : Below w.heap.size w (w6.alloc (.cells (vcells (Valu.truth true)) 23)) := hb6.alloc hz6 _
  clear hb6
  clear hz6
  generalize (w6.alloc (.cells (vcells (Valu.truth true)) 23)) = W7 at *
  generalize w6.heap.size = m7 at *
  rw [show byt [] = ⟨#[]⟩ from rfl]
  go_wp2_with (fail)
  refine (HL.out _ (he.below hbb7 h4) (by have := hbb7.size; omega)).mono ?_
  rintro e w7 ⟨rfl, hc7⟩
  have abn := Box.below ab hc7 ab.lt
  clear ab
  have ab := abn
  clear abn
  have bbn := Box.below bb hc7 bb.lt
  clear bb
  have bb := bbn
  clear bbn
  have cbn := Box.below cb hc7 cb.lt
  clear cb
  have cb := cbn
  clear cbn
  have lbn := Box.below lb hc7 lb.lt
  clear lb
  have lb := lbn
  clear lbn
  have gbn := Box.below gb hc7 gb.lt
  clear gb
  have gb := gbn
  clear gbn
  have ebn := Box.below eb hc7 eb.lt
  clear eb
  have eb := ebn
  clear ebn
  have nbn := Box.below nb hc7 nb.lt
  clear nb
  have nb := nbn
  clear nbn
  have fbn := Box.below fb hc7 fb.lt
  clear fb
  have fb := fbn
  clear fbn
  have obn := Box.below ob hc7 ob.lt
  clear ob
  have ob := obn
  clear obn
  have hb7 : Below w.heap.size w w7 := hbb7.trans (hc7.mono hbb7.size)
  have hz7 := hb7.size
  clear hc7 hbb7
  go_upto_region 10 with (fail)
  obtain ⟨lbc0, lbc1, lbc2⟩ := box3 lb
  obtain ⟨gbc0, gbc1, gbc2⟩ := box3 gb
  obtain ⟨ebc0, ebc1, ebc2⟩ := box3 eb
  go_wp2_with (fail)
  clear lbc0 lbc1 lbc2 gbc0 gbc1 gbc2 ebc0 ebc1 ebc2
  have i0 := idx0 (Valu.truth false) (Valu.truth false) (Valu.truth true)
  have i1 := idx1 (Valu.truth false) (Valu.truth false) (Valu.truth true)
  have i2 := idx2 (Valu.truth false) (Valu.truth false) (Valu.truth true)
  refine wp_loop_rounds 4 ?_
  rw [rounds_succ]
  go_wp2_with (fail)
  refine (HTt.out false _).mono ?_
  rintro e w8 ⟨rfl, hc8⟩
  have lbn := Box.below (Box.alloc lb _) hc8 (by have := lb.lt; simp; omega)
  clear lb
  have lb := lbn
  clear lbn
  have nbn := Box.below (Box.alloc nb _) hc8 (by have := nb.lt; simp; omega)
  clear nb
  have nb := nbn
  clear nbn
  have fbn := Box.below (Box.alloc fb _) hc8 (by have := fb.lt; simp; omega)
  clear fb
  have fb := fbn
  clear fbn
  have obn := Box.below (Box.alloc ob _) hc8 (by have := ob.lt; simp; omega)
  clear ob
  have ob := obn
  clear obn
  have hb8 : Below w.heap.size w w8 := (hb7.alloc hb7.size _).trans (hc8.mono (by have := hb7.size; simp; omega))
  clear hc8 hb7
  go_wp2_with (fail)
  rw [rounds_succ]
  go_wp2_with (fail)
  refine (HTt.out false _).mono ?_
  rintro e w9 ⟨rfl, hc9⟩
  have lbn := Box.below (Box.alloc lb _) hc9 (by have := lb.lt; simp; omega)
  clear lb
  have lb := lbn
  clear lbn
  have nbn := Box.below (Box.alloc nb _) hc9 (by have := nb.lt; simp; omega)
  clear nb
  have nb := nbn
  clear nbn
  have fbn := Box.below (Box.alloc fb _) hc9 (by have := fb.lt; simp; omega)
  clear fb
  have fb := fbn
  clear fbn
  have obn := Box.below (Box.alloc ob _) hc9 (by have := ob.lt; simp; omega)
  clear ob
  have ob := obn
  clear obn
  have hb9 : Below w.heap.size w w9 := (hb8.alloc hb8.size _).trans (hc9.mono (by have := hb8.size; simp; omega))
  clear hc9 hb8
  go_wp2_with (fail)
  rw [rounds_succ]
  go_wp2_with (fail)
  refine (HTt.out true _).mono ?_
  rintro e w10 ⟨rfl, hc10⟩
  have lbn := Box.below (Box.alloc lb _) hc10 (by have := lb.lt; simp; omega)
  clear lb
  have lb := lbn
  clear lbn
  have nbn := Box.below (Box.alloc nb _) hc10 (by have := nb.lt; simp; omega)
  clear nb
  have nb := nbn
  clear nbn
  have fbn := Box.below (Box.alloc fb _) hc10 (by have := fb.lt; simp; omega)
  clear fb
  have fb := fbn
  clear fbn
  have obn := Box.below (Box.alloc ob _) hc10 (by have := ob.lt; simp; omega)
  clear ob
  have ob := obn
  clear obn
  have hb10 : Below w.heap.size w w10 := (hb9.alloc hb9.size _).trans (hc10.mono (by have := hb9.size; simp; omega))
  clear hc10 hb9
  go_wp2_with (fail)
  clear i0 i1 i2
  rw [rounds_succ]
  go_upto_region 16 with (fail)
  have hbV := hb10
  clear hb10
  generalize w10 = V at *
  clear HLab HGab HEab HLbc HLac HNab HL
  have HTo := Lib.hid (HTt.out true)
  have HTl := Lib.hid (HTt.out false)
  clear HTt
  by_cases g4 : e4 = []
  case neg =>
    have g4' : (byt e4).toList.isEmpty = false := by rw [byt_empty]; exact decide_eq_false g4
    clear g4
    refine wp_region_held_drew (S := fun w' => Env w' ∧ 4 ≤ w'.heap.size ∧ Below V.heap.size V w' ∧ w'.cell? ⟨m7, 0, none⟩ = some (.int .i64 (Valu.truth true).k) ∧ w'.cell? ⟨m7, 1, none⟩ = some (.int .i64 (Valu.truth true).n) ∧ w'.cell? ⟨m7, 2, none⟩ = some (.string (byt (Valu.truth true).s)) ∧ w'.cell? ⟨m2, 0, none⟩ = some (.int .i64 (Valu.truth false).k) ∧ w'.cell? ⟨m2, 1, none⟩ = some (.int .i64 (Valu.truth false).n) ∧ w'.cell? ⟨m2, 2, none⟩ = some (.string (byt (Valu.truth false).s)) ∧ w'.cell? ⟨m5, 0, none⟩ = some (.int .i64 X4.k) ∧ w'.cell? ⟨m5, 1, none⟩ = some (.int .i64 X4.n) ∧ w'.cell? ⟨m5, 2, none⟩ = some (.string (byt X4.s)) ∧ w'.cell? ⟨m6, 0, none⟩ = some (.int .i64 X5.k) ∧ w'.cell? ⟨m6, 1, none⟩ = some (.int .i64 X5.n) ∧ w'.cell? ⟨m6, 2, none⟩ = some (.string (byt X5.s))) (by kernel_rfl) ?_ (fun hHeld => ?_)
    · exact held4 he h4 hbV ob lb nb fb (Below.refl _ V) (drew0 V)
    refine wpAnyH_take (i := 0) (v := ?tv1) rfl (by kernel_rfl) (by kernel_rfl) (by kernel_rfl) (fun _ _ _ h => h) (Or.inl ⟨by kernel_rfl, ?ty1⟩) (by assumption) ?tr1
    case ty1 =>
      intro w hSw
      (try dsimp only at hSw)
      go_simp
      try (with_reducible rfl)
    (try simp only [Act.put, List.getElem_toArray, List.getElem_cons_zero, List.setIfInBounds_toArray, List.set_cons_zero, List.set_cons_succ])
    refine wpAnyH_take (i := 1) (v := ?tv2) rfl (by kernel_rfl) (by kernel_rfl) (by kernel_rfl) (fun _ _ _ h => h) (Or.inl ⟨by kernel_rfl, ?ty2⟩) (by assumption) ?tr2
    case ty2 =>
      intro w hSw
      (try dsimp only at hSw)
      go_simp
      try (with_reducible rfl)
    (try simp only [Act.put, List.getElem_toArray, List.getElem_cons_succ, List.getElem_cons_zero, List.setIfInBounds_toArray, List.set_cons_zero, List.set_cons_succ])
    refine wpAnyH_take (i := 2) (v := ?tv3) rfl (by kernel_rfl) (by kernel_rfl) (by kernel_rfl) (fun _ _ _ h => h) (Or.inl ⟨by kernel_rfl, ?ty3⟩) (by assumption) ?tr3
    case ty3 =>
      intro w hSw
      (try dsimp only at hSw)
      go_simp
      try (with_reducible rfl)
    (try simp only [Act.put, List.getElem_toArray, List.getElem_cons_succ, List.getElem_cons_zero, List.setIfInBounds_toArray, List.set_cons_zero, List.set_cons_succ])
    refine wpAnyH_take (i := 3) (v := ?tv4) rfl (by kernel_rfl) (by kernel_rfl) (by kernel_rfl) (fun _ _ _ h => h) (Or.inl ⟨by kernel_rfl, ?ty4⟩) (by assumption) ?tr4
    case ty4 =>
      intro w hSw
      (try dsimp only at hSw)
      go_simp
      try (with_reducible rfl)
    (try simp only [Act.put, List.getElem_toArray, List.getElem_cons_succ, List.getElem_cons_zero, List.setIfInBounds_toArray, List.set_cons_zero, List.set_cons_succ])
    refine wpAnyH_take (i := 4) (v := ?tv5) rfl (by kernel_rfl) (by kernel_rfl) (by kernel_rfl) (fun _ _ _ h => h) (Or.inl ⟨by kernel_rfl, ?ty5⟩) (by assumption) ?tr5
    case ty5 =>
      intro w hSw
      (try dsimp only at hSw)
      go_simp
      try (with_reducible rfl)
    (try simp only [Act.put, List.getElem_toArray, List.getElem_cons_succ, List.getElem_cons_zero, List.setIfInBounds_toArray, List.set_cons_zero, List.set_cons_succ])
    refine wpAnyH_take (i := 5) (v := ?tv6) rfl (by kernel_rfl) (by kernel_rfl) (by kernel_rfl) (fun _ _ _ h => h) (Or.inl ⟨by kernel_rfl, ?ty6⟩) (by assumption) ?tr6
    case ty6 =>
      intro w hSw
      (try dsimp only at hSw)
      go_simp
      try (with_reducible rfl)
    (try simp only [Act.put, List.getElem_toArray, List.getElem_cons_succ, List.getElem_cons_zero, List.setIfInBounds_toArray, List.set_cons_zero, List.set_cons_succ])
    refine wpAnyH_take (i := 6) (v := ?tv7) rfl (by kernel_rfl) (by kernel_rfl) (by kernel_rfl) (fun _ _ _ h => h) (Or.inl ⟨by kernel_rfl, ?ty7⟩) (by assumption) ?tr7
    case ty7 =>
      intro w hSw
      (try dsimp only at hSw)
      go_simp
      try (with_reducible rfl)
    (try simp only [Act.put, List.getElem_toArray, List.getElem_cons_succ, List.getElem_cons_zero, List.setIfInBounds_toArray, List.set_cons_zero, List.set_cons_succ])
    refine wpAnyH_take (i := 7) (v := ?tv8) rfl (by kernel_rfl) (by kernel_rfl) (by kernel_rfl) (fun _ _ _ h => h) (Or.inl ⟨by kernel_rfl, ?ty8⟩) (by assumption) ?tr8
    case ty8 =>
      intro w hSw
      (try dsimp only at hSw)
      go_simp
      try (with_reducible rfl)
    (try simp only [Act.put, List.getElem_toArray, List.getElem_cons_succ, List.getElem_cons_zero, List.setIfInBounds_toArray, List.set_cons_zero, List.set_cons_succ])
    refine wpAnyH_take (i := 9) (v := ?tv9) rfl (by kernel_rfl) (by kernel_rfl) (by kernel_rfl) (fun _ _ _ h => h) (Or.inl ⟨by kernel_rfl, ?ty9⟩) (by assumption) ?tr9
    case ty9 =>
      intro w hSw
      (try dsimp only at hSw)
      go_simp
      try (with_reducible rfl)
    (try simp only [Act.put, List.getElem_toArray, List.getElem_cons_succ, List.getElem_cons_zero, List.setIfInBounds_toArray, List.set_cons_zero, List.set_cons_succ])
    refine wpAnyH_ready (rs := [8]) (by kernel_rfl) (by simp) ?_
    refine AllReadyH.cons rfl (fun K hK => ?_) AllReadyH.nil
    go_simp
    (go_at_call 11; refine (HTo.out _).mono ?_; rintro e w1 ⟨rfl, hb1⟩)
    go_wp2_with (fail)
    refine hK.out _ _ ?_ (fun hHeld => ?_)
    · (go_split_ands; exact held4 he h4 hbV ob lb nb fb (by assumption) hb1)
    clear hK K
    (try simp only [Act.put, List.getElem_toArray, List.getElem_cons_succ, List.getElem_cons_zero, List.setIfInBounds_toArray, List.set_cons_zero, List.set_cons_succ])
    refine wpAnyH_ready (rs := [10]) (by kernel_rfl) (by simp) ?_
    refine AllReadyH.cons rfl (fun K hK => ?_) AllReadyH.nil
    go_simp
    (go_at_call 11; refine (HTl.out _).mono ?_; rintro e w1 ⟨rfl, hb1⟩)
    go_wp2_with (fail)
    refine hK.out _ _ ?_ (fun hHeld => ?_)
    · (go_split_ands; exact held4 he h4 hbV ob lb nb fb (by assumption) hb1)
    clear hK K
    (try simp only [Act.put, List.getElem_toArray, List.getElem_cons_succ, List.getElem_cons_zero, List.setIfInBounds_toArray, List.set_cons_zero, List.set_cons_succ])
    refine wpAnyH_take (i := 11) (v := ?tv10) rfl (by kernel_rfl) (by kernel_rfl) (by kernel_rfl) (fun _ _ _ h => h) (Or.inl ⟨by kernel_rfl, ?ty10⟩) (by assumption) ?tr10
    case ty10 =>
      intro w hSw
      (try dsimp only at hSw)
      go_simp
      try (with_reducible rfl)
    (try simp only [Act.put, List.getElem_toArray, List.getElem_cons_succ, List.getElem_cons_zero, List.setIfInBounds_toArray, List.set_cons_zero, List.set_cons_succ])
    refine wpAnyH_take (i := 12) (v := ?tv11) rfl (by kernel_rfl) (by kernel_rfl) (by kernel_rfl) (fun _ _ _ h => h) (Or.inl ⟨by kernel_rfl, ?ty11⟩) (by assumption) ?tr11
    case ty11 =>
      intro w hSw
      (try dsimp only at hSw)
      go_simp
      try (with_reducible rfl)
    (try simp only [Act.put, List.getElem_toArray, List.getElem_cons_succ, List.getElem_cons_zero, List.setIfInBounds_toArray, List.set_cons_zero, List.set_cons_succ])
    refine wpAnyH_take (i := 13) (v := ?tv12) rfl (by kernel_rfl) (by kernel_rfl) (by kernel_rfl) (fun _ _ _ h => h) (Or.inl ⟨by kernel_rfl, ?ty12⟩) (by assumption) ?tr12
    case ty12 =>
      intro w hSw
      (try dsimp only at hSw)
      go_simp
      try (with_reducible rfl)
    (try simp only [Act.put, List.getElem_toArray, List.getElem_cons_succ, List.getElem_cons_zero, List.setIfInBounds_toArray, List.set_cons_zero, List.set_cons_succ])
    refine wpAnyH_take (i := 14) (v := ?tv13) rfl (by kernel_rfl) (by kernel_rfl) (by kernel_rfl) (fun _ _ _ h => h) (Or.inl ⟨by kernel_rfl, ?ty13⟩) (by assumption) ?tr13
    case ty13 =>
      intro w hSw
      (try dsimp only at hSw)
      go_simp
      try (with_reducible rfl)
    (try simp only [Act.put, List.getElem_toArray, List.getElem_cons_succ, List.getElem_cons_zero, List.setIfInBounds_toArray, List.set_cons_zero, List.set_cons_succ])
    refine wpAnyH_take (i := 15) (v := ?tv14) rfl (by kernel_rfl) (by kernel_rfl) (by kernel_rfl) (fun _ _ _ h => h) (Or.inl ⟨by kernel_rfl, ?ty14⟩) (by assumption) ?tr14
    case ty14 =>
      intro w hSw
      (try dsimp only at hSw)
      go_simp
      try (with_reducible rfl)
    (try simp only [Act.put, List.getElem_toArray, List.getElem_cons_succ, List.getElem_cons_zero, List.setIfInBounds_toArray, List.set_cons_zero, List.set_cons_succ])
    refine wpAnyH_take (i := 16) (v := ?tv15) rfl (by kernel_rfl) (by kernel_rfl) (by kernel_rfl) (fun _ _ _ h => h) (Or.inl ⟨by kernel_rfl, ?ty15⟩) (by assumption) ?tr15
    case ty15 =>
      intro w hSw
      (try dsimp only at hSw)
      go_simp
      try (with_reducible rfl)
    (try simp only [Act.put, List.getElem_toArray, List.getElem_cons_succ, List.getElem_cons_zero, List.setIfInBounds_toArray, List.set_cons_zero, List.set_cons_succ])
    refine wpAnyH_take (i := 17) (v := undef) rfl (by kernel_rfl) (by kernel_rfl) (by kernel_rfl) (fun _ _ _ h => h) (Or.inr ⟨by kernel_rfl, rfl⟩) (by assumption) ?_
    (try simp only [Act.put, List.getElem_toArray, List.getElem_cons_succ, List.getElem_cons_zero, List.setIfInBounds_toArray, List.set_cons_zero, List.set_cons_succ])
    refine wpAnyH_take (i := 18) (v := undef) rfl (by kernel_rfl) (by kernel_rfl) (by kernel_rfl) (fun _ _ _ h => h) (Or.inr ⟨by kernel_rfl, rfl⟩) (by assumption) ?_
    (try simp only [Act.put, List.getElem_toArray, List.getElem_cons_succ, List.getElem_cons_zero, List.setIfInBounds_toArray, List.set_cons_zero, List.set_cons_succ])
    refine wpAnyH_take (i := 19) (v := ?tv16) rfl (by kernel_rfl) (by kernel_rfl) (by kernel_rfl) (fun _ _ _ h => h) (Or.inl ⟨by kernel_rfl, ?ty16⟩) (by assumption) ?tr16
    case ty16 =>
      intro w hSw
      (try dsimp only at hSw)
      go_simp
      try (with_reducible rfl)
    (try simp only [Act.put, List.getElem_toArray, List.getElem_cons_succ, List.getElem_cons_zero, List.setIfInBounds_toArray, List.set_cons_zero, List.set_cons_succ])
    refine wpAnyH_take (i := 20) (v := ?tv17) rfl (by kernel_rfl) (by kernel_rfl) (by kernel_rfl) (fun _ _ _ h => h) (Or.inl ⟨by kernel_rfl, ?ty17⟩) (by assumption) ?tr17
    case ty17 =>
      intro w hSw
      (try dsimp only at hSw)
      go_simp
      try (with_reducible rfl)
    (try simp only [Act.put, List.getElem_toArray, List.getElem_cons_succ, List.getElem_cons_zero, List.setIfInBounds_toArray, List.set_cons_zero, List.set_cons_succ])
    refine wpAnyH_take (i := 21) (v := undef) rfl (by kernel_rfl) (by kernel_rfl) (by kernel_rfl) (fun _ _ _ h => h) (Or.inr ⟨by kernel_rfl, rfl⟩) (by assumption) ?_
    (try simp only [Act.put, List.getElem_toArray, List.getElem_cons_succ, List.getElem_cons_zero, List.setIfInBounds_toArray, List.set_cons_zero, List.set_cons_succ])
    refine wpAnyH_take (i := 22) (v := undef) rfl (by kernel_rfl) (by kernel_rfl) (by kernel_rfl) (fun _ _ _ h => h) (Or.inr ⟨by kernel_rfl, rfl⟩) (by assumption) ?_
    (try simp only [Act.put, List.getElem_toArray, List.getElem_cons_succ, List.getElem_cons_zero, List.setIfInBounds_toArray, List.set_cons_zero, List.set_cons_succ])
    refine wpAnyH_take (i := 23) (v := undef) rfl (by kernel_rfl) (by kernel_rfl) (by kernel_rfl) (fun _ _ _ h => h) (Or.inr ⟨by kernel_rfl, rfl⟩) (by assumption) ?_
    (try simp only [Act.put, List.getElem_toArray, List.getElem_cons_succ, List.getElem_cons_zero, List.setIfInBounds_toArray, List.set_cons_zero, List.set_cons_succ])
    refine wpAnyH_take (i := 24) (v := ?tv18) rfl (by kernel_rfl) (by kernel_rfl) (by kernel_rfl) (fun _ _ _ h => h) (Or.inl ⟨by kernel_rfl, ?ty18⟩) (by assumption) ?tr18
    case ty18 =>
      intro w hSw
      (try dsimp only at hSw)
      go_simp
      try (with_reducible rfl)
    (try simp only [Act.put, List.getElem_toArray, List.getElem_cons_succ, List.getElem_cons_zero, List.setIfInBounds_toArray, List.set_cons_zero, List.set_cons_succ])
    refine wpAnyH_take (i := 25) (v := ?tv19) rfl (by kernel_rfl) (by kernel_rfl) (by kernel_rfl) (fun _ _ _ h => h) (Or.inl ⟨by kernel_rfl, ?ty19⟩) (by assumption) ?tr19
    case ty19 =>
      intro w hSw
      (try dsimp only at hSw)
      go_simp
      try (with_reducible rfl)
    (try simp only [Act.put, List.getElem_toArray, List.getElem_cons_succ, List.getElem_cons_zero, List.setIfInBounds_toArray, List.set_cons_zero, List.set_cons_succ])
    refine wpAnyH_take (i := 26) (v := undef) rfl (by kernel_rfl) (by kernel_rfl) (by kernel_rfl) (fun _ _ _ h => h) (Or.inr ⟨by kernel_rfl, rfl⟩) (by assumption) ?_
    (try simp only [Act.put, List.getElem_toArray, List.getElem_cons_succ, List.getElem_cons_zero, List.setIfInBounds_toArray, List.set_cons_zero, List.set_cons_succ])
    refine wpAnyH_take (i := 27) (v := undef) rfl (by kernel_rfl) (by kernel_rfl) (by kernel_rfl) (fun _ _ _ h => h) (Or.inr ⟨by kernel_rfl, rfl⟩) (by assumption) ?_
    (try simp only [Act.put, List.getElem_toArray, List.getElem_cons_succ, List.getElem_cons_zero, List.setIfInBounds_toArray, List.set_cons_zero, List.set_cons_succ])
    refine wpAnyH_take (i := 28) (v := undef) rfl (by kernel_rfl) (by kernel_rfl) (by kernel_rfl) (fun _ _ _ h => h) (Or.inr ⟨by kernel_rfl, rfl⟩) (by assumption) ?_
    (try simp only [Act.put, List.getElem_toArray, List.getElem_cons_succ, List.getElem_cons_zero, List.setIfInBounds_toArray, List.set_cons_zero, List.set_cons_succ])
    refine wpAnyH_take (i := 29) (v := ?tv20) rfl (by kernel_rfl) (by kernel_rfl) (by kernel_rfl) (fun _ _ _ h => h) (Or.inl ⟨by kernel_rfl, ?ty20⟩) (by assumption) ?tr20
    case ty20 =>
      intro w hSw
      (try dsimp only at hSw)
      go_simp
      try (with_reducible rfl)
    (try simp only [Act.put, List.getElem_toArray, List.getElem_cons_succ, List.getElem_cons_zero, List.setIfInBounds_toArray, List.set_cons_zero, List.set_cons_succ])
    refine wpAnyH_take (i := 30) (v := ?tv21) rfl (by kernel_rfl) (by kernel_rfl) (by kernel_rfl) (fun _ _ _ h => h) (Or.inl ⟨by kernel_rfl, ?ty21⟩) (by assumption) ?tr21
    case ty21 =>
      intro w hSw
      (try dsimp only at hSw)
      go_simp
      try (with_reducible rfl)
    (try simp only [Act.put, List.getElem_toArray, List.getElem_cons_succ, List.getElem_cons_zero, List.setIfInBounds_toArray, List.set_cons_zero, List.set_cons_succ])
    refine wpAnyH_take (i := 31) (v := undef) rfl (by kernel_rfl) (by kernel_rfl) (by kernel_rfl) (fun _ _ _ h => h) (Or.inr ⟨by kernel_rfl, rfl⟩) (by assumption) ?_
    (try simp only [Act.put, List.getElem_toArray, List.getElem_cons_succ, List.getElem_cons_zero, List.setIfInBounds_toArray, List.set_cons_zero, List.set_cons_succ])
    refine wpAnyH_take (i := 32) (v := undef) rfl (by kernel_rfl) (by kernel_rfl) (by kernel_rfl) (fun _ _ _ h => h) (Or.inr ⟨by kernel_rfl, rfl⟩) (by assumption) ?_
    (try simp only [Act.put, List.getElem_toArray, List.getElem_cons_succ, List.getElem_cons_zero, List.setIfInBounds_toArray, List.set_cons_zero, List.set_cons_succ])
    refine wpAnyH_take (i := 33) (v := ?tv22) rfl (by kernel_rfl) (by kernel_rfl) (by kernel_rfl) (fun _ _ _ h => h) (Or.inl ⟨by kernel_rfl, ?ty22⟩) (by assumption) ?tr22
    case ty22 =>
      intro w hSw
      (try dsimp only at hSw)
      go_simp
      try (with_reducible rfl)
    (try simp only [Act.put, List.getElem_toArray, List.getElem_cons_succ, List.getElem_cons_zero, List.setIfInBounds_toArray, List.set_cons_zero, List.set_cons_succ])
    refine wpAnyH_take (i := 34) (v := ?tv23) rfl (by kernel_rfl) (by kernel_rfl) (by kernel_rfl) (fun _ _ _ h => h) (Or.inl ⟨by kernel_rfl, ?ty23⟩) (by assumption) ?tr23
    case ty23 =>
      intro w hSw
      (try dsimp only at hSw)
      go_simp
      try (with_reducible rfl)
    (try simp only [Act.put, List.getElem_toArray, List.getElem_cons_succ, List.getElem_cons_zero, List.setIfInBounds_toArray, List.set_cons_zero, List.set_cons_succ])
    refine wpAnyH_take (i := 35) (v := ?tv24) rfl (by kernel_rfl) (by kernel_rfl) (by kernel_rfl) (fun _ _ _ h => h) (Or.inl ⟨by kernel_rfl, ?ty24⟩) (by assumption) ?tr24
    case ty24 =>
      intro w hSw
      (try dsimp only at hSw)
      go_simp
      try (with_reducible rfl)
    (try simp only [Act.put, List.getElem_toArray, List.getElem_cons_succ, List.getElem_cons_zero, List.setIfInBounds_toArray, List.set_cons_zero, List.set_cons_succ])
    refine wpAnyH_done (by kernel_rfl) ?_ _
    go_wp2
    go_ret
    exact ⟨rfl, hbV.trans (hHeld.2.2.1.mono hbV.size)⟩
  case pos =>
    have g4' : (byt e4).toList.isEmpty = true := by rw [byt_empty]; exact decide_eq_true g4
    by_cases g5 : e5 = []
    case neg =>
      have g5' : (byt e5).toList.isEmpty = false := by rw [byt_empty]; exact decide_eq_false g5
      clear g4 g5
      refine wp_region_held_drew (S := fun w' => Env w' ∧ 4 ≤ w'.heap.size ∧ Below V.heap.size V w' ∧ w'.cell? ⟨m7, 0, none⟩ = some (.int .i64 (Valu.truth true).k) ∧ w'.cell? ⟨m7, 1, none⟩ = some (.int .i64 (Valu.truth true).n) ∧ w'.cell? ⟨m7, 2, none⟩ = some (.string (byt (Valu.truth true).s)) ∧ w'.cell? ⟨m2, 0, none⟩ = some (.int .i64 (Valu.truth false).k) ∧ w'.cell? ⟨m2, 1, none⟩ = some (.int .i64 (Valu.truth false).n) ∧ w'.cell? ⟨m2, 2, none⟩ = some (.string (byt (Valu.truth false).s)) ∧ w'.cell? ⟨m5, 0, none⟩ = some (.int .i64 X4.k) ∧ w'.cell? ⟨m5, 1, none⟩ = some (.int .i64 X4.n) ∧ w'.cell? ⟨m5, 2, none⟩ = some (.string (byt X4.s)) ∧ w'.cell? ⟨m6, 0, none⟩ = some (.int .i64 X5.k) ∧ w'.cell? ⟨m6, 1, none⟩ = some (.int .i64 X5.n) ∧ w'.cell? ⟨m6, 2, none⟩ = some (.string (byt X5.s))) (by kernel_rfl) ?_ (fun hHeld => ?_)
      · exact held4 he h4 hbV ob lb nb fb (Below.refl _ V) (drew0 V)
      refine wpAnyH_take (i := 0) (v := ?tv25) rfl (by kernel_rfl) (by kernel_rfl) (by kernel_rfl) (fun _ _ _ h => h) (Or.inl ⟨by kernel_rfl, ?ty25⟩) (by assumption) ?tr25
      case ty25 =>
        intro w hSw
        (try dsimp only at hSw)
        go_simp
        try (with_reducible rfl)
      (try simp only [Act.put, List.getElem_toArray, List.getElem_cons_zero, List.setIfInBounds_toArray, List.set_cons_zero, List.set_cons_succ])
      refine wpAnyH_take (i := 1) (v := ?tv26) rfl (by kernel_rfl) (by kernel_rfl) (by kernel_rfl) (fun _ _ _ h => h) (Or.inl ⟨by kernel_rfl, ?ty26⟩) (by assumption) ?tr26
      case ty26 =>
        intro w hSw
        (try dsimp only at hSw)
        go_simp
        try (with_reducible rfl)
      (try simp only [Act.put, List.getElem_toArray, List.getElem_cons_succ, List.getElem_cons_zero, List.setIfInBounds_toArray, List.set_cons_zero, List.set_cons_succ])
      refine wpAnyH_take (i := 2) (v := ?tv27) rfl (by kernel_rfl) (by kernel_rfl) (by kernel_rfl) (fun _ _ _ h => h) (Or.inl ⟨by kernel_rfl, ?ty27⟩) (by assumption) ?tr27
      case ty27 =>
        intro w hSw
        (try dsimp only at hSw)
        go_simp
        try (with_reducible rfl)
      (try simp only [Act.put, List.getElem_toArray, List.getElem_cons_succ, List.getElem_cons_zero, List.setIfInBounds_toArray, List.set_cons_zero, List.set_cons_succ])
      refine wpAnyH_take (i := 3) (v := ?tv28) rfl (by kernel_rfl) (by kernel_rfl) (by kernel_rfl) (fun _ _ _ h => h) (Or.inl ⟨by kernel_rfl, ?ty28⟩) (by assumption) ?tr28
      case ty28 =>
        intro w hSw
        (try dsimp only at hSw)
        go_simp
        try (with_reducible rfl)
      (try simp only [Act.put, List.getElem_toArray, List.getElem_cons_succ, List.getElem_cons_zero, List.setIfInBounds_toArray, List.set_cons_zero, List.set_cons_succ])
      refine wpAnyH_take (i := 4) (v := ?tv29) rfl (by kernel_rfl) (by kernel_rfl) (by kernel_rfl) (fun _ _ _ h => h) (Or.inl ⟨by kernel_rfl, ?ty29⟩) (by assumption) ?tr29
      case ty29 =>
        intro w hSw
        (try dsimp only at hSw)
        go_simp
        try (with_reducible rfl)
      (try simp only [Act.put, List.getElem_toArray, List.getElem_cons_succ, List.getElem_cons_zero, List.setIfInBounds_toArray, List.set_cons_zero, List.set_cons_succ])
      refine wpAnyH_take (i := 5) (v := ?tv30) rfl (by kernel_rfl) (by kernel_rfl) (by kernel_rfl) (fun _ _ _ h => h) (Or.inl ⟨by kernel_rfl, ?ty30⟩) (by assumption) ?tr30
      case ty30 =>
        intro w hSw
        (try dsimp only at hSw)
        go_simp
        try (with_reducible rfl)
      (try simp only [Act.put, List.getElem_toArray, List.getElem_cons_succ, List.getElem_cons_zero, List.setIfInBounds_toArray, List.set_cons_zero, List.set_cons_succ])
      refine wpAnyH_take (i := 6) (v := ?tv31) rfl (by kernel_rfl) (by kernel_rfl) (by kernel_rfl) (fun _ _ _ h => h) (Or.inl ⟨by kernel_rfl, ?ty31⟩) (by assumption) ?tr31
      case ty31 =>
        intro w hSw
        (try dsimp only at hSw)
        go_simp
        try (with_reducible rfl)
      (try simp only [Act.put, List.getElem_toArray, List.getElem_cons_succ, List.getElem_cons_zero, List.setIfInBounds_toArray, List.set_cons_zero, List.set_cons_succ])
      refine wpAnyH_take (i := 7) (v := ?tv32) rfl (by kernel_rfl) (by kernel_rfl) (by kernel_rfl) (fun _ _ _ h => h) (Or.inl ⟨by kernel_rfl, ?ty32⟩) (by assumption) ?tr32
      case ty32 =>
        intro w hSw
        (try dsimp only at hSw)
        go_simp
        try (with_reducible rfl)
      (try simp only [Act.put, List.getElem_toArray, List.getElem_cons_succ, List.getElem_cons_zero, List.setIfInBounds_toArray, List.set_cons_zero, List.set_cons_succ])
      refine wpAnyH_take (i := 9) (v := ?tv33) rfl (by kernel_rfl) (by kernel_rfl) (by kernel_rfl) (fun _ _ _ h => h) (Or.inl ⟨by kernel_rfl, ?ty33⟩) (by assumption) ?tr33
      case ty33 =>
        intro w hSw
        (try dsimp only at hSw)
        go_simp
        try (with_reducible rfl)
      (try simp only [Act.put, List.getElem_toArray, List.getElem_cons_succ, List.getElem_cons_zero, List.setIfInBounds_toArray, List.set_cons_zero, List.set_cons_succ])
      refine wpAnyH_ready (rs := [8]) (by kernel_rfl) (by simp) ?_
      refine AllReadyH.cons rfl (fun K hK => ?_) AllReadyH.nil
      go_simp
      (go_at_call 11; refine (HTo.out _).mono ?_; rintro e w1 ⟨rfl, hb1⟩)
      go_wp2_with (fail)
      refine hK.out _ _ ?_ (fun hHeld => ?_)
      · (go_split_ands; exact held4 he h4 hbV ob lb nb fb (by assumption) hb1)
      clear hK K
      (try simp only [Act.put, List.getElem_toArray, List.getElem_cons_succ, List.getElem_cons_zero, List.setIfInBounds_toArray, List.set_cons_zero, List.set_cons_succ])
      refine wpAnyH_ready (rs := [10]) (by kernel_rfl) (by simp) ?_
      refine AllReadyH.cons rfl (fun K hK => ?_) AllReadyH.nil
      go_simp
      (go_at_call 11; refine (HTl.out _).mono ?_; rintro e w1 ⟨rfl, hb1⟩)
      go_wp2_with (fail)
      refine hK.out _ _ ?_ (fun hHeld => ?_)
      · (go_split_ands; exact held4 he h4 hbV ob lb nb fb (by assumption) hb1)
      clear hK K
      (try simp only [Act.put, List.getElem_toArray, List.getElem_cons_succ, List.getElem_cons_zero, List.setIfInBounds_toArray, List.set_cons_zero, List.set_cons_succ])
      refine wpAnyH_take (i := 11) (v := ?tv34) rfl (by kernel_rfl) (by kernel_rfl) (by kernel_rfl) (fun _ _ _ h => h) (Or.inl ⟨by kernel_rfl, ?ty34⟩) (by assumption) ?tr34
      case ty34 =>
        intro w hSw
        (try dsimp only at hSw)
        go_simp
        try (with_reducible rfl)
      (try simp only [Act.put, List.getElem_toArray, List.getElem_cons_succ, List.getElem_cons_zero, List.setIfInBounds_toArray, List.set_cons_zero, List.set_cons_succ])
      refine wpAnyH_take (i := 12) (v := ?tv35) rfl (by kernel_rfl) (by kernel_rfl) (by kernel_rfl) (fun _ _ _ h => h) (Or.inl ⟨by kernel_rfl, ?ty35⟩) (by assumption) ?tr35
      case ty35 =>
        intro w hSw
        (try dsimp only at hSw)
        go_simp
        try (with_reducible rfl)
      (try simp only [Act.put, List.getElem_toArray, List.getElem_cons_succ, List.getElem_cons_zero, List.setIfInBounds_toArray, List.set_cons_zero, List.set_cons_succ])
      refine wpAnyH_take (i := 13) (v := ?tv36) rfl (by kernel_rfl) (by kernel_rfl) (by kernel_rfl) (fun _ _ _ h => h) (Or.inl ⟨by kernel_rfl, ?ty36⟩) (by assumption) ?tr36
      case ty36 =>
        intro w hSw
        (try dsimp only at hSw)
        go_simp
        try (with_reducible rfl)
      (try simp only [Act.put, List.getElem_toArray, List.getElem_cons_succ, List.getElem_cons_zero, List.setIfInBounds_toArray, List.set_cons_zero, List.set_cons_succ])
      refine wpAnyH_take (i := 14) (v := ?tv37) rfl (by kernel_rfl) (by kernel_rfl) (by kernel_rfl) (fun _ _ _ h => h) (Or.inl ⟨by kernel_rfl, ?ty37⟩) (by assumption) ?tr37
      case ty37 =>
        intro w hSw
        (try dsimp only at hSw)
        go_simp
        try (with_reducible rfl)
      (try simp only [Act.put, List.getElem_toArray, List.getElem_cons_succ, List.getElem_cons_zero, List.setIfInBounds_toArray, List.set_cons_zero, List.set_cons_succ])
      refine wpAnyH_take (i := 15) (v := ?tv38) rfl (by kernel_rfl) (by kernel_rfl) (by kernel_rfl) (fun _ _ _ h => h) (Or.inl ⟨by kernel_rfl, ?ty38⟩) (by assumption) ?tr38
      case ty38 =>
        intro w hSw
        (try dsimp only at hSw)
        go_simp
        try (with_reducible rfl)
      (try simp only [Act.put, List.getElem_toArray, List.getElem_cons_succ, List.getElem_cons_zero, List.setIfInBounds_toArray, List.set_cons_zero, List.set_cons_succ])
      refine wpAnyH_take (i := 16) (v := ?tv39) rfl (by kernel_rfl) (by kernel_rfl) (by kernel_rfl) (fun _ _ _ h => h) (Or.inl ⟨by kernel_rfl, ?ty39⟩) (by assumption) ?tr39
      case ty39 =>
        intro w hSw
        (try dsimp only at hSw)
        go_simp
        try (with_reducible rfl)
      (try simp only [Act.put, List.getElem_toArray, List.getElem_cons_succ, List.getElem_cons_zero, List.setIfInBounds_toArray, List.set_cons_zero, List.set_cons_succ])
      refine wpAnyH_take (i := 17) (v := ?tv40) rfl (by kernel_rfl) (by kernel_rfl) (by kernel_rfl) (fun _ _ _ h => h) (Or.inl ⟨by kernel_rfl, ?ty40⟩) (by assumption) ?tr40
      case ty40 =>
        intro w hSw
        (try dsimp only at hSw)
        go_simp
        try (with_reducible rfl)
      (try simp only [Act.put, List.getElem_toArray, List.getElem_cons_succ, List.getElem_cons_zero, List.setIfInBounds_toArray, List.set_cons_zero, List.set_cons_succ])
      refine wpAnyH_take (i := 18) (v := ?tv41) rfl (by kernel_rfl) (by kernel_rfl) (by kernel_rfl) (fun _ _ _ h => h) (Or.inl ⟨by kernel_rfl, ?ty41⟩) (by assumption) ?tr41
      case ty41 =>
        intro w hSw
        (try dsimp only at hSw)
        go_simp
        try (with_reducible rfl)
      (try simp only [Act.put, List.getElem_toArray, List.getElem_cons_succ, List.getElem_cons_zero, List.setIfInBounds_toArray, List.set_cons_zero, List.set_cons_succ])
      refine wpAnyH_take (i := 19) (v := ?tv42) rfl (by kernel_rfl) (by kernel_rfl) (by kernel_rfl) (fun _ _ _ h => h) (Or.inl ⟨by kernel_rfl, ?ty42⟩) (by assumption) ?tr42
      case ty42 =>
        intro w hSw
        (try dsimp only at hSw)
        go_simp
        try (with_reducible rfl)
      (try simp only [Act.put, List.getElem_toArray, List.getElem_cons_succ, List.getElem_cons_zero, List.setIfInBounds_toArray, List.set_cons_zero, List.set_cons_succ])
      refine wpAnyH_take (i := 20) (v := ?tv43) rfl (by kernel_rfl) (by kernel_rfl) (by kernel_rfl) (fun _ _ _ h => h) (Or.inl ⟨by kernel_rfl, ?ty43⟩) (by assumption) ?tr43
      case ty43 =>
        intro w hSw
        (try dsimp only at hSw)
        go_simp
        try (with_reducible rfl)
      (try simp only [Act.put, List.getElem_toArray, List.getElem_cons_succ, List.getElem_cons_zero, List.setIfInBounds_toArray, List.set_cons_zero, List.set_cons_succ])
      refine wpAnyH_take (i := 21) (v := undef) rfl (by kernel_rfl) (by kernel_rfl) (by kernel_rfl) (fun _ _ _ h => h) (Or.inr ⟨by kernel_rfl, rfl⟩) (by assumption) ?_
      (try simp only [Act.put, List.getElem_toArray, List.getElem_cons_succ, List.getElem_cons_zero, List.setIfInBounds_toArray, List.set_cons_zero, List.set_cons_succ])
      refine wpAnyH_take (i := 22) (v := undef) rfl (by kernel_rfl) (by kernel_rfl) (by kernel_rfl) (fun _ _ _ h => h) (Or.inr ⟨by kernel_rfl, rfl⟩) (by assumption) ?_
      (try simp only [Act.put, List.getElem_toArray, List.getElem_cons_succ, List.getElem_cons_zero, List.setIfInBounds_toArray, List.set_cons_zero, List.set_cons_succ])
      refine wpAnyH_take (i := 23) (v := undef) rfl (by kernel_rfl) (by kernel_rfl) (by kernel_rfl) (fun _ _ _ h => h) (Or.inr ⟨by kernel_rfl, rfl⟩) (by assumption) ?_
      (try simp only [Act.put, List.getElem_toArray, List.getElem_cons_succ, List.getElem_cons_zero, List.setIfInBounds_toArray, List.set_cons_zero, List.set_cons_succ])
      refine wpAnyH_take (i := 24) (v := ?tv44) rfl (by kernel_rfl) (by kernel_rfl) (by kernel_rfl) (fun _ _ _ h => h) (Or.inl ⟨by kernel_rfl, ?ty44⟩) (by assumption) ?tr44
      case ty44 =>
        intro w hSw
        (try dsimp only at hSw)
        go_simp
        try (with_reducible rfl)
      (try simp only [Act.put, List.getElem_toArray, List.getElem_cons_succ, List.getElem_cons_zero, List.setIfInBounds_toArray, List.set_cons_zero, List.set_cons_succ])
      refine wpAnyH_take (i := 25) (v := ?tv45) rfl (by kernel_rfl) (by kernel_rfl) (by kernel_rfl) (fun _ _ _ h => h) (Or.inl ⟨by kernel_rfl, ?ty45⟩) (by assumption) ?tr45
      case ty45 =>
        intro w hSw
        (try dsimp only at hSw)
        go_simp
        try (with_reducible rfl)
      (try simp only [Act.put, List.getElem_toArray, List.getElem_cons_succ, List.getElem_cons_zero, List.setIfInBounds_toArray, List.set_cons_zero, List.set_cons_succ])
      refine wpAnyH_take (i := 26) (v := undef) rfl (by kernel_rfl) (by kernel_rfl) (by kernel_rfl) (fun _ _ _ h => h) (Or.inr ⟨by kernel_rfl, rfl⟩) (by assumption) ?_
      (try simp only [Act.put, List.getElem_toArray, List.getElem_cons_succ, List.getElem_cons_zero, List.setIfInBounds_toArray, List.set_cons_zero, List.set_cons_succ])
      refine wpAnyH_take (i := 27) (v := undef) rfl (by kernel_rfl) (by kernel_rfl) (by kernel_rfl) (fun _ _ _ h => h) (Or.inr ⟨by kernel_rfl, rfl⟩) (by assumption) ?_
      (try simp only [Act.put, List.getElem_toArray, List.getElem_cons_succ, List.getElem_cons_zero, List.setIfInBounds_toArray, List.set_cons_zero, List.set_cons_succ])
      refine wpAnyH_take (i := 28) (v := undef) rfl (by kernel_rfl) (by kernel_rfl) (by kernel_rfl) (fun _ _ _ h => h) (Or.inr ⟨by kernel_rfl, rfl⟩) (by assumption) ?_
      (try simp only [Act.put, List.getElem_toArray, List.getElem_cons_succ, List.getElem_cons_zero, List.setIfInBounds_toArray, List.set_cons_zero, List.set_cons_succ])
      refine wpAnyH_take (i := 29) (v := ?tv46) rfl (by kernel_rfl) (by kernel_rfl) (by kernel_rfl) (fun _ _ _ h => h) (Or.inl ⟨by kernel_rfl, ?ty46⟩) (by assumption) ?tr46
      case ty46 =>
        intro w hSw
        (try dsimp only at hSw)
        go_simp
        try (with_reducible rfl)
      (try simp only [Act.put, List.getElem_toArray, List.getElem_cons_succ, List.getElem_cons_zero, List.setIfInBounds_toArray, List.set_cons_zero, List.set_cons_succ])
      refine wpAnyH_take (i := 30) (v := ?tv47) rfl (by kernel_rfl) (by kernel_rfl) (by kernel_rfl) (fun _ _ _ h => h) (Or.inl ⟨by kernel_rfl, ?ty47⟩) (by assumption) ?tr47
      case ty47 =>
        intro w hSw
        (try dsimp only at hSw)
        go_simp
        try (with_reducible rfl)
      (try simp only [Act.put, List.getElem_toArray, List.getElem_cons_succ, List.getElem_cons_zero, List.setIfInBounds_toArray, List.set_cons_zero, List.set_cons_succ])
      refine wpAnyH_take (i := 31) (v := undef) rfl (by kernel_rfl) (by kernel_rfl) (by kernel_rfl) (fun _ _ _ h => h) (Or.inr ⟨by kernel_rfl, rfl⟩) (by assumption) ?_
      (try simp only [Act.put, List.getElem_toArray, List.getElem_cons_succ, List.getElem_cons_zero, List.setIfInBounds_toArray, List.set_cons_zero, List.set_cons_succ])
      refine wpAnyH_take (i := 32) (v := undef) rfl (by kernel_rfl) (by kernel_rfl) (by kernel_rfl) (fun _ _ _ h => h) (Or.inr ⟨by kernel_rfl, rfl⟩) (by assumption) ?_
      (try simp only [Act.put, List.getElem_toArray, List.getElem_cons_succ, List.getElem_cons_zero, List.setIfInBounds_toArray, List.set_cons_zero, List.set_cons_succ])
      refine wpAnyH_take (i := 33) (v := ?tv48) rfl (by kernel_rfl) (by kernel_rfl) (by kernel_rfl) (fun _ _ _ h => h) (Or.inl ⟨by kernel_rfl, ?ty48⟩) (by assumption) ?tr48
      case ty48 =>
        intro w hSw
        (try dsimp only at hSw)
        go_simp
        try (with_reducible rfl)
      (try simp only [Act.put, List.getElem_toArray, List.getElem_cons_succ, List.getElem_cons_zero, List.setIfInBounds_toArray, List.set_cons_zero, List.set_cons_succ])
      refine wpAnyH_take (i := 34) (v := ?tv49) rfl (by kernel_rfl) (by kernel_rfl) (by kernel_rfl) (fun _ _ _ h => h) (Or.inl ⟨by kernel_rfl, ?ty49⟩) (by assumption) ?tr49
      case ty49 =>
        intro w hSw
        (try dsimp only at hSw)
        go_simp
        try (with_reducible rfl)
      (try simp only [Act.put, List.getElem_toArray, List.getElem_cons_succ, List.getElem_cons_zero, List.setIfInBounds_toArray, List.set_cons_zero, List.set_cons_succ])
      refine wpAnyH_take (i := 35) (v := ?tv50) rfl (by kernel_rfl) (by kernel_rfl) (by kernel_rfl) (fun _ _ _ h => h) (Or.inl ⟨by kernel_rfl, ?ty50⟩) (by assumption) ?tr50
      case ty50 =>
        intro w hSw
        (try dsimp only at hSw)
        go_simp
        try (with_reducible rfl)
      (try simp only [Act.put, List.getElem_toArray, List.getElem_cons_succ, List.getElem_cons_zero, List.setIfInBounds_toArray, List.set_cons_zero, List.set_cons_succ])
      refine wpAnyH_done (by kernel_rfl) ?_ _
      go_wp2
      go_ret
      exact ⟨rfl, hbV.trans (hHeld.2.2.1.mono hbV.size)⟩
    case pos =>
      have g5' : (byt e5).toList.isEmpty = true := by rw [byt_empty]; exact decide_eq_true g5
      clear g4 g5
      refine wp_region_held_drew (S := fun w' => Env w' ∧ 4 ≤ w'.heap.size ∧ Below V.heap.size V w' ∧ w'.cell? ⟨m7, 0, none⟩ = some (.int .i64 (Valu.truth true).k) ∧ w'.cell? ⟨m7, 1, none⟩ = some (.int .i64 (Valu.truth true).n) ∧ w'.cell? ⟨m7, 2, none⟩ = some (.string (byt (Valu.truth true).s)) ∧ w'.cell? ⟨m2, 0, none⟩ = some (.int .i64 (Valu.truth false).k) ∧ w'.cell? ⟨m2, 1, none⟩ = some (.int .i64 (Valu.truth false).n) ∧ w'.cell? ⟨m2, 2, none⟩ = some (.string (byt (Valu.truth false).s)) ∧ w'.cell? ⟨m5, 0, none⟩ = some (.int .i64 X4.k) ∧ w'.cell? ⟨m5, 1, none⟩ = some (.int .i64 X4.n) ∧ w'.cell? ⟨m5, 2, none⟩ = some (.string (byt X4.s)) ∧ w'.cell? ⟨m6, 0, none⟩ = some (.int .i64 X5.k) ∧ w'.cell? ⟨m6, 1, none⟩ = some (.int .i64 X5.n) ∧ w'.cell? ⟨m6, 2, none⟩ = some (.string (byt X5.s))) (by kernel_rfl) ?_ (fun hHeld => ?_)
      · exact held4 he h4 hbV ob lb nb fb (Below.refl _ V) (drew0 V)
      refine wpAnyH_take (i := 0) (v := ?tv51) rfl (by kernel_rfl) (by kernel_rfl) (by kernel_rfl) (fun _ _ _ h => h) (Or.inl ⟨by kernel_rfl, ?ty51⟩) (by assumption) ?tr51
      case ty51 =>
        intro w hSw
        (try dsimp only at hSw)
        go_simp
        try (with_reducible rfl)
      (try simp only [Act.put, List.getElem_toArray, List.getElem_cons_zero, List.setIfInBounds_toArray, List.set_cons_zero, List.set_cons_succ])
      refine wpAnyH_take (i := 1) (v := ?tv52) rfl (by kernel_rfl) (by kernel_rfl) (by kernel_rfl) (fun _ _ _ h => h) (Or.inl ⟨by kernel_rfl, ?ty52⟩) (by assumption) ?tr52
      case ty52 =>
        intro w hSw
        (try dsimp only at hSw)
        go_simp
        try (with_reducible rfl)
      (try simp only [Act.put, List.getElem_toArray, List.getElem_cons_succ, List.getElem_cons_zero, List.setIfInBounds_toArray, List.set_cons_zero, List.set_cons_succ])
      refine wpAnyH_take (i := 2) (v := ?tv53) rfl (by kernel_rfl) (by kernel_rfl) (by kernel_rfl) (fun _ _ _ h => h) (Or.inl ⟨by kernel_rfl, ?ty53⟩) (by assumption) ?tr53
      case ty53 =>
        intro w hSw
        (try dsimp only at hSw)
        go_simp
        try (with_reducible rfl)
      (try simp only [Act.put, List.getElem_toArray, List.getElem_cons_succ, List.getElem_cons_zero, List.setIfInBounds_toArray, List.set_cons_zero, List.set_cons_succ])
      refine wpAnyH_take (i := 3) (v := ?tv54) rfl (by kernel_rfl) (by kernel_rfl) (by kernel_rfl) (fun _ _ _ h => h) (Or.inl ⟨by kernel_rfl, ?ty54⟩) (by assumption) ?tr54
      case ty54 =>
        intro w hSw
        (try dsimp only at hSw)
        go_simp
        try (with_reducible rfl)
      (try simp only [Act.put, List.getElem_toArray, List.getElem_cons_succ, List.getElem_cons_zero, List.setIfInBounds_toArray, List.set_cons_zero, List.set_cons_succ])
      refine wpAnyH_take (i := 4) (v := ?tv55) rfl (by kernel_rfl) (by kernel_rfl) (by kernel_rfl) (fun _ _ _ h => h) (Or.inl ⟨by kernel_rfl, ?ty55⟩) (by assumption) ?tr55
      case ty55 =>
        intro w hSw
        (try dsimp only at hSw)
        go_simp
        try (with_reducible rfl)
      (try simp only [Act.put, List.getElem_toArray, List.getElem_cons_succ, List.getElem_cons_zero, List.setIfInBounds_toArray, List.set_cons_zero, List.set_cons_succ])
      refine wpAnyH_take (i := 5) (v := ?tv56) rfl (by kernel_rfl) (by kernel_rfl) (by kernel_rfl) (fun _ _ _ h => h) (Or.inl ⟨by kernel_rfl, ?ty56⟩) (by assumption) ?tr56
      case ty56 =>
        intro w hSw
        (try dsimp only at hSw)
        go_simp
        try (with_reducible rfl)
      (try simp only [Act.put, List.getElem_toArray, List.getElem_cons_succ, List.getElem_cons_zero, List.setIfInBounds_toArray, List.set_cons_zero, List.set_cons_succ])
      refine wpAnyH_take (i := 6) (v := ?tv57) rfl (by kernel_rfl) (by kernel_rfl) (by kernel_rfl) (fun _ _ _ h => h) (Or.inl ⟨by kernel_rfl, ?ty57⟩) (by assumption) ?tr57
      case ty57 =>
        intro w hSw
        (try dsimp only at hSw)
        go_simp
        try (with_reducible rfl)
      (try simp only [Act.put, List.getElem_toArray, List.getElem_cons_succ, List.getElem_cons_zero, List.setIfInBounds_toArray, List.set_cons_zero, List.set_cons_succ])
      refine wpAnyH_take (i := 7) (v := ?tv58) rfl (by kernel_rfl) (by kernel_rfl) (by kernel_rfl) (fun _ _ _ h => h) (Or.inl ⟨by kernel_rfl, ?ty58⟩) (by assumption) ?tr58
      case ty58 =>
        intro w hSw
        (try dsimp only at hSw)
        go_simp
        try (with_reducible rfl)
      (try simp only [Act.put, List.getElem_toArray, List.getElem_cons_succ, List.getElem_cons_zero, List.setIfInBounds_toArray, List.set_cons_zero, List.set_cons_succ])
      refine wpAnyH_take (i := 9) (v := ?tv59) rfl (by kernel_rfl) (by kernel_rfl) (by kernel_rfl) (fun _ _ _ h => h) (Or.inl ⟨by kernel_rfl, ?ty59⟩) (by assumption) ?tr59
      case ty59 =>
        intro w hSw
        (try dsimp only at hSw)
        go_simp
        try (with_reducible rfl)
      (try simp only [Act.put, List.getElem_toArray, List.getElem_cons_succ, List.getElem_cons_zero, List.setIfInBounds_toArray, List.set_cons_zero, List.set_cons_succ])
      refine wpAnyH_ready (rs := [8]) (by kernel_rfl) (by simp) ?_
      refine AllReadyH.cons rfl (fun K hK => ?_) AllReadyH.nil
      go_simp
      (go_at_call 11; refine (HTo.out _).mono ?_; rintro e w1 ⟨rfl, hb1⟩)
      go_wp2_with (fail)
      refine hK.out _ _ ?_ (fun hHeld => ?_)
      · (go_split_ands; exact held4 he h4 hbV ob lb nb fb (by assumption) hb1)
      clear hK K
      (try simp only [Act.put, List.getElem_toArray, List.getElem_cons_succ, List.getElem_cons_zero, List.setIfInBounds_toArray, List.set_cons_zero, List.set_cons_succ])
      refine wpAnyH_ready (rs := [10]) (by kernel_rfl) (by simp) ?_
      refine AllReadyH.cons rfl (fun K hK => ?_) AllReadyH.nil
      go_simp
      (go_at_call 11; refine (HTl.out _).mono ?_; rintro e w1 ⟨rfl, hb1⟩)
      go_wp2_with (fail)
      refine hK.out _ _ ?_ (fun hHeld => ?_)
      · (go_split_ands; exact held4 he h4 hbV ob lb nb fb (by assumption) hb1)
      clear hK K
      (try simp only [Act.put, List.getElem_toArray, List.getElem_cons_succ, List.getElem_cons_zero, List.setIfInBounds_toArray, List.set_cons_zero, List.set_cons_succ])
      refine wpAnyH_take (i := 11) (v := ?tv60) rfl (by kernel_rfl) (by kernel_rfl) (by kernel_rfl) (fun _ _ _ h => h) (Or.inl ⟨by kernel_rfl, ?ty60⟩) (by assumption) ?tr60
      case ty60 =>
        intro w hSw
        (try dsimp only at hSw)
        go_simp
        try (with_reducible rfl)
      (try simp only [Act.put, List.getElem_toArray, List.getElem_cons_succ, List.getElem_cons_zero, List.setIfInBounds_toArray, List.set_cons_zero, List.set_cons_succ])
      refine wpAnyH_take (i := 12) (v := ?tv61) rfl (by kernel_rfl) (by kernel_rfl) (by kernel_rfl) (fun _ _ _ h => h) (Or.inl ⟨by kernel_rfl, ?ty61⟩) (by assumption) ?tr61
      case ty61 =>
        intro w hSw
        (try dsimp only at hSw)
        go_simp
        try (with_reducible rfl)
      (try simp only [Act.put, List.getElem_toArray, List.getElem_cons_succ, List.getElem_cons_zero, List.setIfInBounds_toArray, List.set_cons_zero, List.set_cons_succ])
      refine wpAnyH_take (i := 13) (v := ?tv62) rfl (by kernel_rfl) (by kernel_rfl) (by kernel_rfl) (fun _ _ _ h => h) (Or.inl ⟨by kernel_rfl, ?ty62⟩) (by assumption) ?tr62
      case ty62 =>
        intro w hSw
        (try dsimp only at hSw)
        go_simp
        try (with_reducible rfl)
      (try simp only [Act.put, List.getElem_toArray, List.getElem_cons_succ, List.getElem_cons_zero, List.setIfInBounds_toArray, List.set_cons_zero, List.set_cons_succ])
      refine wpAnyH_take (i := 14) (v := ?tv63) rfl (by kernel_rfl) (by kernel_rfl) (by kernel_rfl) (fun _ _ _ h => h) (Or.inl ⟨by kernel_rfl, ?ty63⟩) (by assumption) ?tr63
      case ty63 =>
        intro w hSw
        (try dsimp only at hSw)
        go_simp
        try (with_reducible rfl)
      (try simp only [Act.put, List.getElem_toArray, List.getElem_cons_succ, List.getElem_cons_zero, List.setIfInBounds_toArray, List.set_cons_zero, List.set_cons_succ])
      refine wpAnyH_take (i := 15) (v := ?tv64) rfl (by kernel_rfl) (by kernel_rfl) (by kernel_rfl) (fun _ _ _ h => h) (Or.inl ⟨by kernel_rfl, ?ty64⟩) (by assumption) ?tr64
      case ty64 =>
        intro w hSw
        (try dsimp only at hSw)
        go_simp
        try (with_reducible rfl)
      (try simp only [Act.put, List.getElem_toArray, List.getElem_cons_succ, List.getElem_cons_zero, List.setIfInBounds_toArray, List.set_cons_zero, List.set_cons_succ])
      refine wpAnyH_take (i := 16) (v := ?tv65) rfl (by kernel_rfl) (by kernel_rfl) (by kernel_rfl) (fun _ _ _ h => h) (Or.inl ⟨by kernel_rfl, ?ty65⟩) (by assumption) ?tr65
      case ty65 =>
        intro w hSw
        (try dsimp only at hSw)
        go_simp
        try (with_reducible rfl)
      (try simp only [Act.put, List.getElem_toArray, List.getElem_cons_succ, List.getElem_cons_zero, List.setIfInBounds_toArray, List.set_cons_zero, List.set_cons_succ])
      refine wpAnyH_take (i := 17) (v := ?tv66) rfl (by kernel_rfl) (by kernel_rfl) (by kernel_rfl) (fun _ _ _ h => h) (Or.inl ⟨by kernel_rfl, ?ty66⟩) (by assumption) ?tr66
      case ty66 =>
        intro w hSw
        (try dsimp only at hSw)
        go_simp
        try (with_reducible rfl)
      (try simp only [Act.put, List.getElem_toArray, List.getElem_cons_succ, List.getElem_cons_zero, List.setIfInBounds_toArray, List.set_cons_zero, List.set_cons_succ])
      refine wpAnyH_take (i := 18) (v := ?tv67) rfl (by kernel_rfl) (by kernel_rfl) (by kernel_rfl) (fun _ _ _ h => h) (Or.inl ⟨by kernel_rfl, ?ty67⟩) (by assumption) ?tr67
      case ty67 =>
        intro w hSw
        (try dsimp only at hSw)
        go_simp
        try (with_reducible rfl)
      (try simp only [Act.put, List.getElem_toArray, List.getElem_cons_succ, List.getElem_cons_zero, List.setIfInBounds_toArray, List.set_cons_zero, List.set_cons_succ])
      refine wpAnyH_take (i := 19) (v := ?tv68) rfl (by kernel_rfl) (by kernel_rfl) (by kernel_rfl) (fun _ _ _ h => h) (Or.inl ⟨by kernel_rfl, ?ty68⟩) (by assumption) ?tr68
      case ty68 =>
        intro w hSw
        (try dsimp only at hSw)
        go_simp
        try (with_reducible rfl)
      (try simp only [Act.put, List.getElem_toArray, List.getElem_cons_succ, List.getElem_cons_zero, List.setIfInBounds_toArray, List.set_cons_zero, List.set_cons_succ])
      refine wpAnyH_take (i := 20) (v := ?tv69) rfl (by kernel_rfl) (by kernel_rfl) (by kernel_rfl) (fun _ _ _ h => h) (Or.inl ⟨by kernel_rfl, ?ty69⟩) (by assumption) ?tr69
      case ty69 =>
        intro w hSw
        (try dsimp only at hSw)
        go_simp
        try (with_reducible rfl)
      (try simp only [Act.put, List.getElem_toArray, List.getElem_cons_succ, List.getElem_cons_zero, List.setIfInBounds_toArray, List.set_cons_zero, List.set_cons_succ])
      refine wpAnyH_take (i := 21) (v := ?tv70) rfl (by kernel_rfl) (by kernel_rfl) (by kernel_rfl) (fun _ _ _ h => h) (Or.inl ⟨by kernel_rfl, ?ty70⟩) (by assumption) ?tr70
      case ty70 =>
        intro w hSw
        (try dsimp only at hSw)
        go_simp
        try (with_reducible rfl)
      (try simp only [Act.put, List.getElem_toArray, List.getElem_cons_succ, List.getElem_cons_zero, List.setIfInBounds_toArray, List.set_cons_zero, List.set_cons_succ])
      refine wpAnyH_ready (rs := [22]) (by kernel_rfl) (by simp) ?_
      refine AllReadyH.cons rfl (fun K hK => ?_) AllReadyH.nil
      go_simp
      (go_at_call 11; refine (HTl.out _).mono ?_; rintro e w1 ⟨rfl, hb1⟩)
      go_wp2_with (fail)
      refine hK.out _ _ ?_ (fun hHeld => ?_)
      · (go_split_ands; exact held4 he h4 hbV ob lb nb fb (by assumption) hb1)
      clear hK K
      (try simp only [Act.put, List.getElem_toArray, List.getElem_cons_succ, List.getElem_cons_zero, List.setIfInBounds_toArray, List.set_cons_zero, List.set_cons_succ])
      refine wpAnyH_take (i := 23) (v := ?tv71) rfl (by kernel_rfl) (by kernel_rfl) (by kernel_rfl) (fun _ _ _ h => h) (Or.inl ⟨by kernel_rfl, ?ty71⟩) (by assumption) ?tr71
      case ty71 =>
        intro w hSw
        (try dsimp only at hSw)
        go_simp
        try (with_reducible rfl)
      (try simp only [Act.put, List.getElem_toArray, List.getElem_cons_succ, List.getElem_cons_zero, List.setIfInBounds_toArray, List.set_cons_zero, List.set_cons_succ])
      refine wpAnyH_take (i := 24) (v := ?tv72) rfl (by kernel_rfl) (by kernel_rfl) (by kernel_rfl) (fun _ _ _ h => h) (Or.inl ⟨by kernel_rfl, ?ty72⟩) (by assumption) ?tr72
      case ty72 =>
        intro w hSw
        (try dsimp only at hSw)
        go_simp
        try (with_reducible rfl)
      (try simp only [Act.put, List.getElem_toArray, List.getElem_cons_succ, List.getElem_cons_zero, List.setIfInBounds_toArray, List.set_cons_zero, List.set_cons_succ])
      refine wpAnyH_take (i := 25) (v := ?tv73) rfl (by kernel_rfl) (by kernel_rfl) (by kernel_rfl) (fun _ _ _ h => h) (Or.inl ⟨by kernel_rfl, ?ty73⟩) (by assumption) ?tr73
      case ty73 =>
        intro w hSw
        (try dsimp only at hSw)
        go_simp
        try (with_reducible rfl)
      (try simp only [Act.put, List.getElem_toArray, List.getElem_cons_succ, List.getElem_cons_zero, List.setIfInBounds_toArray, List.set_cons_zero, List.set_cons_succ])
      refine wpAnyH_take (i := 26) (v := undef) rfl (by kernel_rfl) (by kernel_rfl) (by kernel_rfl) (fun _ _ _ h => h) (Or.inr ⟨by kernel_rfl, rfl⟩) (by assumption) ?_
      (try simp only [Act.put, List.getElem_toArray, List.getElem_cons_succ, List.getElem_cons_zero, List.setIfInBounds_toArray, List.set_cons_zero, List.set_cons_succ])
      refine wpAnyH_take (i := 27) (v := undef) rfl (by kernel_rfl) (by kernel_rfl) (by kernel_rfl) (fun _ _ _ h => h) (Or.inr ⟨by kernel_rfl, rfl⟩) (by assumption) ?_
      (try simp only [Act.put, List.getElem_toArray, List.getElem_cons_succ, List.getElem_cons_zero, List.setIfInBounds_toArray, List.set_cons_zero, List.set_cons_succ])
      refine wpAnyH_take (i := 28) (v := undef) rfl (by kernel_rfl) (by kernel_rfl) (by kernel_rfl) (fun _ _ _ h => h) (Or.inr ⟨by kernel_rfl, rfl⟩) (by assumption) ?_
      (try simp only [Act.put, List.getElem_toArray, List.getElem_cons_succ, List.getElem_cons_zero, List.setIfInBounds_toArray, List.set_cons_zero, List.set_cons_succ])
      refine wpAnyH_take (i := 29) (v := ?tv74) rfl (by kernel_rfl) (by kernel_rfl) (by kernel_rfl) (fun _ _ _ h => h) (Or.inl ⟨by kernel_rfl, ?ty74⟩) (by assumption) ?tr74
      case ty74 =>
        intro w hSw
        (try dsimp only at hSw)
        go_simp
        try (with_reducible rfl)
      (try simp only [Act.put, List.getElem_toArray, List.getElem_cons_succ, List.getElem_cons_zero, List.setIfInBounds_toArray, List.set_cons_zero, List.set_cons_succ])
      refine wpAnyH_take (i := 30) (v := ?tv75) rfl (by kernel_rfl) (by kernel_rfl) (by kernel_rfl) (fun _ _ _ h => h) (Or.inl ⟨by kernel_rfl, ?ty75⟩) (by assumption) ?tr75
      case ty75 =>
        intro w hSw
        (try dsimp only at hSw)
        go_simp
        try (with_reducible rfl)
      (try simp only [Act.put, List.getElem_toArray, List.getElem_cons_succ, List.getElem_cons_zero, List.setIfInBounds_toArray, List.set_cons_zero, List.set_cons_succ])
      refine wpAnyH_take (i := 31) (v := undef) rfl (by kernel_rfl) (by kernel_rfl) (by kernel_rfl) (fun _ _ _ h => h) (Or.inr ⟨by kernel_rfl, rfl⟩) (by assumption) ?_
      (try simp only [Act.put, List.getElem_toArray, List.getElem_cons_succ, List.getElem_cons_zero, List.setIfInBounds_toArray, List.set_cons_zero, List.set_cons_succ])
      refine wpAnyH_take (i := 32) (v := undef) rfl (by kernel_rfl) (by kernel_rfl) (by kernel_rfl) (fun _ _ _ h => h) (Or.inr ⟨by kernel_rfl, rfl⟩) (by assumption) ?_
      (try simp only [Act.put, List.getElem_toArray, List.getElem_cons_succ, List.getElem_cons_zero, List.setIfInBounds_toArray, List.set_cons_zero, List.set_cons_succ])
      refine wpAnyH_take (i := 33) (v := ?tv76) rfl (by kernel_rfl) (by kernel_rfl) (by kernel_rfl) (fun _ _ _ h => h) (Or.inl ⟨by kernel_rfl, ?ty76⟩) (by assumption) ?tr76
      case ty76 =>
        intro w hSw
        (try dsimp only at hSw)
        go_simp
        try (with_reducible rfl)
      (try simp only [Act.put, List.getElem_toArray, List.getElem_cons_succ, List.getElem_cons_zero, List.setIfInBounds_toArray, List.set_cons_zero, List.set_cons_succ])
      refine wpAnyH_take (i := 34) (v := ?tv77) rfl (by kernel_rfl) (by kernel_rfl) (by kernel_rfl) (fun _ _ _ h => h) (Or.inl ⟨by kernel_rfl, ?ty77⟩) (by assumption) ?tr77
      case ty77 =>
        intro w hSw
        (try dsimp only at hSw)
        go_simp
        try (with_reducible rfl)
      (try simp only [Act.put, List.getElem_toArray, List.getElem_cons_succ, List.getElem_cons_zero, List.setIfInBounds_toArray, List.set_cons_zero, List.set_cons_succ])
      refine wpAnyH_take (i := 35) (v := ?tv78) rfl (by kernel_rfl) (by kernel_rfl) (by kernel_rfl) (fun _ _ _ h => h) (Or.inl ⟨by kernel_rfl, ?ty78⟩) (by assumption) ?tr78
      case ty78 =>
        intro w hSw
        (try dsimp only at hSw)
        go_simp
        try (with_reducible rfl)
      (try simp only [Act.put, List.getElem_toArray, List.getElem_cons_succ, List.getElem_cons_zero, List.setIfInBounds_toArray, List.set_cons_zero, List.set_cons_succ])
      refine wpAnyH_done (by kernel_rfl) ?_ _
      go_wp2
      go_ret
      exact ⟨rfl, hbV.trans (hHeld.2.2.1.mono hbV.size)⟩
end Go.Proofs.YtollnadeaffomaaDoor
