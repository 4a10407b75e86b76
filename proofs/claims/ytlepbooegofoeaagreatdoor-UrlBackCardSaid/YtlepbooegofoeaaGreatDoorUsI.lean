/-
  The walk of UrlBack. Conditions: the library's variables hold what they hold.
-/
import Derived.Test.YtlepbooegofoeaaGreatDoorUsH
namespace Go.Proofs.YtlepbooegofoeaaGreatDoor
set_option linter.unusedSimpArgs false
set_option linter.unusedVariables false
open Go.RowKit

theorem write_two {u : Urly.U} (h : Urly.check u = 2) : Urly.write u = .error 2 := by unfold Urly.write; rw [h]; rfl
theorem write_text {u : Urly.U} (h : Urly.check u = 0) : Urly.write u = .ok (Urly.text u) := by unfold Urly.write; rw [h]; rfl
set_option maxRecDepth 100000 in
set_option maxHeartbeats 8000000 in
theorem back_walk (s : List UInt8) (w : World) (he : Env w) :
    Calls Tryz.prog 9 #[.string (byt s)] w (TruthOut w) := by
  have HPR : Hid (∀ s w1, Below w.heap.size w w1 → Calls Tryz.prog 24 #[.string (byt s)] w1 (ParseOut s w1)) := Lib.hid (fun s w1 h1 => parse_any s w1 (he.below h1))
  have HL : Hid (∀ w1, Below w.heap.size w w1 → Calls Tryz.prog 13 #[] w1 (TruthOut w1)) := Lib.hid (fun w1 h1 => urlLives_true w1 (he.below h1))
  have HWR : Hid (∀ (u : Urly.U) (v : Value) w1, Urly.Good u → Urly.Sz u → Below w.heap.size w w1 → Rd w1 1 (txts u.path) u.path.length v → Calls Tryz.prog 28 #[.agg (ucells u v)] w1 (WriteOut (Urly.write u) w1)) := Lib.hid (fun u v w1 hg hu h1 h2 => uwrite_any u v w1 hg hu (he.below h1) h2)
  have HCK : Hid (∀ (u : Urly.U) (v : Value) w1, Urly.Good u → Urly.Sz u → Below w.heap.size w w1 → Rd w1 1 (txts u.path) u.path.length v → Calls Tryz.prog 29 #[.agg (ucells u v)] w1 (NumOut (Urly.check u) w1)) := Lib.hid (fun u v w1 hg hu h1 h2 => ucheck_any u v w1 hg hu (he.below h1) h2)
  have HOK : Hid (∀ (w1 : World), Calls Tryz.prog 21 #[.slice (some ⟨w1.heap.size, 0, none⟩) 3 3] (w1.alloc (.cells #[.int .i64 0, .int .i64 0, .int .i64 0] 23)) fun e w' => e = .returned (.bool true) ∧ Below w1.heap.size w1 w') := Lib.hid (fun w1 => (ok_any [0, 0, 0] w1.heap.size _ (Box.new w1 _ _) (by simp)).mono fun e w' ⟨h1, h2⟩ => ⟨h1, by rw [h2]; exact below1 w1 _⟩)
  have HP1 := Lib.hid (HPR.out s w (Below.refl _ _))
  clear he
  go_enter Tryz.func9, Tryz.ntmps9
  go_wp2_with (fail)
  refine HP1.out.mono ?_
  rintro e w1 (⟨u, v, hp, rfl, hown, hlen, hw1⟩ | ⟨n, hp, rfl, hw1⟩)
  rotate_left
  · have HW1 := Lib.hid hw1
    have hn0 : n ≠ 0 := parse_no0 hp
    obtain ⟨m, hm⟩ : ∃ m : Int, (n : Int) = m := ⟨_, rfl⟩
    have hm0 : (m != 0) = true := by rw [bne, beq_no (by omega)]; rfl
    rw [hm]
    clear hm hn0 hp hw1 HP1
    go_wp2_with (refine wpList_store_box rfl 47 (.tmp 3) (.tmp 14) rfl w1.heap.size uzero rfl rfl 47 _ (Box.new w1 _ _) info_url rfl uzero_one ?_; intro w3 hx3 hu3 hz3; have HZ3 := Lib.hid hz3; clear hz3)
    have hb13 : Below w1.heap.size w1 w3 := (below1 w1 _).trans (hu3.own (Nat.le_refl _) (by simp))
    have HW3 : Hid (Below w.heap.size w w3) := Lib.hid (HW1.out.trans (hb13.mono HW1.out.size))
    clear hb13 hu3 hx3 HZ3
    refine (HL.out _ HW3.out).mono ?_
    rintro e w4 ⟨rfl, hw4⟩
    have HW4 := Lib.hid (HW3.out.trans (hw4.mono HW3.out.size))
    clear hw4
    go_wp2_with (fail)
    refine (HL.out _ HW4.out).mono ?_
    rintro e w5 ⟨rfl, hw5⟩
    have HW5 := Lib.hid (HW4.out.trans (hw5.mono HW4.out.size))
    clear hw5
    go_wp2
    go_ret
    exact ⟨rfl, HW5.out⟩
  have HW1 := Lib.hid hw1
  have HGD := Lib.hid (Urly.parse_good hp).1
  have HSZ := Lib.hid (Urly.parse_size hp).1
  have HBL := Lib.hid (Urly.back_law hp)
  obtain ⟨A, cap, rfl⟩ := own_slice hown
  have HRD := Lib.hid (Rd.own hown)
  have h12 := ucells_one u A u.path.length cap
  have hisz : (Tryz.prog.info? 47).map (·.size) = some (ucells u (.slice A u.path.length cap)).size := info_url
  have hcsz : (8 : Nat) = (ucells u (.slice A u.path.length cap)).size := rfl
  have HWU := Lib.hid (fun w1 => HWR.out u (.slice A u.path.length cap) w1 HGD.out HSZ.out)
  have HCU := Lib.hid (fun w1 => HCK.out u (.slice A u.path.length cap) w1 HGD.out HSZ.out)
  obtain ⟨cs, hcs⟩ : ∃ cs, ucells u (.slice A u.path.length cap) = cs := ⟨_, rfl⟩
  rw [hcs] at h12 hisz hcsz HWU HCU ⊢
  have HCS := Lib.hid hcs
  have HCZ := Lib.hid hcsz
  clear hcs hcsz hw1 hown hlen hp HP1 HCK
  go_wp2_with (refine wpList_store_box rfl 47 (.tmp 3) (.tmp 14) rfl w1.heap.size cs rfl rfl 47 _ (Box.new w1 _ _) hisz (by rw [← HCZ.out]; rfl) h12 ?_; intro w2 hx2 hu2 hz2; have HZ2 := Lib.hid hz2; clear hz2)
  have hb12 : Below w1.heap.size w1 w2 := (below1 w1 _).trans (hu2.own (Nat.le_refl _) (by simp))
  have HW2 : Hid (Below w.heap.size w w2) := Lib.hid (HW1.out.trans (hb12.mono HW1.out.size))
  have HRD2 := Lib.hid (HRD.out.below hb12)
  have HX2 := Lib.hid hx2
  clear hb12 hu2 hx2 HZ2 HRD
  refine (HL.out _ HW2.out).mono ?_
  rintro e w3 ⟨rfl, hw3⟩
  have HW3 := Lib.hid (HW2.out.trans (hw3.mono HW2.out.size))
  have HRD3 := Lib.hid (HRD2.out.below hw3)
  have HX3 := Lib.hid (HX2.out.below hw3 HX2.out.lt)
  clear hw3 HX2 HRD2
  have HWA := Lib.hid (HWU.out w3 HW3.out HRD3.out)
  by_cases hlong : 500 < (Urly.text u).length
  · obtain ⟨hc, hwr⟩ := HBL.out.1 hlong
    unfold WriteOut at HWA
    rw [hwr] at HWA
    rw [hc] at HCU
    clear hlong hc hwr
    go_wp2_with (refine wpList_load_row rfl 47 (.tmp 3) rfl w1.heap.size rfl _ cs (0, 0) _ HX3.out Tryz.underlying47 rfl hisz ?_)
    refine HWA.out.mono ?_
    rintro e w4 ⟨rfl, hw4⟩
    have HW4 := Lib.hid (HW3.out.trans (hw4.mono HW3.out.size))
    have HX4 := Lib.hid (HX3.out.below hw4 HX3.out.lt)
    have HC4 := Lib.hid (HCU.out _ HW4.out (HRD3.out.below hw4))
    clear hw4
    go_wp2_with (refine wpList_load_row rfl 47 (.tmp 3) rfl w1.heap.size rfl _ cs (0, 0) _ HX4.out Tryz.underlying47 rfl hisz ?_)
    refine HC4.out.mono ?_
    rintro e w5 ⟨rfl, hw5⟩
    have HW5 := Lib.hid (HW4.out.trans (hw5.mono HW4.out.size))
    clear hw5
    go_wp2
    go_ret
    exact ⟨by first | rfl | simp, HW5.out⟩
  · obtain ⟨hc, hwr, hpt⟩ := HBL.out.2 (by omega)
    unfold WriteOut at HWA
    rw [hwr] at HWA
    have HPT := Lib.hid hpt
    have HWW := Lib.hid hwr
    have HPX := Lib.hid (HPR.out (Urly.text u))
    obtain ⟨T, hT⟩ : ∃ T, byt (Urly.text u) = T := ⟨_, rfl⟩
    have HTT := Lib.hid hT
    rw [hT] at HPX
    simp only [hT] at HWA
    clear hlong hc hwr hpt hT HCU
    go_wp2_with (refine wpList_load_row rfl 47 (.tmp 3) rfl w1.heap.size rfl _ cs (0, 0) _ HX3.out Tryz.underlying47 rfl hisz ?_)
    refine HWA.out.mono ?_
    rintro e w4 ⟨rfl, hw4⟩
    have HW4 := Lib.hid (HW3.out.trans (hw4.mono HW3.out.size))
    have HX4 := Lib.hid (HX3.out.below hw4 HX3.out.lt)
    have HRD4 := Lib.hid (HRD3.out.below hw4)
    clear hw4 HWA HX3 HRD3
    go_wp2_with (fail)
    refine (HPX.out _ HW4.out).mono ?_
    rintro e w5 (⟨u', v', hp, rfl, hown, hlen, hw5⟩ | ⟨n, hp, _⟩)
    rotate_left
    · rw [HPT.out] at hp; cases hp
    rw [HPT.out] at hp
    injection hp with hp
    subst hp
    have HW5 := Lib.hid (HW4.out.trans (hw5.mono HW4.out.size))
    have HX5 := Lib.hid (HX4.out.below hw5 HX4.out.lt)
    have HRD5 := Lib.hid (HRD4.out.below hw5)
    obtain ⟨B, capb, rfl⟩ := own_slice hown
    have HRB := Lib.hid (Rd.own hown)
    have h12b := ucells_one u B u.path.length capb
    have hiszb : (Tryz.prog.info? 47).map (·.size) = some (ucells u (.slice B u.path.length capb)).size := info_url
    have hcszb : (8 : Nat) = (ucells u (.slice B u.path.length capb)).size := rfl
    have HWB := Lib.hid (fun w1 => HWR.out u (.slice B u.path.length capb) w1 HGD.out HSZ.out)
    obtain ⟨cb, hcb⟩ : ∃ cs, ucells u (.slice B u.path.length capb) = cs := ⟨_, rfl⟩
    rw [hcb] at h12b hiszb hcszb HWB ⊢
    have HCB := Lib.hid hcb
    have HCZB := Lib.hid hcszb
    clear hcb hcszb hw5 hown hlen HX4 HRD4
    go_wp2_with (first | (refine wpList_store_box rfl 47 (.tmp 7) (.tmp 36) rfl w5.heap.size cb rfl rfl 47 _ (Box.new w5 _ _) hiszb (by rw [← HCZB.out]; rfl) h12b ?_; intro w6 hx6 hu6 hz6; have HZ6 := Lib.hid hz6; clear hz6) | (refine wpList_load_row rfl 47 (.tmp 7) rfl w5.heap.size rfl _ cb (0, 0) _ hx6 Tryz.underlying47 rfl hiszb ?_))
    have hb56 : Below w5.heap.size w5 w6 := (below1 w5 _).trans (hu6.own (Nat.le_refl _) (by simp))
    have HW6 : Hid (Below w.heap.size w w6) := Lib.hid (HW5.out.trans (hb56.mono HW5.out.size))
    have HX6 := Lib.hid (HX5.out.below hb56 HX5.out.lt)
    have HY6 := Lib.hid hx6
    have HRA6 := Lib.hid (HRD5.out.below hb56)
    have HRB6 := Lib.hid (HRB.out.below hb56)
    clear hb56 hu6 hx6 HZ6 HX5 HRD5 HRB
    have HWC := Lib.hid (HWB.out w6 HW6.out HRB6.out)
    unfold WriteOut at HWC
    rw [HWW.out] at HWC
    simp only [HTT.out] at HWC
    refine HWC.out.mono ?_
    rintro e w7 ⟨rfl, hw7⟩
    have HW7 := Lib.hid (HW6.out.trans (hw7.mono HW6.out.size))
    have HX7 := Lib.hid (HX6.out.below hw7 HX6.out.lt)
    have HY7 := Lib.hid (HY6.out.below hw7 HY6.out.lt)
    have HRA7 := Lib.hid (HRA6.out.below hw7)
    have HRB7 := Lib.hid (HRB6.out.below hw7)
    clear hw7 HX6 HY6 HRA6 HRB6 HWC
    go_wp2_with (fail)
    refine (HOK.out w7).mono ?_
    rintro e w8 ⟨rfl, hw8⟩
    have HW8 := Lib.hid (HW7.out.trans (hw8.mono HW7.out.size))
    have HX8 := Lib.hid (HX7.out.below hw8 HX7.out.lt)
    have HY8 := Lib.hid (HY7.out.below hw8 HY7.out.lt)
    have HEQ := Lib.hid (eq_texts u.path HGD.out.pth _ _ w8 (HRA7.out.below hw8) (HRB7.out.below hw8))
    rw [← HCS.out] at HX8
    rw [← HCB.out] at HY8
    have x3 : w8.cell? ⟨w1.heap.size, 3, none⟩ = some (.slice A u.path.length cap) := HX8.out.cell 3
    have y3 : w8.cell? ⟨w5.heap.size, 3, none⟩ = some (.slice B u.path.length capb) := HY8.out.cell 3
    have tt : (T.toList == T.toList) = true := by simp
    clear hw8 HX7 HY7
    go_wp2_with (fail)
    refine HEQ.out.mono ?_
    rintro e w9 ⟨rfl, hw9⟩
    have HW9 := Lib.hid (HW8.out.trans (hw9.mono HW8.out.size))
    have HX9 := Lib.hid (HX8.out.below hw9 HX8.out.lt)
    have HY9 := Lib.hid (HY8.out.below hw9 HY8.out.lt)
    have a1 : w9.cell? ⟨w1.heap.size, 1, none⟩ = some (.string (byt u.host)) := HX9.out.cell 1
    have b1 : w9.cell? ⟨w5.heap.size, 1, none⟩ = some (.string (byt u.host)) := HY9.out.cell 1
    have a4 : w9.cell? ⟨w1.heap.size, 4, none⟩ = some (.string (byt u.query)) := HX9.out.cell 4
    have b4 : w9.cell? ⟨w5.heap.size, 4, none⟩ = some (.string (byt u.query)) := HY9.out.cell 4
    have a6 : w9.cell? ⟨w1.heap.size, 6, none⟩ = some (.string (byt u.fragment)) := HX9.out.cell 6
    have b6 : w9.cell? ⟨w5.heap.size, 6, none⟩ = some (.string (byt u.fragment)) := HY9.out.cell 6
    obtain ⟨H1, hH1⟩ : ∃ H1, byt u.host = H1 := ⟨_, rfl⟩
    obtain ⟨Q1, hQ1⟩ : ∃ H1, byt u.query = H1 := ⟨_, rfl⟩
    obtain ⟨F1, hF1⟩ : ∃ H1, byt u.fragment = H1 := ⟨_, rfl⟩
    rw [hH1] at a1 b1
    rw [hQ1] at a4 b4
    rw [hF1] at a6 b6
    clear hw9 hH1 hQ1 hF1 x3 y3
    go_wp2
    go_ret
    exact ⟨by simp, HW9.out⟩
end Go.Proofs.YtlepbooegofoeaaGreatDoor
