/-
  Texts that the law leans on: PwZ. Conditions: as each says.
-/
import Derived.Test.YtonjdlialejedaaGreatDoorXBj
import Derived.Test.YtonjdlialejedaaGreatDoorXBg
import Derived.Test.YtonjdlialejedaaGreatDoorXBk
import Derived.Test.YtonjdlialejedaaGreatDoorXBl
import Derived.Test.YtonjdlialejedaaGreatDoorXAa
set_option linter.unusedSimpArgs false
set_option linter.unusedVariables false
namespace Go.Proofs.YtonjdlialejedaaGreatDoor
open Go.Lib (hid)
open Go.RowKit
theorem wr_st20 (nu : Int) (t : List UInt8) (l : List Pars.Node) (x0 : Pars.Node) (h0 : l[0]? = some x0) : Wri.wr (.mk 20 nu t l) .stmt = [108, 101, 116, 32] ++ t ++ [32, 61, 32] ++ Wri.wr x0 (.at (-2)) ++ [59] := by
 show Wri.wStmt 20 nu t l (Wri.wrs l) = _
 unfold Wri.wStmt
 simp [wrs_kid h0, List.append_assoc]
theorem wr_st21 (nu : Int) (t : List UInt8) (l : List Pars.Node) (x0 : Pars.Node) (h0 : l[0]? = some x0) : Wri.wr (.mk 21 nu t l) .stmt = Wri.wr x0 .fn := by
 show Wri.wStmt 21 nu t l (Wri.wrs l) = _
 unfold Wri.wStmt
 simp [wrs_kid h0, List.append_assoc]
theorem wr_st23 (nu : Int) (t : List UInt8) (l : List Pars.Node) (x0 x1 : Pars.Node) (h0 : l[0]? = some x0) (h1 : l[1]? = some x1) : Wri.wr (.mk 23 nu t l) .stmt = [119, 104, 105, 108, 101, 32, 40] ++ Wri.wr x0 (.at (-2)) ++ [41, 32] ++ Wri.wr x1 .block := by
 show Wri.wStmt 23 nu t l (Wri.wrs l) = _
 unfold Wri.wStmt
 simp [wrs_kid h0, wrs_kid h1, List.append_assoc]
theorem wr_st24 (nu : Int) (t : List UInt8) (l : List Pars.Node) (x0 x1 : Pars.Node) (h0 : l[0]? = some x0) (h1 : l[1]? = some x1) : Wri.wr (.mk 24 nu t l) .stmt = [102, 111, 114, 32, 40, 108, 101, 116, 32] ++ t ++ [32, 111, 102, 32] ++ Wri.wr x0 (.at (-2)) ++ [41, 32] ++ Wri.wr x1 .block := by
 show Wri.wStmt 24 nu t l (Wri.wrs l) = _
 unfold Wri.wStmt
 simp [wrs_kid h0, wrs_kid h1, List.append_assoc]
theorem wr_st28 (nu : Int) (t : List UInt8) (l : List Pars.Node) (x0 : Pars.Node) (h0 : l[0]? = some x0) : Wri.wr (.mk 28 nu t l) .stmt = [116, 104, 114, 111, 119, 32] ++ Wri.wr x0 (.at (-2)) ++ [59] := by
 show Wri.wStmt 28 nu t l (Wri.wrs l) = _
 unfold Wri.wStmt
 simp [wrs_kid h0, List.append_assoc]
theorem wr_st31 (nu : Int) (t : List UInt8) (l : List Pars.Node) (x0 : Pars.Node) (h0 : l[0]? = some x0) : Wri.wr (.mk 31 nu t l) .stmt = (if Wri.front x0 = 7 ∨ Wri.front x0 = 9 then [40] ++ Wri.wr x0 (.at (-2)) ++ [41] else Wri.wr x0 (.at (-2))) ++ [59] := by
 show Wri.wStmt 31 nu t l (Wri.wrs l) = _
 unfold Wri.wStmt
 simp [wrs_kid h0, List.getD_eq_getElem?_getD, h0, List.append_assoc]
theorem def_kid {nu : Int} {t : List UInt8} {l : List Pars.Node} {x : Pars.Node} (h : Ri (.mk 21 nu t l)) (hx : l[0]? = some x) : x.kind = 9 := by
 obtain ⟨a, b, h⟩ := h
 have hr := Wri.rt_of _ _ _ h
 cases hr with
 | def_ _ _ f h1 h2 h3 =>
  simp at hx
  rw [← hx]; exact h1
theorem wr_st25a (nu : Int) (t : List UInt8) (l : List Pars.Node) (h : l.length = 0) : Wri.wr (.mk 25 nu t l) .stmt = [114, 101, 116, 117, 114, 110] ++ [59] := by
 obtain rfl : l = [] := List.length_eq_zero_iff.1 h
 rfl
theorem wr_st25b (nu : Int) (t : List UInt8) (l : List Pars.Node) (x0 : Pars.Node) (h0 : l[0]? = some x0) (h : l.length = 1) : Wri.wr (.mk 25 nu t l) .stmt = [114, 101, 116, 117, 114, 110] ++ [32] ++ Wri.wr x0 (.at (-2)) ++ [59] := by
 obtain ⟨y, rfl⟩ := List.length_eq_one_iff.1 h
 simp at h0
 subst h0
 show [114, 101, 116, 117, 114, 110] ++ (32 :: Wri.wr y (.at (-2))) ++ [59] = _
 simp
set_option maxRecDepth 100000 in
set_option maxHeartbeats 4000000 in
theorem stmt_w {N : Nat} (IH : Wall N) (IF : ∀ {n : Pars.Node} {cs : Array Value} {w : World} {B wb : Nat} {l : List UInt8}, Wri.wg n ≤ N + 1 → Wri.wg n ≤ 1048576 → Ri n → n.kind = 22 → NodeAt w (fun g => g < B) n cs → Wt B wb l w → B ≤ w.heap.size → 7 ≤ B → EnvW w → l.length + (Wri.wr n .ifs).length ≤ 70368744177664 → Calls Tryz.prog 34 #[.pointer (some ⟨wb, 0, none⟩), .agg cs] w (WOut B wb l (Wri.wr n .ifs) w)) (TR : ∀ {n : Pars.Node} {cs : Array Value} {w : World} {B wb : Nat} {l : List UInt8}, Wri.wg n ≤ N + 1 → Wri.wg n ≤ 1048576 → Ri n → n.kind = 29 → NodeAt w (fun g => g < B) n cs → Wt B wb l w → B ≤ w.heap.size → 7 ≤ B → EnvW w → l.length + (Wri.wr n .tries).length ≤ 70368744177664 → Calls Tryz.prog 36 #[.pointer (some ⟨wb, 0, none⟩), .agg cs] w (WOut B wb l (Wri.wr n .tries) w)) (BL : ∀ {n : Pars.Node} {cs : Array Value} {w : World} {B wb : Nat} {l : List UInt8}, Wri.wg n ≤ N + 1 → Wri.wg n ≤ 1048576 → Ri n → NodeAt w (fun g => g < B) n cs → Wt B wb l w → B ≤ w.heap.size → 7 ≤ B → EnvW w → l.length + (Wri.wr n .block).length ≤ 70368744177664 → Calls Tryz.prog 35 #[.pointer (some ⟨wb, 0, none⟩), .agg cs] w (WOut B wb l (Wri.wr n .block) w)) : ∀ {n : Pars.Node} {cs : Array Value} {w : World} {B wb : Nat} {l : List UInt8}, Wri.wg n ≤ N + 1 → Wri.wg n ≤ 1048576 → Ri n → NodeAt w (fun g => g < B) n cs → Wt B wb l w → B ≤ w.heap.size → 7 ≤ B → EnvW w → l.length + (Wri.wr n .stmt).length ≤ 70368744177664 → Calls Tryz.prog 20 #[.pointer (some ⟨wb, 0, none⟩), .agg cs] w (WOut B wb l (Wri.wr n .stmt) w) := by
 intro n cs w B wb l hN hM hR hn hW hBw h7 he hl
 obtain ⟨k, nu, t, kl⟩ := n
 have hn0 := hn
 unfold NodeAt at hn
 obtain ⟨A, cap, css, rfl, hc1, hc2, hrow, hk⟩ := hn
 have HROW := hid hrow
 have HK := hid hk
 have HN := hid hn0
 have HE := hid he
 have hwlt := hW.lt
 have hll := Wri.wgs_len kl
 clear hrow hk hn0 he
 by_cases y20 : k = 20
 ·subst y20
  have hlen : kl.length = 1 := (ri_len hR).2.2.1 (by simp)
  obtain ⟨x0, hx0⟩ : ∃ x, kl[0]? = some x := ⟨_, List.getElem?_eq_getElem (by omega)⟩
  obtain ⟨g0, o0, rfl, hg0, _, _⟩ := HROW.out (by omega)
  obtain ⟨b0, c0, d0, hn0, hc0⟩ := kid4 HK.out HROW.out hx0
  have HN0 := hid hn0
  have HC0 := hid hc0
  have HX0 := hid hx0
  have HR0 := hid (ri_kid hR x0 (List.mem_of_getElem? hx0))
  have hxw0 := Wri.wg_mem (List.mem_of_getElem? hx0)
  have HW0 : Hid (Wri.wg x0 ≤ N ∧ Wri.wg x0 ≤ 1048576) := hid (by simp only [Wri.wg] at hN hM; exact ⟨by omega, by omega⟩)
  clear hn0 hc0 hx0 hxw0
  rw [wr_st20 nu t kl x0 HX0.out] at hl
  have hts : (byt t).size ≤ 70368744177664 := by rw [byt_size]; simp only [List.length_append, List.length_cons] at hl; omega
  go_enter Tryz.func20, Tryz.ntmps20
  go_upto_region 1 with fail
  refine gen_world (F := fun W => Box W w.heap.size 24 (nc 20 nu t (.slice (some ⟨g0, o0, none⟩) 1 cap)) ∧ Below w.heap.size w W) ⟨Box.new w _ _, below1 w _⟩ ?_
  rintro W0 ⟨b0, hU⟩
  have NB := hid b0
  have WT := hid (hW.below hU)
  have HU : Hid (Below B w W0) := hid (hU.mono hBw)
  have HS : Hid (Stays wb w W0) := hid (Stays.below hU)
  have hB0 : B ≤ W0.heap.size := Nat.le_trans hBw hU.size
  have hnw : w.heap.size ≠ wb := by omega
  have hbx := Nat.lt_of_lt_of_le b0.lt (Nat.le_refl _)
  clear b0 hU
  have HNENB := hid hnw
  have c0 := NB.out.cell 0
  simp [nc] at c0
  have c2 := NB.out.cell 2
  simp [nc] at c2
  have hcc : ¬ 9223372036854775807 < 4 + (byt t).size := by omega
  have hcc2 : ¬ 9223372036854775807 < 4 + (byt t).size + 3 := by omega
  have hg8 : (⟨#[108, 101, 116, 32]⟩ : ByteArray).size = 4 := rfl
  have hg2 : (⟨#[32, 61, 32]⟩ : ByteArray).size = 3 := rfl
  have HPC : Hid ((⟨#[108, 101, 116, 32]⟩ ++ byt t ++ ⟨#[32, 61, 32]⟩ : ByteArray) = byt ([108, 101, 116, 32] ++ t ++ [32, 61, 32])) := hid (by rw [← byt_append, ← byt_append]; rfl)
  go_upto_region 3 with fail
  go_wp2
  go_still_tail 7, (by kernel_rfl)
  change wpList _ _ _ _ _ W0.drew
  have hdr : Below W0.heap.size W0 W0.drew := Below.drew (Below.refl _ _)
  have hdz : W0.drew.heap.size = W0.heap.size := rfl
  obtain ⟨wd, hwd⟩ : ∃ wd, W0.drew = wd := ⟨_, rfl⟩
  rw [hwd] at hdr hdz ⊢
  replace WT := hid (WT.out.below hdr)
  replace NB := bl NB hdr
  replace HU := hid (HU.out.trans (hdr.mono hB0))
  replace HS := hid (HS.out.trans (Stays.below hdr))
  have hB1 : B ≤ wd.heap.size := by omega
  clear hB0
  have hB0 := hB1
  clear hdr hdz hwd
  clear c0 c2
  go_wp2_with fail
  rw [HPC.out]
  refine (wstr B wb (l) ([108, 101, 116, 32] ++ t ++ [32, 61, 32]) _ WT.out (by (try simp only [ln] at hl); (try simp only [ln]); omega) hB0).mono ?_
  rintro e w1 ⟨⟨v, rfl⟩, hw, hb, hs⟩
  replace WT := hid hw
  replace NB := st hs NB HNENB
  replace HU := hid (HU.out.trans hb)
  replace HS := hid (HS.out.trans hs)
  replace hB0 := Nat.le_trans hB0 hb.size
  clear hw hb hs
  obtain ⟨k0, k1, k2, k3⟩ := HC0.out w1 HU.out
  simp at k0 k1 k2 k3
  have c3 := NB.out.cell 3
  simp [nc] at c3
  go_wp2_with fail
  refine (IH.any HW0.out.1 HW0.out.2 HR0.out (HN0.out.belowB HU.out) WT.out hB0 h7 (HE.out.below HU.out h7) (by (try simp only [ln] at hl); (try simp only [ln]); omega)).mono ?_
  rintro e w2 ⟨rfl, hw, hb, hs⟩
  clear k0 k1 k2 k3 c3
  replace WT := hid hw
  replace NB := st hs NB HNENB
  replace HU := hid (HU.out.trans hb)
  replace HS := hid (HS.out.trans hs)
  replace hB0 := Nat.le_trans hB0 hb.size
  clear hw hb hs
  go_wp2_with fail
  refine (wbyte B wb (l ++ ([108, 101, 116, 32] ++ t ++ [32, 61, 32]) ++ Wri.wr x0 (.at (-2))) 59 _ WT.out (by (try simp only [ln] at hl); (try simp only [ln]); omega) hB0).mono ?_
  rintro e w3 ⟨rfl, hw, hb, hs⟩
  replace WT := hid hw
  replace NB := st hs NB HNENB
  replace HU := hid (HU.out.trans hb)
  replace HS := hid (HS.out.trans hs)
  replace hB0 := Nat.le_trans hB0 hb.size
  clear hw hb hs
  go_wp2
  go_end0
  exact ⟨rfl, by rw [wr_st20 nu t kl x0 HX0.out]; simpa [List.append_assoc] using WT.out, HU.out, HS.out⟩
 by_cases y21 : k = 21
 ·subst y21
  have hlen : kl.length = 1 := (ri_len hR).2.2.1 (by simp)
  obtain ⟨x0, hx0⟩ : ∃ x, kl[0]? = some x := ⟨_, List.getElem?_eq_getElem (by omega)⟩
  obtain ⟨g0, o0, rfl, hg0, _, _⟩ := HROW.out (by omega)
  obtain ⟨b0, c0, d0, hn0, hc0⟩ := kid4 HK.out HROW.out hx0
  have HN0 := hid hn0
  have HC0 := hid hc0
  have HX0 := hid hx0
  have HR0 := hid (ri_kid hR x0 (List.mem_of_getElem? hx0))
  have hxw0 := Wri.wg_mem (List.mem_of_getElem? hx0)
  have HW0 : Hid (Wri.wg x0 ≤ N ∧ Wri.wg x0 ≤ 1048576) := hid (by simp only [Wri.wg] at hN hM; exact ⟨by omega, by omega⟩)
  clear hn0 hc0 hx0 hxw0
  have HKD : Hid (x0.kind = 9) := hid (def_kid hR HX0.out)
  rw [wr_st21 nu t kl x0 HX0.out] at hl
  have hn9 := HN0.out
  rw [HKD.out] at hn9
  replace HN0 := hid hn9
  clear hn9
  go_enter Tryz.func20, Tryz.ntmps20
  go_upto_region 1 with fail
  refine gen_world (F := fun W => Box W w.heap.size 24 (nc 21 nu t (.slice (some ⟨g0, o0, none⟩) 1 cap)) ∧ Below w.heap.size w W) ⟨Box.new w _ _, below1 w _⟩ ?_
  rintro W0 ⟨b0, hU⟩
  have NB := hid b0
  have WT := hid (hW.below hU)
  have HU : Hid (Below B w W0) := hid (hU.mono hBw)
  have HS : Hid (Stays wb w W0) := hid (Stays.below hU)
  have hB0 : B ≤ W0.heap.size := Nat.le_trans hBw hU.size
  have hnw : w.heap.size ≠ wb := by omega
  have hbx := Nat.lt_of_lt_of_le b0.lt (Nat.le_refl _)
  clear b0 hU
  have HNENB := hid hnw
  have c0 := NB.out.cell 0
  simp [nc] at c0
  have HC00 := HC0.out
  rw [HKD.out] at HC00
  replace HC0 := hid HC00
  clear HC00
  obtain ⟨k0, k1, k2, k3⟩ := HC0.out W0 HU.out
  simp at k0 k1 k2 k3
  have c3 := NB.out.cell 3
  simp [nc] at c3
  go_wp2_with fail
  refine (IH.fn HW0.out.1 HW0.out.2 HR0.out HKD.out (HN0.out.belowB HU.out) WT.out hB0 h7 (HE.out.below HU.out h7) (by (try simp only [ln] at hl); (try simp only [ln]); omega)).mono ?_
  rintro e w1 ⟨rfl, hw, hb, hs⟩
  clear k0 k1 k2 k3 c3
  replace WT := hid hw
  replace NB := st hs NB HNENB
  replace HU := hid (HU.out.trans hb)
  replace HS := hid (HS.out.trans hs)
  replace hB0 := Nat.le_trans hB0 hb.size
  clear hw hb hs
  go_wp2
  go_end0
  exact ⟨rfl, by rw [wr_st21 nu t kl x0 HX0.out]; simpa [List.append_assoc] using WT.out, HU.out, HS.out⟩
 by_cases y22 : k = 22
 ·subst y22
  have INF : (Tryz.prog.info? 24).map (·.size) = some (nc 22 nu t (.slice A kl.length cap)).size := info_nod
  go_enter Tryz.func20, Tryz.ntmps20
  go_upto_region 1 with fail
  refine gen_world (F := fun W => Box W w.heap.size 24 (nc 22 nu t (.slice A kl.length cap)) ∧ Below w.heap.size w W) ⟨Box.new w _ _, below1 w _⟩ ?_
  rintro W0 ⟨b0, hU⟩
  have NB := hid b0
  have WT := hid (hW.below hU)
  have HU : Hid (Below B w W0) := hid (hU.mono hBw)
  have HS : Hid (Stays wb w W0) := hid (Stays.below hU)
  have hB0 : B ≤ W0.heap.size := Nat.le_trans hBw hU.size
  have hnw : w.heap.size ≠ wb := by omega
  have hbx := Nat.lt_of_lt_of_le b0.lt (Nat.le_refl _)
  clear b0 hU
  have HNENB := hid hnw
  have c0 := NB.out.cell 0
  simp [nc] at c0
  go_wp2_with (refine wpList_load_row rfl 24 (.tmp 3) rfl w.heap.size rfl _ (nc 22 nu t (.slice A kl.length cap)) (0, 0) _ NB.out Tryz.underlying24 rfl INF ?_)
  refine (IF hN hM hR rfl (HN.out.belowB HU.out) WT.out hB0 h7 (HE.out.below HU.out h7) hl).mono ?_
  rintro e w2 ⟨rfl, hw, hb, hs⟩
  go_wp2
  go_end0
  exact ⟨rfl, hw, HU.out.trans hb, HS.out.trans hs⟩
 by_cases y23 : k = 23
 ·subst y23
  have hlen : kl.length = 2 := (ri_len hR).1 (by simp)
  obtain ⟨x0, hx0⟩ : ∃ x, kl[0]? = some x := ⟨_, List.getElem?_eq_getElem (by omega)⟩
  obtain ⟨x1, hx1⟩ : ∃ x, kl[1]? = some x := ⟨_, List.getElem?_eq_getElem (by omega)⟩
  obtain ⟨g0, o0, rfl, hg0, _, _⟩ := HROW.out (by omega)
  obtain ⟨b0, c0, d0, hn0, hc0⟩ := kid4 HK.out HROW.out hx0
  have HN0 := hid hn0
  have HC0 := hid hc0
  have HX0 := hid hx0
  have HR0 := hid (ri_kid hR x0 (List.mem_of_getElem? hx0))
  have hxw0 := Wri.wg_mem (List.mem_of_getElem? hx0)
  have HW0 : Hid (Wri.wg x0 ≤ N ∧ Wri.wg x0 ≤ 1048576) := hid (by simp only [Wri.wg] at hN hM; exact ⟨by omega, by omega⟩)
  clear hn0 hc0 hx0 hxw0
  obtain ⟨b1, c1, d1, hn1, hc1⟩ := kid4 HK.out HROW.out hx1
  have HN1 := hid hn1
  have HC1 := hid hc1
  have HX1 := hid hx1
  have HR1 := hid (ri_kid hR x1 (List.mem_of_getElem? hx1))
  have hxw1 := Wri.wg_mem (List.mem_of_getElem? hx1)
  have HW1 : Hid (Wri.wg x1 ≤ N ∧ Wri.wg x1 ≤ 1048576) := hid (by simp only [Wri.wg] at hN hM; exact ⟨by omega, by omega⟩)
  clear hn1 hc1 hx1 hxw1
  rw [wr_st23 nu t kl x0 x1 HX0.out HX1.out] at hl
  go_enter Tryz.func20, Tryz.ntmps20
  go_upto_region 1 with fail
  refine gen_world (F := fun W => Box W w.heap.size 24 (nc 23 nu t (.slice (some ⟨g0, o0, none⟩) 2 cap)) ∧ Below w.heap.size w W) ⟨Box.new w _ _, below1 w _⟩ ?_
  rintro W0 ⟨b0, hU⟩
  have NB := hid b0
  have WT := hid (hW.below hU)
  have HU : Hid (Below B w W0) := hid (hU.mono hBw)
  have HS : Hid (Stays wb w W0) := hid (Stays.below hU)
  have hB0 : B ≤ W0.heap.size := Nat.le_trans hBw hU.size
  have hnw : w.heap.size ≠ wb := by omega
  have hbx := Nat.lt_of_lt_of_le b0.lt (Nat.le_refl _)
  clear b0 hU
  have HNENB := hid hnw
  have c0 := NB.out.cell 0
  simp [nc] at c0
  go_upto_region 11 with fail
  clear c0
  go_wp2_with fail
  refine (wstr B wb (l) [119, 104, 105, 108, 101, 32, 40] _ WT.out (by (try simp only [ln] at hl); (try simp only [ln]); omega) hB0).mono ?_
  rintro e w1 ⟨⟨v, rfl⟩, hw, hb, hs⟩
  replace WT := hid hw
  replace NB := st hs NB HNENB
  replace HU := hid (HU.out.trans hb)
  replace HS := hid (HS.out.trans hs)
  replace hB0 := Nat.le_trans hB0 hb.size
  clear hw hb hs
  obtain ⟨k0, k1, k2, k3⟩ := HC0.out w1 HU.out
  simp at k0 k1 k2 k3
  have c3 := NB.out.cell 3
  simp [nc] at c3
  go_wp2_with fail
  refine (IH.any HW0.out.1 HW0.out.2 HR0.out (HN0.out.belowB HU.out) WT.out hB0 h7 (HE.out.below HU.out h7) (by (try simp only [ln] at hl); (try simp only [ln]); omega)).mono ?_
  rintro e w2 ⟨rfl, hw, hb, hs⟩
  clear k0 k1 k2 k3 c3
  replace WT := hid hw
  replace NB := st hs NB HNENB
  replace HU := hid (HU.out.trans hb)
  replace HS := hid (HS.out.trans hs)
  replace hB0 := Nat.le_trans hB0 hb.size
  clear hw hb hs
  go_wp2_with fail
  refine (wstr B wb (l ++ [119, 104, 105, 108, 101, 32, 40] ++ Wri.wr x0 (.at (-2))) [41, 32] _ WT.out (by (try simp only [ln] at hl); (try simp only [ln]); omega) hB0).mono ?_
  rintro e w3 ⟨⟨v, rfl⟩, hw, hb, hs⟩
  replace WT := hid hw
  replace NB := st hs NB HNENB
  replace HU := hid (HU.out.trans hb)
  replace HS := hid (HS.out.trans hs)
  replace hB0 := Nat.le_trans hB0 hb.size
  clear hw hb hs
  obtain ⟨k0, k1, k2, k3⟩ := HC1.out w3 HU.out
  have kk0 : w3.cell? ⟨g0, o0 + 4, none⟩ = some (.int .i64 x1.kind) := by simpa [Nat.add_assoc] using k0
  have kk1 : w3.cell? ⟨g0, o0 + 5, none⟩ = some b1 := by simpa [Nat.add_assoc] using k1
  have kk2 : w3.cell? ⟨g0, o0 + 6, none⟩ = some c1 := by simpa [Nat.add_assoc] using k2
  have kk3 : w3.cell? ⟨g0, o0 + 7, none⟩ = some d1 := by simpa [Nat.add_assoc] using k3
  have c3 := NB.out.cell 3
  simp [nc] at c3
  go_wp2_with fail
  refine (IH.block HW1.out.1 HW1.out.2 HR1.out (HN1.out.belowB HU.out) WT.out hB0 h7 (HE.out.below HU.out h7) (by (try simp only [ln] at hl); (try simp only [ln]); omega)).mono ?_
  rintro e w4 ⟨rfl, hw, hb, hs⟩
  clear k0 k1 k2 k3 kk0 kk1 kk2 kk3 c3
  replace WT := hid hw
  replace NB := st hs NB HNENB
  replace HU := hid (HU.out.trans hb)
  replace HS := hid (HS.out.trans hs)
  replace hB0 := Nat.le_trans hB0 hb.size
  clear hw hb hs
  go_wp2
  go_end0
  exact ⟨rfl, by rw [wr_st23 nu t kl x0 x1 HX0.out HX1.out]; simpa [List.append_assoc] using WT.out, HU.out, HS.out⟩
 by_cases y24 : k = 24
 ·subst y24
  have hlen : kl.length = 2 := (ri_len hR).1 (by simp)
  obtain ⟨x0, hx0⟩ : ∃ x, kl[0]? = some x := ⟨_, List.getElem?_eq_getElem (by omega)⟩
  obtain ⟨x1, hx1⟩ : ∃ x, kl[1]? = some x := ⟨_, List.getElem?_eq_getElem (by omega)⟩
  obtain ⟨g0, o0, rfl, hg0, _, _⟩ := HROW.out (by omega)
  obtain ⟨b0, c0, d0, hn0, hc0⟩ := kid4 HK.out HROW.out hx0
  have HN0 := hid hn0
  have HC0 := hid hc0
  have HX0 := hid hx0
  have HR0 := hid (ri_kid hR x0 (List.mem_of_getElem? hx0))
  have hxw0 := Wri.wg_mem (List.mem_of_getElem? hx0)
  have HW0 : Hid (Wri.wg x0 ≤ N ∧ Wri.wg x0 ≤ 1048576) := hid (by simp only [Wri.wg] at hN hM; exact ⟨by omega, by omega⟩)
  clear hn0 hc0 hx0 hxw0
  obtain ⟨b1, c1, d1, hn1, hc1⟩ := kid4 HK.out HROW.out hx1
  have HN1 := hid hn1
  have HC1 := hid hc1
  have HX1 := hid hx1
  have HR1 := hid (ri_kid hR x1 (List.mem_of_getElem? hx1))
  have hxw1 := Wri.wg_mem (List.mem_of_getElem? hx1)
  have HW1 : Hid (Wri.wg x1 ≤ N ∧ Wri.wg x1 ≤ 1048576) := hid (by simp only [Wri.wg] at hN hM; exact ⟨by omega, by omega⟩)
  clear hn1 hc1 hx1 hxw1
  rw [wr_st24 nu t kl x0 x1 HX0.out HX1.out] at hl
  have hts : (byt t).size ≤ 70368744177664 := by rw [byt_size]; simp only [List.length_append, List.length_cons] at hl; omega
  go_enter Tryz.func20, Tryz.ntmps20
  go_upto_region 1 with fail
  refine gen_world (F := fun W => Box W w.heap.size 24 (nc 24 nu t (.slice (some ⟨g0, o0, none⟩) 2 cap)) ∧ Below w.heap.size w W) ⟨Box.new w _ _, below1 w _⟩ ?_
  rintro W0 ⟨b0, hU⟩
  have NB := hid b0
  have WT := hid (hW.below hU)
  have HU : Hid (Below B w W0) := hid (hU.mono hBw)
  have HS : Hid (Stays wb w W0) := hid (Stays.below hU)
  have hB0 : B ≤ W0.heap.size := Nat.le_trans hBw hU.size
  have hnw : w.heap.size ≠ wb := by omega
  have hbx := Nat.lt_of_lt_of_le b0.lt (Nat.le_refl _)
  clear b0 hU
  have HNENB := hid hnw
  have c0 := NB.out.cell 0
  simp [nc] at c0
  have c2 := NB.out.cell 2
  simp [nc] at c2
  have hcc : ¬ 9223372036854775807 < 9 + (byt t).size := by omega
  have hcc2 : ¬ 9223372036854775807 < 9 + (byt t).size + 4 := by omega
  have hg8 : (⟨#[102, 111, 114, 32, 40, 108, 101, 116, 32]⟩ : ByteArray).size = 9 := rfl
  have hg2 : (⟨#[32, 111, 102, 32]⟩ : ByteArray).size = 4 := rfl
  have HPC : Hid ((⟨#[102, 111, 114, 32, 40, 108, 101, 116, 32]⟩ ++ byt t ++ ⟨#[32, 111, 102, 32]⟩ : ByteArray) = byt ([102, 111, 114, 32, 40, 108, 101, 116, 32] ++ t ++ [32, 111, 102, 32])) := hid (by rw [← byt_append, ← byt_append]; rfl)
  go_upto_region 16 with fail
  go_wp2
  go_still_tail 7, (by kernel_rfl)
  change wpList _ _ _ _ _ W0.drew
  have hdr : Below W0.heap.size W0 W0.drew := Below.drew (Below.refl _ _)
  have hdz : W0.drew.heap.size = W0.heap.size := rfl
  obtain ⟨wd, hwd⟩ : ∃ wd, W0.drew = wd := ⟨_, rfl⟩
  rw [hwd] at hdr hdz ⊢
  replace WT := hid (WT.out.below hdr)
  replace NB := bl NB hdr
  replace HU := hid (HU.out.trans (hdr.mono hB0))
  replace HS := hid (HS.out.trans (Stays.below hdr))
  have hB1 : B ≤ wd.heap.size := by omega
  clear hB0
  have hB0 := hB1
  clear hdr hdz hwd
  clear c0 c2
  go_wp2_with fail
  rw [HPC.out]
  refine (wstr B wb (l) ([102, 111, 114, 32, 40, 108, 101, 116, 32] ++ t ++ [32, 111, 102, 32]) _ WT.out (by (try simp only [ln] at hl); (try simp only [ln]); omega) hB0).mono ?_
  rintro e w1 ⟨⟨v, rfl⟩, hw, hb, hs⟩
  replace WT := hid hw
  replace NB := st hs NB HNENB
  replace HU := hid (HU.out.trans hb)
  replace HS := hid (HS.out.trans hs)
  replace hB0 := Nat.le_trans hB0 hb.size
  clear hw hb hs
  obtain ⟨k0, k1, k2, k3⟩ := HC0.out w1 HU.out
  simp at k0 k1 k2 k3
  have c3 := NB.out.cell 3
  simp [nc] at c3
  go_wp2_with fail
  refine (IH.any HW0.out.1 HW0.out.2 HR0.out (HN0.out.belowB HU.out) WT.out hB0 h7 (HE.out.below HU.out h7) (by (try simp only [ln] at hl); (try simp only [ln]); omega)).mono ?_
  rintro e w2 ⟨rfl, hw, hb, hs⟩
  clear k0 k1 k2 k3 c3
  replace WT := hid hw
  replace NB := st hs NB HNENB
  replace HU := hid (HU.out.trans hb)
  replace HS := hid (HS.out.trans hs)
  replace hB0 := Nat.le_trans hB0 hb.size
  clear hw hb hs
  go_wp2_with fail
  refine (wstr B wb (l ++ ([102, 111, 114, 32, 40, 108, 101, 116, 32] ++ t ++ [32, 111, 102, 32]) ++ Wri.wr x0 (.at (-2))) [41, 32] _ WT.out (by (try simp only [ln] at hl); (try simp only [ln]); omega) hB0).mono ?_
  rintro e w3 ⟨⟨v, rfl⟩, hw, hb, hs⟩
  replace WT := hid hw
  replace NB := st hs NB HNENB
  replace HU := hid (HU.out.trans hb)
  replace HS := hid (HS.out.trans hs)
  replace hB0 := Nat.le_trans hB0 hb.size
  clear hw hb hs
  obtain ⟨k0, k1, k2, k3⟩ := HC1.out w3 HU.out
  have kk0 : w3.cell? ⟨g0, o0 + 4, none⟩ = some (.int .i64 x1.kind) := by simpa [Nat.add_assoc] using k0
  have kk1 : w3.cell? ⟨g0, o0 + 5, none⟩ = some b1 := by simpa [Nat.add_assoc] using k1
  have kk2 : w3.cell? ⟨g0, o0 + 6, none⟩ = some c1 := by simpa [Nat.add_assoc] using k2
  have kk3 : w3.cell? ⟨g0, o0 + 7, none⟩ = some d1 := by simpa [Nat.add_assoc] using k3
  have c3 := NB.out.cell 3
  simp [nc] at c3
  go_wp2_with fail
  refine (IH.block HW1.out.1 HW1.out.2 HR1.out (HN1.out.belowB HU.out) WT.out hB0 h7 (HE.out.below HU.out h7) (by (try simp only [ln] at hl); (try simp only [ln]); omega)).mono ?_
  rintro e w4 ⟨rfl, hw, hb, hs⟩
  clear k0 k1 k2 k3 kk0 kk1 kk2 kk3 c3
  replace WT := hid hw
  replace NB := st hs NB HNENB
  replace HU := hid (HU.out.trans hb)
  replace HS := hid (HS.out.trans hs)
  replace hB0 := Nat.le_trans hB0 hb.size
  clear hw hb hs
  go_wp2
  go_end0
  exact ⟨rfl, by rw [wr_st24 nu t kl x0 x1 HX0.out HX1.out]; simpa [List.append_assoc] using WT.out, HU.out, HS.out⟩
 by_cases y25 : k = 25
 ·subst y25
  by_cases hlen : kl.length = 0
  ·have hl2 : l.length + ([114, 101, 116, 117, 114, 110] ++ [59] : List UInt8).length ≤ 70368744177664 := by rw [← wr_st25a nu t kl hlen]; exact hl
   clear hl
   have hl := hl2
   clear hl2
   have HLN := hid hlen
   obtain rfl : kl = [] := List.length_eq_zero_iff.1 hlen
   go_enter Tryz.func20, Tryz.ntmps20
   go_upto_region 1 with fail
   refine gen_world (F := fun W => Box W w.heap.size 24 (nc 25 nu t (.slice A ([] : List Pars.Node).length cap)) ∧ Below w.heap.size w W) ⟨Box.new w _ _, below1 w _⟩ ?_
   rintro W0 ⟨b0, hU⟩
   have NB := hid b0
   have WT := hid (hW.below hU)
   have HU : Hid (Below B w W0) := hid (hU.mono hBw)
   have HS : Hid (Stays wb w W0) := hid (Stays.below hU)
   have hB0 : B ≤ W0.heap.size := Nat.le_trans hBw hU.size
   have hnw : w.heap.size ≠ wb := by omega
   have hbx := Nat.lt_of_lt_of_le b0.lt (Nat.le_refl _)
   clear b0 hU
   have HNENB := hid hnw
   have c0 := NB.out.cell 0
   simp [nc] at c0
   go_upto_region 21 with fail
   clear c0
   go_wp2_with fail
   refine (wstr B wb (l) [114, 101, 116, 117, 114, 110] _ WT.out (by (try simp only [ln] at hl); (try simp only [ln]); omega) hB0).mono ?_
   rintro e w1 ⟨⟨v, rfl⟩, hw, hb, hs⟩
   replace WT := hid hw
   replace NB := st hs NB HNENB
   replace HU := hid (HU.out.trans hb)
   replace HS := hid (HS.out.trans hs)
   replace hB0 := Nat.le_trans hB0 hb.size
   clear hw hb hs
   have c3 := NB.out.cell 3
   simp [nc] at c3
   go_upto_region 25 with fail
   clear c3
   go_wp2_with fail
   refine (wbyte B wb (l ++ [114, 101, 116, 117, 114, 110]) 59 _ WT.out (by (try simp only [ln] at hl); (try simp only [ln]); omega) hB0).mono ?_
   rintro e w2 ⟨rfl, hw, hb, hs⟩
   replace WT := hid hw
   replace NB := st hs NB HNENB
   replace HU := hid (HU.out.trans hb)
   replace HS := hid (HS.out.trans hs)
   replace hB0 := Nat.le_trans hB0 hb.size
   clear hw hb hs
   go_wp2
   go_end0
   exact ⟨rfl, by rw [wr_st25a nu t [] rfl]; simpa [List.append_assoc] using WT.out, HU.out, HS.out⟩
  ·have hlen1 : kl.length = 1 := by have := (ri_len hR).2.2.2.2.2.2.1 rfl; omega
   have hlen : kl.length = 1 := hlen1
   obtain ⟨x0, hx0⟩ : ∃ x, kl[0]? = some x := ⟨_, List.getElem?_eq_getElem (by omega)⟩
   obtain ⟨g0, o0, rfl, hg0, _, _⟩ := HROW.out (by omega)
   obtain ⟨b0, c0, d0, hn0, hc0⟩ := kid4 HK.out HROW.out hx0
   have HN0 := hid hn0
   have HC0 := hid hc0
   have HX0 := hid hx0
   have HR0 := hid (ri_kid hR x0 (List.mem_of_getElem? hx0))
   have hxw0 := Wri.wg_mem (List.mem_of_getElem? hx0)
   have HW0 : Hid (Wri.wg x0 ≤ N ∧ Wri.wg x0 ≤ 1048576) := hid (by simp only [Wri.wg] at hN hM; exact ⟨by omega, by omega⟩)
   clear hn0 hc0 hx0 hxw0
   rw [wr_st25b nu t kl x0 HX0.out hlen1] at hl
   have HLN := hid hlen1
   go_enter Tryz.func20, Tryz.ntmps20
   go_upto_region 1 with fail
   refine gen_world (F := fun W => Box W w.heap.size 24 (nc 25 nu t (.slice (some ⟨g0, o0, none⟩) 1 cap)) ∧ Below w.heap.size w W) ⟨Box.new w _ _, below1 w _⟩ ?_
   rintro W0 ⟨b0, hU⟩
   have NB := hid b0
   have WT := hid (hW.below hU)
   have HU : Hid (Below B w W0) := hid (hU.mono hBw)
   have HS : Hid (Stays wb w W0) := hid (Stays.below hU)
   have hB0 : B ≤ W0.heap.size := Nat.le_trans hBw hU.size
   have hnw : w.heap.size ≠ wb := by omega
   have hbx := Nat.lt_of_lt_of_le b0.lt (Nat.le_refl _)
   clear b0 hU
   have HNENB := hid hnw
   have c0 := NB.out.cell 0
   simp [nc] at c0
   go_upto_region 21 with fail
   clear c0
   go_wp2_with fail
   refine (wstr B wb (l) [114, 101, 116, 117, 114, 110] _ WT.out (by (try simp only [ln] at hl); (try simp only [ln]); omega) hB0).mono ?_
   rintro e w1 ⟨⟨v, rfl⟩, hw, hb, hs⟩
   replace WT := hid hw
   replace NB := st hs NB HNENB
   replace HU := hid (HU.out.trans hb)
   replace HS := hid (HS.out.trans hs)
   replace hB0 := Nat.le_trans hB0 hb.size
   clear hw hb hs
   have c3 := NB.out.cell 3
   simp [nc] at c3
   go_upto_region 23 with fail
   clear c3
   go_wp2_with fail
   refine (wbyte B wb (l ++ [114, 101, 116, 117, 114, 110]) 32 _ WT.out (by (try simp only [ln] at hl); (try simp only [ln]); omega) hB0).mono ?_
   rintro e w2 ⟨rfl, hw, hb, hs⟩
   replace WT := hid hw
   replace NB := st hs NB HNENB
   replace HU := hid (HU.out.trans hb)
   replace HS := hid (HS.out.trans hs)
   replace hB0 := Nat.le_trans hB0 hb.size
   clear hw hb hs
   obtain ⟨k0, k1, k2, k3⟩ := HC0.out w2 HU.out
   simp at k0 k1 k2 k3
   have c3 := NB.out.cell 3
   simp [nc] at c3
   go_wp2_with fail
   refine (IH.any HW0.out.1 HW0.out.2 HR0.out (HN0.out.belowB HU.out) WT.out hB0 h7 (HE.out.below HU.out h7) (by (try simp only [ln] at hl); (try simp only [ln]); omega)).mono ?_
   rintro e w3 ⟨rfl, hw, hb, hs⟩
   clear k0 k1 k2 k3 c3
   replace WT := hid hw
   replace NB := st hs NB HNENB
   replace HU := hid (HU.out.trans hb)
   replace HS := hid (HS.out.trans hs)
   replace hB0 := Nat.le_trans hB0 hb.size
   clear hw hb hs
   go_wp2_with fail
   refine (wbyte B wb (l ++ [114, 101, 116, 117, 114, 110] ++ [32] ++ Wri.wr x0 (.at (-2))) 59 _ WT.out (by (try simp only [ln] at hl); (try simp only [ln]); omega) hB0).mono ?_
   rintro e w4 ⟨rfl, hw, hb, hs⟩
   replace WT := hid hw
   replace NB := st hs NB HNENB
   replace HU := hid (HU.out.trans hb)
   replace HS := hid (HS.out.trans hs)
   replace hB0 := Nat.le_trans hB0 hb.size
   clear hw hb hs
   go_wp2
   go_end0
   exact ⟨rfl, by rw [wr_st25b nu t kl x0 HX0.out HLN.out]; simpa [List.append_assoc] using WT.out, HU.out, HS.out⟩
 by_cases y26 : k = 26
 ·subst y26
  have hl2 : l.length + ([98, 114, 101, 97, 107, 59] : List UInt8).length ≤ 70368744177664 := hl
  clear hl
  have hl := hl2
  clear hl2
  go_enter Tryz.func20, Tryz.ntmps20
  go_upto_region 1 with fail
  refine gen_world (F := fun W => Box W w.heap.size 24 (nc 26 nu t (.slice A kl.length cap)) ∧ Below w.heap.size w W) ⟨Box.new w _ _, below1 w _⟩ ?_
  rintro W0 ⟨b0, hU⟩
  have NB := hid b0
  have WT := hid (hW.below hU)
  have HU : Hid (Below B w W0) := hid (hU.mono hBw)
  have HS : Hid (Stays wb w W0) := hid (Stays.below hU)
  have hB0 : B ≤ W0.heap.size := Nat.le_trans hBw hU.size
  have hnw : w.heap.size ≠ wb := by omega
  have hbx := Nat.lt_of_lt_of_le b0.lt (Nat.le_refl _)
  clear b0 hU
  have HNENB := hid hnw
  have c0 := NB.out.cell 0
  simp [nc] at c0
  go_upto_region 27 with fail
  clear c0
  go_wp2_with fail
  refine (wstr B wb (l) [98, 114, 101, 97, 107, 59] _ WT.out (by (try simp only [ln] at hl); (try simp only [ln]); omega) hB0).mono ?_
  rintro e w1 ⟨⟨v, rfl⟩, hw, hb, hs⟩
  replace WT := hid hw
  replace NB := st hs NB HNENB
  replace HU := hid (HU.out.trans hb)
  replace HS := hid (HS.out.trans hs)
  replace hB0 := Nat.le_trans hB0 hb.size
  clear hw hb hs
  go_wp2
  go_end0
  exact ⟨rfl, WT.out, HU.out, HS.out⟩
 by_cases y27 : k = 27
 ·subst y27
  have hl2 : l.length + ([99, 111, 110, 116, 105, 110, 117, 101, 59] : List UInt8).length ≤ 70368744177664 := hl
  clear hl
  have hl := hl2
  clear hl2
  go_enter Tryz.func20, Tryz.ntmps20
  go_upto_region 1 with fail
  refine gen_world (F := fun W => Box W w.heap.size 24 (nc 27 nu t (.slice A kl.length cap)) ∧ Below w.heap.size w W) ⟨Box.new w _ _, below1 w _⟩ ?_
  rintro W0 ⟨b0, hU⟩
  have NB := hid b0
  have WT := hid (hW.below hU)
  have HU : Hid (Below B w W0) := hid (hU.mono hBw)
  have HS : Hid (Stays wb w W0) := hid (Stays.below hU)
  have hB0 : B ≤ W0.heap.size := Nat.le_trans hBw hU.size
  have hnw : w.heap.size ≠ wb := by omega
  have hbx := Nat.lt_of_lt_of_le b0.lt (Nat.le_refl _)
  clear b0 hU
  have HNENB := hid hnw
  have c0 := NB.out.cell 0
  simp [nc] at c0
  go_upto_region 29 with fail
  clear c0
  go_wp2_with fail
  refine (wstr B wb (l) [99, 111, 110, 116, 105, 110, 117, 101, 59] _ WT.out (by (try simp only [ln] at hl); (try simp only [ln]); omega) hB0).mono ?_
  rintro e w1 ⟨⟨v, rfl⟩, hw, hb, hs⟩
  replace WT := hid hw
  replace NB := st hs NB HNENB
  replace HU := hid (HU.out.trans hb)
  replace HS := hid (HS.out.trans hs)
  replace hB0 := Nat.le_trans hB0 hb.size
  clear hw hb hs
  go_wp2
  go_end0
  exact ⟨rfl, WT.out, HU.out, HS.out⟩
 by_cases y28 : k = 28
 ·subst y28
  have hlen : kl.length = 1 := (ri_len hR).2.2.1 (by simp)
  obtain ⟨x0, hx0⟩ : ∃ x, kl[0]? = some x := ⟨_, List.getElem?_eq_getElem (by omega)⟩
  obtain ⟨g0, o0, rfl, hg0, _, _⟩ := HROW.out (by omega)
  obtain ⟨b0, c0, d0, hn0, hc0⟩ := kid4 HK.out HROW.out hx0
  have HN0 := hid hn0
  have HC0 := hid hc0
  have HX0 := hid hx0
  have HR0 := hid (ri_kid hR x0 (List.mem_of_getElem? hx0))
  have hxw0 := Wri.wg_mem (List.mem_of_getElem? hx0)
  have HW0 : Hid (Wri.wg x0 ≤ N ∧ Wri.wg x0 ≤ 1048576) := hid (by simp only [Wri.wg] at hN hM; exact ⟨by omega, by omega⟩)
  clear hn0 hc0 hx0 hxw0
  rw [wr_st28 nu t kl x0 HX0.out] at hl
  go_enter Tryz.func20, Tryz.ntmps20
  go_upto_region 1 with fail
  refine gen_world (F := fun W => Box W w.heap.size 24 (nc 28 nu t (.slice (some ⟨g0, o0, none⟩) 1 cap)) ∧ Below w.heap.size w W) ⟨Box.new w _ _, below1 w _⟩ ?_
  rintro W0 ⟨b0, hU⟩
  have NB := hid b0
  have WT := hid (hW.below hU)
  have HU : Hid (Below B w W0) := hid (hU.mono hBw)
  have HS : Hid (Stays wb w W0) := hid (Stays.below hU)
  have hB0 : B ≤ W0.heap.size := Nat.le_trans hBw hU.size
  have hnw : w.heap.size ≠ wb := by omega
  have hbx := Nat.lt_of_lt_of_le b0.lt (Nat.le_refl _)
  clear b0 hU
  have HNENB := hid hnw
  have c0 := NB.out.cell 0
  simp [nc] at c0
  go_upto_region 31 with fail
  clear c0
  go_wp2_with fail
  refine (wstr B wb (l) [116, 104, 114, 111, 119, 32] _ WT.out (by (try simp only [ln] at hl); (try simp only [ln]); omega) hB0).mono ?_
  rintro e w1 ⟨⟨v, rfl⟩, hw, hb, hs⟩
  replace WT := hid hw
  replace NB := st hs NB HNENB
  replace HU := hid (HU.out.trans hb)
  replace HS := hid (HS.out.trans hs)
  replace hB0 := Nat.le_trans hB0 hb.size
  clear hw hb hs
  obtain ⟨k0, k1, k2, k3⟩ := HC0.out w1 HU.out
  simp at k0 k1 k2 k3
  have c3 := NB.out.cell 3
  simp [nc] at c3
  go_wp2_with fail
  refine (IH.any HW0.out.1 HW0.out.2 HR0.out (HN0.out.belowB HU.out) WT.out hB0 h7 (HE.out.below HU.out h7) (by (try simp only [ln] at hl); (try simp only [ln]); omega)).mono ?_
  rintro e w2 ⟨rfl, hw, hb, hs⟩
  clear k0 k1 k2 k3 c3
  replace WT := hid hw
  replace NB := st hs NB HNENB
  replace HU := hid (HU.out.trans hb)
  replace HS := hid (HS.out.trans hs)
  replace hB0 := Nat.le_trans hB0 hb.size
  clear hw hb hs
  go_wp2_with fail
  refine (wbyte B wb (l ++ [116, 104, 114, 111, 119, 32] ++ Wri.wr x0 (.at (-2))) 59 _ WT.out (by (try simp only [ln] at hl); (try simp only [ln]); omega) hB0).mono ?_
  rintro e w3 ⟨rfl, hw, hb, hs⟩
  replace WT := hid hw
  replace NB := st hs NB HNENB
  replace HU := hid (HU.out.trans hb)
  replace HS := hid (HS.out.trans hs)
  replace hB0 := Nat.le_trans hB0 hb.size
  clear hw hb hs
  go_wp2
  go_end0
  exact ⟨rfl, by rw [wr_st28 nu t kl x0 HX0.out]; simpa [List.append_assoc] using WT.out, HU.out, HS.out⟩
 by_cases y29 : k = 29
 ·subst y29
  have INF : (Tryz.prog.info? 24).map (·.size) = some (nc 29 nu t (.slice A kl.length cap)).size := info_nod
  go_enter Tryz.func20, Tryz.ntmps20
  go_upto_region 1 with fail
  refine gen_world (F := fun W => Box W w.heap.size 24 (nc 29 nu t (.slice A kl.length cap)) ∧ Below w.heap.size w W) ⟨Box.new w _ _, below1 w _⟩ ?_
  rintro W0 ⟨b0, hU⟩
  have NB := hid b0
  have WT := hid (hW.below hU)
  have HU : Hid (Below B w W0) := hid (hU.mono hBw)
  have HS : Hid (Stays wb w W0) := hid (Stays.below hU)
  have hB0 : B ≤ W0.heap.size := Nat.le_trans hBw hU.size
  have hnw : w.heap.size ≠ wb := by omega
  have hbx := Nat.lt_of_lt_of_le b0.lt (Nat.le_refl _)
  clear b0 hU
  have HNENB := hid hnw
  have c0 := NB.out.cell 0
  simp [nc] at c0
  go_wp2_with (refine wpList_load_row rfl 24 (.tmp 3) rfl w.heap.size rfl _ (nc 29 nu t (.slice A kl.length cap)) (0, 0) _ NB.out Tryz.underlying24 rfl INF ?_)
  refine (TR hN hM hR rfl (HN.out.belowB HU.out) WT.out hB0 h7 (HE.out.below HU.out h7) hl).mono ?_
  rintro e w2 ⟨rfl, hw, hb, hs⟩
  go_wp2
  go_end0
  exact ⟨rfl, hw, HU.out.trans hb, HS.out.trans hs⟩
 by_cases y30 : k = 30
 ·subst y30
  have INF : (Tryz.prog.info? 24).map (·.size) = some (nc 30 nu t (.slice A kl.length cap)).size := info_nod
  go_enter Tryz.func20, Tryz.ntmps20
  go_upto_region 1 with fail
  refine gen_world (F := fun W => Box W w.heap.size 24 (nc 30 nu t (.slice A kl.length cap)) ∧ Below w.heap.size w W) ⟨Box.new w _ _, below1 w _⟩ ?_
  rintro W0 ⟨b0, hU⟩
  have NB := hid b0
  have WT := hid (hW.below hU)
  have HU : Hid (Below B w W0) := hid (hU.mono hBw)
  have HS : Hid (Stays wb w W0) := hid (Stays.below hU)
  have hB0 : B ≤ W0.heap.size := Nat.le_trans hBw hU.size
  have hnw : w.heap.size ≠ wb := by omega
  have hbx := Nat.lt_of_lt_of_le b0.lt (Nat.le_refl _)
  clear b0 hU
  have HNENB := hid hnw
  have c0 := NB.out.cell 0
  simp [nc] at c0
  go_wp2_with (refine wpList_load_row rfl 24 (.tmp 3) rfl w.heap.size rfl _ (nc 30 nu t (.slice A kl.length cap)) (0, 0) _ NB.out Tryz.underlying24 rfl INF ?_)
  refine (BL hN hM hR (HN.out.belowB HU.out) WT.out hB0 h7 (HE.out.below HU.out h7) hl).mono ?_
  rintro e w2 ⟨rfl, hw, hb, hs⟩
  go_wp2
  go_end0
  exact ⟨rfl, hw, HU.out.trans hb, HS.out.trans hs⟩
 by_cases y31 : k = 31
 ·subst y31
  have hlen : kl.length = 1 := (ri_len hR).2.2.1 (by simp)
  obtain ⟨x0, hx0⟩ : ∃ x, kl[0]? = some x := ⟨_, List.getElem?_eq_getElem (by omega)⟩
  obtain ⟨g0, o0, rfl, hg0, _, _⟩ := HROW.out (by omega)
  obtain ⟨b0, c0, d0, hn0, hc0⟩ := kid4 HK.out HROW.out hx0
  have HN0 := hid hn0
  have HC0 := hid hc0
  have HX0 := hid hx0
  have HR0 := hid (ri_kid hR x0 (List.mem_of_getElem? hx0))
  have hxw0 := Wri.wg_mem (List.mem_of_getElem? hx0)
  have HW0 : Hid (Wri.wg x0 ≤ N ∧ Wri.wg x0 ≤ 1048576) := hid (by simp only [Wri.wg] at hN hM; exact ⟨by omega, by omega⟩)
  clear hn0 hc0 hx0 hxw0
  rw [wr_st31 nu t kl x0 HX0.out] at hl
  go_enter Tryz.func20, Tryz.ntmps20
  go_upto_region 1 with fail
  refine gen_world (F := fun W => Box W w.heap.size 24 (nc 31 nu t (.slice (some ⟨g0, o0, none⟩) 1 cap)) ∧ Below w.heap.size w W) ⟨Box.new w _ _, below1 w _⟩ ?_
  rintro W0 ⟨b0, hU⟩
  have NB := hid b0
  have WT := hid (hW.below hU)
  have HU : Hid (Below B w W0) := hid (hU.mono hBw)
  have HS : Hid (Stays wb w W0) := hid (Stays.below hU)
  have hB0 : B ≤ W0.heap.size := Nat.le_trans hBw hU.size
  have hnw : w.heap.size ≠ wb := by omega
  have hbx := Nat.lt_of_lt_of_le b0.lt (Nat.le_refl _)
  clear b0 hU
  have HNENB := hid hnw
  have c0 := NB.out.cell 0
  simp [nc] at c0
  obtain ⟨k0, k1, k2, k3⟩ := HC0.out W0 HU.out
  simp at k0 k1 k2 k3
  have c3 := NB.out.cell 3
  simp [nc] at c3
  go_wp2_with fail
  refine (front_any HR0.out (HN0.out.belowB HU.out)).mono ?_
  rintro e w1 ⟨rfl, hq⟩
  clear k0 k1 k2 k3 c3 c0
  replace WT := hid (WT.out.below hq)
  replace NB := bl NB hq
  replace HU := hid (HU.out.trans (hq.mono hB0))
  replace HS := hid (HS.out.trans (Stays.below hq))
  replace hB0 := Nat.le_trans hB0 hq.size
  clear hq
  obtain ⟨f, hf⟩ : ∃ f, Wri.front x0 = f := ⟨_, rfl⟩
  rw [hf] at hl ⊢
  have HF := hid hf
  clear hf
  by_cases h7f : f = 7
  ·have hc : f = 7 ∨ f = 9 := .inl h7f
   rw [if_pos hc] at hl
   have HC := hid hc
   clear hc
   have g7 : (f == 7) = true := by rw [h7f]; rfl
   go_upto_region 41 with fail
   go_wp2_with fail
   refine (wbyte B wb (l) 40 _ WT.out (by (try simp only [ln] at hl); (try simp only [ln]); omega) hB0).mono ?_
   rintro e w2 ⟨rfl, hw, hb, hs⟩
   replace WT := hid hw
   replace NB := st hs NB HNENB
   replace HU := hid (HU.out.trans hb)
   replace HS := hid (HS.out.trans hs)
   replace hB0 := Nat.le_trans hB0 hb.size
   clear hw hb hs
   obtain ⟨k0, k1, k2, k3⟩ := HC0.out w2 HU.out
   simp at k0 k1 k2 k3
   have c3 := NB.out.cell 3
   simp [nc] at c3
   go_wp2_with fail
   refine (IH.any HW0.out.1 HW0.out.2 HR0.out (HN0.out.belowB HU.out) WT.out hB0 h7 (HE.out.below HU.out h7) (by (try simp only [ln] at hl); (try simp only [ln]); omega)).mono ?_
   rintro e w3 ⟨rfl, hw, hb, hs⟩
   clear k0 k1 k2 k3 c3
   replace WT := hid hw
   replace NB := st hs NB HNENB
   replace HU := hid (HU.out.trans hb)
   replace HS := hid (HS.out.trans hs)
   replace hB0 := Nat.le_trans hB0 hb.size
   clear hw hb hs
   go_wp2_with fail
   refine (wbyte B wb (l ++ [40] ++ Wri.wr x0 (.at (-2))) 41 _ WT.out (by (try simp only [ln] at hl); (try simp only [ln]); omega) hB0).mono ?_
   rintro e w4 ⟨rfl, hw, hb, hs⟩
   replace WT := hid hw
   replace NB := st hs NB HNENB
   replace HU := hid (HU.out.trans hb)
   replace HS := hid (HS.out.trans hs)
   replace hB0 := Nat.le_trans hB0 hb.size
   clear hw hb hs
   go_wp2_with fail
   refine (wbyte B wb (l ++ [40] ++ Wri.wr x0 (.at (-2)) ++ [41]) 59 _ WT.out (by (try simp only [ln] at hl); (try simp only [ln]); omega) hB0).mono ?_
   rintro e w5 ⟨rfl, hw, hb, hs⟩
   replace WT := hid hw
   replace NB := st hs NB HNENB
   replace HU := hid (HU.out.trans hb)
   replace HS := hid (HS.out.trans hs)
   replace hB0 := Nat.le_trans hB0 hb.size
   clear hw hb hs
   go_wp2
   go_end0
   exact ⟨rfl, by rw [wr_st31 nu t kl x0 HX0.out, HF.out, if_pos HC.out]; simpa [List.append_assoc] using WT.out, HU.out, HS.out⟩
  by_cases h9f : f = 9
  ·have hc : f = 7 ∨ f = 9 := .inr h9f
   rw [if_pos hc] at hl
   have HC := hid hc
   clear hc
   have g7 : (f == 7) = false := bn h7f
   have g9 : (f == 9) = true := by rw [h9f]; rfl
   go_upto_region 41 with fail
   go_wp2_with fail
   refine (wbyte B wb (l) 40 _ WT.out (by (try simp only [ln] at hl); (try simp only [ln]); omega) hB0).mono ?_
   rintro e w2 ⟨rfl, hw, hb, hs⟩
   replace WT := hid hw
   replace NB := st hs NB HNENB
   replace HU := hid (HU.out.trans hb)
   replace HS := hid (HS.out.trans hs)
   replace hB0 := Nat.le_trans hB0 hb.size
   clear hw hb hs
   obtain ⟨k0, k1, k2, k3⟩ := HC0.out w2 HU.out
   simp at k0 k1 k2 k3
   have c3 := NB.out.cell 3
   simp [nc] at c3
   go_wp2_with fail
   refine (IH.any HW0.out.1 HW0.out.2 HR0.out (HN0.out.belowB HU.out) WT.out hB0 h7 (HE.out.below HU.out h7) (by (try simp only [ln] at hl); (try simp only [ln]); omega)).mono ?_
   rintro e w3 ⟨rfl, hw, hb, hs⟩
   clear k0 k1 k2 k3 c3
   replace WT := hid hw
   replace NB := st hs NB HNENB
   replace HU := hid (HU.out.trans hb)
   replace HS := hid (HS.out.trans hs)
   replace hB0 := Nat.le_trans hB0 hb.size
   clear hw hb hs
   go_wp2_with fail
   refine (wbyte B wb (l ++ [40] ++ Wri.wr x0 (.at (-2))) 41 _ WT.out (by (try simp only [ln] at hl); (try simp only [ln]); omega) hB0).mono ?_
   rintro e w4 ⟨rfl, hw, hb, hs⟩
   replace WT := hid hw
   replace NB := st hs NB HNENB
   replace HU := hid (HU.out.trans hb)
   replace HS := hid (HS.out.trans hs)
   replace hB0 := Nat.le_trans hB0 hb.size
   clear hw hb hs
   go_wp2_with fail
   refine (wbyte B wb (l ++ [40] ++ Wri.wr x0 (.at (-2)) ++ [41]) 59 _ WT.out (by (try simp only [ln] at hl); (try simp only [ln]); omega) hB0).mono ?_
   rintro e w5 ⟨rfl, hw, hb, hs⟩
   replace WT := hid hw
   replace NB := st hs NB HNENB
   replace HU := hid (HU.out.trans hb)
   replace HS := hid (HS.out.trans hs)
   replace hB0 := Nat.le_trans hB0 hb.size
   clear hw hb hs
   go_wp2
   go_end0
   exact ⟨rfl, by rw [wr_st31 nu t kl x0 HX0.out, HF.out, if_pos HC.out]; simpa [List.append_assoc] using WT.out, HU.out, HS.out⟩
  have hc : ¬ (f = 7 ∨ f = 9) := by omega
  rw [if_neg hc] at hl
  have HC := hid hc
  clear hc
  have g7 : (f == 7) = false := bn h7f
  have g9 : (f == 9) = false := bn h9f
  go_upto_region 44 with fail
  obtain ⟨k0, k1, k2, k3⟩ := HC0.out w1 HU.out
  simp at k0 k1 k2 k3
  have c3 := NB.out.cell 3
  simp [nc] at c3
  go_wp2_with fail
  refine (IH.any HW0.out.1 HW0.out.2 HR0.out (HN0.out.belowB HU.out) WT.out hB0 h7 (HE.out.below HU.out h7) (by (try simp only [ln] at hl); (try simp only [ln]); omega)).mono ?_
  rintro e w2 ⟨rfl, hw, hb, hs⟩
  clear k0 k1 k2 k3 c3
  replace WT := hid hw
  replace NB := st hs NB HNENB
  replace HU := hid (HU.out.trans hb)
  replace HS := hid (HS.out.trans hs)
  replace hB0 := Nat.le_trans hB0 hb.size
  clear hw hb hs
  go_wp2_with fail
  refine (wbyte B wb (l ++ Wri.wr x0 (.at (-2))) 59 _ WT.out (by (try simp only [ln] at hl); (try simp only [ln]); omega) hB0).mono ?_
  rintro e w3 ⟨rfl, hw, hb, hs⟩
  replace WT := hid hw
  replace NB := st hs NB HNENB
  replace HU := hid (HU.out.trans hb)
  replace HS := hid (HS.out.trans hs)
  replace hB0 := Nat.le_trans hB0 hb.size
  clear hw hb hs
  go_wp2
  go_end0
  exact ⟨rfl, by rw [wr_st31 nu t kl x0 HX0.out, HF.out, if_neg HC.out]; simpa [List.append_assoc] using WT.out, HU.out, HS.out⟩
 have n20 : (k == 20) = false := bn y20
 have n21 : (k == 21) = false := bn y21
 have n22 : (k == 22) = false := bn y22
 have n23 : (k == 23) = false := bn y23
 have n24 : (k == 24) = false := bn y24
 have n25 : (k == 25) = false := bn y25
 have n26 : (k == 26) = false := bn y26
 have n27 : (k == 27) = false := bn y27
 have n28 : (k == 28) = false := bn y28
 have n29 : (k == 29) = false := bn y29
 have n30 : (k == 30) = false := bn y30
 have n31 : (k == 31) = false := bn y31
 have hl0 : Wri.wr (.mk k nu t kl) .stmt = [] := by show Wri.wStmt k nu t kl (Wri.wrs kl) = []; unfold Wri.wStmt; rw [if_neg y20, if_neg y21, if_neg y22, if_neg y23, if_neg y24, if_neg y25, if_neg y26, if_neg y27, if_neg y28, if_neg y29, if_neg y30, if_neg y31]
 go_enter Tryz.func20, Tryz.ntmps20
 go_upto_region 1 with fail
 refine gen_world (F := fun W => Box W w.heap.size 24 (nc k nu t (.slice A kl.length cap)) ∧ Below w.heap.size w W) ⟨Box.new w _ _, below1 w _⟩ ?_
 rintro W0 ⟨b0, hU⟩
 have NB := hid b0
 have WT := hid (hW.below hU)
 have HU : Hid (Below B w W0) := hid (hU.mono hBw)
 have HS : Hid (Stays wb w W0) := hid (Stays.below hU)
 have hB0 : B ≤ W0.heap.size := Nat.le_trans hBw hU.size
 have hnw : w.heap.size ≠ wb := by omega
 have hbx := Nat.lt_of_lt_of_le b0.lt (Nat.le_refl _)
 clear b0 hU
 have HNENB := hid hnw
 have c0 := NB.out.cell 0
 simp [nc] at c0
 go_wp2
 go_end0
 exact ⟨rfl, by rw [hl0]; simpa using WT.out, HU.out, HS.out⟩
theorem wall : ∀ N, Wall N
 | 0 => by
  have z : ∀ n : Pars.Node, Wri.wg n ≤ 0 → False := fun n h => by cases n; simp [Wri.wg] at h
  exact ⟨fun h => (z _ h).elim, fun h => (z _ h).elim, fun h => (z _ h).elim, fun h => (z _ h).elim, fun h => (z _ h).elim, fun h => (z _ h).elim, fun h => (z _ h).elim, fun h => (z _ h).elim, fun q => fun h => (z _ h).elim⟩
 | N + 1 => by
  have IH := wall N
  have fn := @function_w N IH
  have fst := @first_w N IH fn
  have ex := @ex_w N IH fst
  have at_ := @at_w N ex
  have any := @any_w N at_
  have bl := @block_w N IH
  have ifs := @ifs_w N IH
  have tries := @tries_w N IH
  have st := @stmt_w N IH ifs tries bl
  exact ⟨bl, st, any, ex, fst, fn, ifs, tries, at_⟩
end Go.Proofs.YtonjdlialejedaaGreatDoor
