/-
  Texts that the law leans on: PwV, JlR. Conditions: as each says.
-/
import Derived.Test.YtonjdlialejedaaGreatDoorSBb
import Derived.Test.YtonjdlialejedaaGreatDoorSAv
import Derived.Test.YtonjdlialejedaaGreatDoorSAq
import Derived.Test.YtonjdlialejedaaGreatDoorSAb
import Derived.IntWalk
import Derived.StillTailTactics
import Derived.Test.YtonjdlialejedaaGreatDoorSAa
set_option linter.unusedSimpArgs false
set_option linter.unusedVariables false
namespace Go.Proofs.YtonjdlialejedaaGreatDoor
open Go.Lib (hid)
open Go.RowKit
theorem wr_tries1 (k : Int) (t : List UInt8) (l : List Pars.Node) (x0 x1 : Pars.Node) (h0 : l[0]? = some x0) (h1 : l[1]? = some x1) : Wri.wr (.mk k 1 t l) .tries = [116, 114, 121, 32] ++ Wri.wr x0 .block ++ ([32, 99, 97, 116, 99, 104, 32, 40] ++ t ++ [41, 32]) ++ Wri.wr x1 .block := by
 show Wri.wTries 1 t (Wri.wrs l) = _
 unfold Wri.wTries
 simp [wrs_kid h0, wrs_kid h1, List.append_assoc]
theorem wr_tries2 (k : Int) (t : List UInt8) (l : List Pars.Node) (x0 x1 : Pars.Node) (h0 : l[0]? = some x0) (h1 : l[1]? = some x1) : Wri.wr (.mk k 2 t l) .tries = [116, 114, 121, 32] ++ Wri.wr x0 .block ++ [32, 102, 105, 110, 97, 108, 108, 121, 32] ++ Wri.wr x1 .block := by
 show Wri.wTries 2 t (Wri.wrs l) = _
 unfold Wri.wTries
 simp [wrs_kid h0, wrs_kid h1, List.append_assoc]
theorem wr_tries3 (k : Int) (t : List UInt8) (l : List Pars.Node) (x0 x1 x2 : Pars.Node) (h0 : l[0]? = some x0) (h1 : l[1]? = some x1) (h2 : l[2]? = some x2) : Wri.wr (.mk k 3 t l) .tries = [116, 114, 121, 32] ++ Wri.wr x0 .block ++ ([32, 99, 97, 116, 99, 104, 32, 40] ++ t ++ [41, 32]) ++ Wri.wr x1 .block ++ [32, 102, 105, 110, 97, 108, 108, 121, 32] ++ Wri.wr x2 .block := by
 show Wri.wTries 3 t (Wri.wrs l) = _
 unfold Wri.wTries
 simp [wrs_kid h0, wrs_kid h1, wrs_kid h2, List.append_assoc]
theorem fields_try {nu : Int} {t : List UInt8} (h : Wri.fields 29 nu t = true) : nu = 1 ∨ nu = 2 ∨ nu = 3 := by
 unfold Wri.fields at h
 simp at h
 omega
set_option maxRecDepth 100000 in
set_option maxHeartbeats 4000000 in
theorem tries_w {N : Nat} (IH : Wall N) : ∀ {n : Pars.Node} {cs : Array Value} {w : World} {B wb : Nat} {l : List UInt8}, Wri.wg n ≤ N + 1 → Wri.wg n ≤ 1048576 → Ri n → n.kind = 29 → NodeAt w (fun g => g < B) n cs → Wt B wb l w → B ≤ w.heap.size → 7 ≤ B → EnvW w → l.length + (Wri.wr n .tries).length ≤ 70368744177664 → Calls Tryz.prog 36 #[.pointer (some ⟨wb, 0, none⟩), .agg cs] w (WOut B wb l (Wri.wr n .tries) w) := by
 intro n cs w B wb l hN hM hR hk9 hn hW hBw h7 he hl
 obtain ⟨k, nu, t, kl⟩ := n
 have hn0 := hn
 unfold NodeAt at hn
 obtain ⟨A, cap, css, rfl, hc1, hc2, hrow, hk⟩ := hn
 have HROW := hid hrow
 have HK := hid hk
 have HN := hid hn0
 have HE := hid he
 have hwlt := hW.lt
 have hll := Wri.wgs_len kl
 clear hrow hk hn0 he
 have hk29 : k = 29 := hk9
 subst hk29
 rcases fields_try ((ri_parts hR).2.1) with hnu | hnu | hnu
 ·subst hnu
  have hlen := (ri_len hR).2.2.2.2.2.2.2 hk9
  have hlen : kl.length = 2 := by simpa using hlen
  obtain ⟨x0, hx0⟩ : ∃ x, kl[0]? = some x := ⟨_, List.getElem?_eq_getElem (by omega)⟩
  obtain ⟨x1, hx1⟩ : ∃ x, kl[1]? = some x := ⟨_, List.getElem?_eq_getElem (by omega)⟩
  obtain ⟨g0, o0, rfl, hg0, _, _⟩ := HROW.out (by omega)
  obtain ⟨b0, c0, d0, hn0, hc0⟩ := kid4 HK.out HROW.out hx0
  have HN0 := hid hn0
  have HC0 := hid hc0
  have HX0 := hid hx0
  have HR0 := hid (ri_kid hR x0 (List.mem_of_getElem? hx0))
  have hxw0 := Wri.wg_mem (List.mem_of_getElem? hx0)
  have HW0 : Hid (Wri.wg x0 ≤ N ∧ Wri.wg x0 ≤ 1048576) := hid (by simp only [Wri.wg] at hN hM; exact ⟨by omega, by omega⟩)
  clear hn0 hc0 hx0 hxw0
  obtain ⟨b1, c1, d1, hn1, hc1⟩ := kid4 HK.out HROW.out hx1
  have HN1 := hid hn1
  have HC1 := hid hc1
  have HX1 := hid hx1
  have HR1 := hid (ri_kid hR x1 (List.mem_of_getElem? hx1))
  have hxw1 := Wri.wg_mem (List.mem_of_getElem? hx1)
  have HW1 : Hid (Wri.wg x1 ≤ N ∧ Wri.wg x1 ≤ 1048576) := hid (by simp only [Wri.wg] at hN hM; exact ⟨by omega, by omega⟩)
  clear hn1 hc1 hx1 hxw1
  rw [wr_tries1 29 t kl x0 x1 HX0.out HX1.out] at hl
  have HLN := hid hlen
  have hts : (byt t).size ≤ 70368744177664 := by rw [byt_size]; simp only [List.length_append, List.length_cons] at hl; omega
  go_enter Tryz.func36, Tryz.ntmps36
  go_upto_region 1 with fail
  refine gen_world (F := fun W => Box W w.heap.size 24 (nc 29 1 t (.slice (some ⟨g0, o0, none⟩) 2 cap)) ∧ Below w.heap.size w W) ⟨Box.new w _ _, below1 w _⟩ ?_
  rintro W0 ⟨b0, hU⟩
  have NB := hid b0
  have WT := hid (hW.below hU)
  have HU : Hid (Below B w W0) := hid (hU.mono hBw)
  have HS : Hid (Stays wb w W0) := hid (Stays.below hU)
  have hB0 : B ≤ W0.heap.size := Nat.le_trans hBw hU.size
  have hnw : w.heap.size ≠ wb := by omega
  have hbx := Nat.lt_of_lt_of_le b0.lt (Nat.le_refl _)
  clear b0 hU
  have HNENB := hid hnw
  go_wp2_with fail
  refine (wstr B wb (l) [116, 114, 121, 32] _ WT.out (by (try simp only [ln] at hl); (try simp only [ln]); omega) hB0).mono ?_
  rintro e w1 ⟨⟨v, rfl⟩, hw, hb, hs⟩
  replace WT := hid hw
  replace NB := st hs NB HNENB
  replace HU := hid (HU.out.trans hb)
  replace HS := hid (HS.out.trans hs)
  replace hB0 := Nat.le_trans hB0 hb.size
  clear hw hb hs
  obtain ⟨k0, k1, k2, k3⟩ := HC0.out w1 HU.out
  simp at k0 k1 k2 k3
  have c3 := NB.out.cell 3
  simp [nc] at c3
  go_wp2_with fail
  refine (IH.block HW0.out.1 HW0.out.2 HR0.out (HN0.out.belowB HU.out) WT.out hB0 h7 (HE.out.below HU.out h7) (by (try simp only [ln] at hl); (try simp only [ln]); omega)).mono ?_
  rintro e w2 ⟨rfl, hw, hb, hs⟩
  clear k0 k1 k2 k3 c3
  replace WT := hid hw
  replace NB := st hs NB HNENB
  replace HU := hid (HU.out.trans hb)
  replace HS := hid (HS.out.trans hs)
  replace hB0 := Nat.le_trans hB0 hb.size
  clear hw hb hs
  have c1 := NB.out.cell 1
  simp [nc] at c1
  have c2 := NB.out.cell 2
  simp [nc] at c2
  have hcc : ¬ 9223372036854775807 < 8 + (byt t).size := by omega
  have hcc2 : ¬ 9223372036854775807 < 8 + (byt t).size + 2 := by omega
  have hg8 : (⟨#[32, 99, 97, 116, 99, 104, 32, 40]⟩ : ByteArray).size = 8 := rfl
  have hg2 : (⟨#[41, 32]⟩ : ByteArray).size = 2 := rfl
  have HPC : Hid ((⟨#[32, 99, 97, 116, 99, 104, 32, 40]⟩ ++ byt t ++ ⟨#[41, 32]⟩ : ByteArray) = byt ([32, 99, 97, 116, 99, 104, 32, 40] ++ t ++ [41, 32])) := hid (by rw [← byt_append, ← byt_append]; rfl)
  go_upto_region 5 with fail
  go_wp2
  go_still_tail 7, (by kernel_rfl)
  change wpList _ _ _ _ _ w2.drew
  have hdr : Below w2.heap.size w2 w2.drew := Below.drew (Below.refl _ _)
  have hdz : w2.drew.heap.size = w2.heap.size := rfl
  obtain ⟨wd, hwd⟩ : ∃ wd, w2.drew = wd := ⟨_, rfl⟩
  rw [hwd] at hdr hdz ⊢
  replace WT := hid (WT.out.below hdr)
  replace NB := bl NB hdr
  replace HU := hid (HU.out.trans (hdr.mono hB0))
  replace HS := hid (HS.out.trans (Stays.below hdr))
  have hB1 : B ≤ wd.heap.size := by omega
  clear hB0
  have hB0 := hB1
  clear hdr hdz hwd
  clear c1 c2
  go_wp2_with fail
  rw [HPC.out]
  refine (wstr B wb (l ++ [116, 114, 121, 32] ++ Wri.wr x0 .block) ([32, 99, 97, 116, 99, 104, 32, 40] ++ t ++ [41, 32]) _ WT.out (by (try simp only [ln] at hl); (try simp only [ln]); omega) hB0).mono ?_
  rintro e w3 ⟨⟨v, rfl⟩, hw, hb, hs⟩
  replace WT := hid hw
  replace NB := st hs NB HNENB
  replace HU := hid (HU.out.trans hb)
  replace HS := hid (HS.out.trans hs)
  replace hB0 := Nat.le_trans hB0 hb.size
  clear hw hb hs
  obtain ⟨k0, k1, k2, k3⟩ := HC1.out w3 HU.out
  have kk0 : w3.cell? ⟨g0, o0 + 4, none⟩ = some (.int .i64 x1.kind) := by simpa [Nat.add_assoc] using k0
  have kk1 : w3.cell? ⟨g0, o0 + 5, none⟩ = some b1 := by simpa [Nat.add_assoc] using k1
  have kk2 : w3.cell? ⟨g0, o0 + 6, none⟩ = some c1 := by simpa [Nat.add_assoc] using k2
  have kk3 : w3.cell? ⟨g0, o0 + 7, none⟩ = some d1 := by simpa [Nat.add_assoc] using k3
  have c3 := NB.out.cell 3
  simp [nc] at c3
  go_wp2_with fail
  refine (IH.block HW1.out.1 HW1.out.2 HR1.out (HN1.out.belowB HU.out) WT.out hB0 h7 (HE.out.below HU.out h7) (by (try simp only [ln] at hl); (try simp only [ln]); omega)).mono ?_
  rintro e w4 ⟨rfl, hw, hb, hs⟩
  clear k0 k1 k2 k3 kk0 kk1 kk2 kk3 c3
  replace WT := hid hw
  replace NB := st hs NB HNENB
  replace HU := hid (HU.out.trans hb)
  replace HS := hid (HS.out.trans hs)
  replace hB0 := Nat.le_trans hB0 hb.size
  clear hw hb hs
  have c1 := NB.out.cell 1
  simp [nc] at c1
  go_wp2
  go_end0
  exact ⟨rfl, by rw [wr_tries1 29 t kl x0 x1 HX0.out HX1.out]; simpa [List.append_assoc] using WT.out, HU.out, HS.out⟩
 ·subst hnu
  have hlen := (ri_len hR).2.2.2.2.2.2.2 hk9
  have hlen : kl.length = 2 := by simpa using hlen
  obtain ⟨x0, hx0⟩ : ∃ x, kl[0]? = some x := ⟨_, List.getElem?_eq_getElem (by omega)⟩
  obtain ⟨x1, hx1⟩ : ∃ x, kl[1]? = some x := ⟨_, List.getElem?_eq_getElem (by omega)⟩
  obtain ⟨g0, o0, rfl, hg0, _, _⟩ := HROW.out (by omega)
  obtain ⟨b0, c0, d0, hn0, hc0⟩ := kid4 HK.out HROW.out hx0
  have HN0 := hid hn0
  have HC0 := hid hc0
  have HX0 := hid hx0
  have HR0 := hid (ri_kid hR x0 (List.mem_of_getElem? hx0))
  have hxw0 := Wri.wg_mem (List.mem_of_getElem? hx0)
  have HW0 : Hid (Wri.wg x0 ≤ N ∧ Wri.wg x0 ≤ 1048576) := hid (by simp only [Wri.wg] at hN hM; exact ⟨by omega, by omega⟩)
  clear hn0 hc0 hx0 hxw0
  obtain ⟨b1, c1, d1, hn1, hc1⟩ := kid4 HK.out HROW.out hx1
  have HN1 := hid hn1
  have HC1 := hid hc1
  have HX1 := hid hx1
  have HR1 := hid (ri_kid hR x1 (List.mem_of_getElem? hx1))
  have hxw1 := Wri.wg_mem (List.mem_of_getElem? hx1)
  have HW1 : Hid (Wri.wg x1 ≤ N ∧ Wri.wg x1 ≤ 1048576) := hid (by simp only [Wri.wg] at hN hM; exact ⟨by omega, by omega⟩)
  clear hn1 hc1 hx1 hxw1
  rw [wr_tries2 29 t kl x0 x1 HX0.out HX1.out] at hl
  have HLN := hid hlen
  go_enter Tryz.func36, Tryz.ntmps36
  go_upto_region 1 with fail
  refine gen_world (F := fun W => Box W w.heap.size 24 (nc 29 2 t (.slice (some ⟨g0, o0, none⟩) 2 cap)) ∧ Below w.heap.size w W) ⟨Box.new w _ _, below1 w _⟩ ?_
  rintro W0 ⟨b0, hU⟩
  have NB := hid b0
  have WT := hid (hW.below hU)
  have HU : Hid (Below B w W0) := hid (hU.mono hBw)
  have HS : Hid (Stays wb w W0) := hid (Stays.below hU)
  have hB0 : B ≤ W0.heap.size := Nat.le_trans hBw hU.size
  have hnw : w.heap.size ≠ wb := by omega
  have hbx := Nat.lt_of_lt_of_le b0.lt (Nat.le_refl _)
  clear b0 hU
  have HNENB := hid hnw
  go_wp2_with fail
  refine (wstr B wb (l) [116, 114, 121, 32] _ WT.out (by (try simp only [ln] at hl); (try simp only [ln]); omega) hB0).mono ?_
  rintro e w1 ⟨⟨v, rfl⟩, hw, hb, hs⟩
  replace WT := hid hw
  replace NB := st hs NB HNENB
  replace HU := hid (HU.out.trans hb)
  replace HS := hid (HS.out.trans hs)
  replace hB0 := Nat.le_trans hB0 hb.size
  clear hw hb hs
  obtain ⟨k0, k1, k2, k3⟩ := HC0.out w1 HU.out
  simp at k0 k1 k2 k3
  have c3 := NB.out.cell 3
  simp [nc] at c3
  go_wp2_with fail
  refine (IH.block HW0.out.1 HW0.out.2 HR0.out (HN0.out.belowB HU.out) WT.out hB0 h7 (HE.out.below HU.out h7) (by (try simp only [ln] at hl); (try simp only [ln]); omega)).mono ?_
  rintro e w2 ⟨rfl, hw, hb, hs⟩
  clear k0 k1 k2 k3 c3
  replace WT := hid hw
  replace NB := st hs NB HNENB
  replace HU := hid (HU.out.trans hb)
  replace HS := hid (HS.out.trans hs)
  replace hB0 := Nat.le_trans hB0 hb.size
  clear hw hb hs
  have c1 := NB.out.cell 1
  simp [nc] at c1
  go_upto_region 9 with fail
  clear c1
  go_wp2_with fail
  refine (wstr B wb (l ++ [116, 114, 121, 32] ++ Wri.wr x0 .block) [32, 102, 105, 110, 97, 108, 108, 121, 32] _ WT.out (by (try simp only [ln] at hl); (try simp only [ln]); omega) hB0).mono ?_
  rintro e w5 ⟨⟨v, rfl⟩, hw, hb, hs⟩
  replace WT := hid hw
  replace NB := st hs NB HNENB
  replace HU := hid (HU.out.trans hb)
  replace HS := hid (HS.out.trans hs)
  replace hB0 := Nat.le_trans hB0 hb.size
  clear hw hb hs
  obtain ⟨k0, k1, k2, k3⟩ := HC1.out w5 HU.out
  have kk0 : w5.cell? ⟨g0, o0 + 4, none⟩ = some (.int .i64 x1.kind) := by simpa [Nat.add_assoc] using k0
  have kk1 : w5.cell? ⟨g0, o0 + 5, none⟩ = some b1 := by simpa [Nat.add_assoc] using k1
  have kk2 : w5.cell? ⟨g0, o0 + 6, none⟩ = some c1 := by simpa [Nat.add_assoc] using k2
  have kk3 : w5.cell? ⟨g0, o0 + 7, none⟩ = some d1 := by simpa [Nat.add_assoc] using k3
  have c3 := NB.out.cell 3
  simp [nc] at c3
  go_wp2_with fail
  refine (IH.block HW1.out.1 HW1.out.2 HR1.out (HN1.out.belowB HU.out) WT.out hB0 h7 (HE.out.below HU.out h7) (by (try simp only [ln] at hl); (try simp only [ln]); omega)).mono ?_
  rintro e w6 ⟨rfl, hw, hb, hs⟩
  clear k0 k1 k2 k3 kk0 kk1 kk2 kk3 c3
  replace WT := hid hw
  replace NB := st hs NB HNENB
  replace HU := hid (HU.out.trans hb)
  replace HS := hid (HS.out.trans hs)
  replace hB0 := Nat.le_trans hB0 hb.size
  clear hw hb hs
  go_wp2
  go_end0
  exact ⟨rfl, by rw [wr_tries2 29 t kl x0 x1 HX0.out HX1.out]; simpa [List.append_assoc] using WT.out, HU.out, HS.out⟩
 ·subst hnu
  have hlen := (ri_len hR).2.2.2.2.2.2.2 hk9
  have hlen : kl.length = 3 := by simpa using hlen
  obtain ⟨x0, hx0⟩ : ∃ x, kl[0]? = some x := ⟨_, List.getElem?_eq_getElem (by omega)⟩
  obtain ⟨x1, hx1⟩ : ∃ x, kl[1]? = some x := ⟨_, List.getElem?_eq_getElem (by omega)⟩
  obtain ⟨x2, hx2⟩ : ∃ x, kl[2]? = some x := ⟨_, List.getElem?_eq_getElem (by omega)⟩
  obtain ⟨g0, o0, rfl, hg0, _, _⟩ := HROW.out (by omega)
  obtain ⟨b0, c0, d0, hn0, hc0⟩ := kid4 HK.out HROW.out hx0
  have HN0 := hid hn0
  have HC0 := hid hc0
  have HX0 := hid hx0
  have HR0 := hid (ri_kid hR x0 (List.mem_of_getElem? hx0))
  have hxw0 := Wri.wg_mem (List.mem_of_getElem? hx0)
  have HW0 : Hid (Wri.wg x0 ≤ N ∧ Wri.wg x0 ≤ 1048576) := hid (by simp only [Wri.wg] at hN hM; exact ⟨by omega, by omega⟩)
  clear hn0 hc0 hx0 hxw0
  obtain ⟨b1, c1, d1, hn1, hc1⟩ := kid4 HK.out HROW.out hx1
  have HN1 := hid hn1
  have HC1 := hid hc1
  have HX1 := hid hx1
  have HR1 := hid (ri_kid hR x1 (List.mem_of_getElem? hx1))
  have hxw1 := Wri.wg_mem (List.mem_of_getElem? hx1)
  have HW1 : Hid (Wri.wg x1 ≤ N ∧ Wri.wg x1 ≤ 1048576) := hid (by simp only [Wri.wg] at hN hM; exact ⟨by omega, by omega⟩)
  clear hn1 hc1 hx1 hxw1
  obtain ⟨b2, c2, d2, hn2, hc2⟩ := kid4 HK.out HROW.out hx2
  have HN2 := hid hn2
  have HC2 := hid hc2
  have HX2 := hid hx2
  have HR2 := hid (ri_kid hR x2 (List.mem_of_getElem? hx2))
  have hxw2 := Wri.wg_mem (List.mem_of_getElem? hx2)
  have HW2 : Hid (Wri.wg x2 ≤ N ∧ Wri.wg x2 ≤ 1048576) := hid (by simp only [Wri.wg] at hN hM; exact ⟨by omega, by omega⟩)
  clear hn2 hc2 hx2 hxw2
  rw [wr_tries3 29 t kl x0 x1 x2 HX0.out HX1.out HX2.out] at hl
  have HLN := hid hlen
  have hts : (byt t).size ≤ 70368744177664 := by rw [byt_size]; simp only [List.length_append, List.length_cons] at hl; omega
  go_enter Tryz.func36, Tryz.ntmps36
  go_upto_region 1 with fail
  refine gen_world (F := fun W => Box W w.heap.size 24 (nc 29 3 t (.slice (some ⟨g0, o0, none⟩) 3 cap)) ∧ Below w.heap.size w W) ⟨Box.new w _ _, below1 w _⟩ ?_
  rintro W0 ⟨b0, hU⟩
  have NB := hid b0
  have WT := hid (hW.below hU)
  have HU : Hid (Below B w W0) := hid (hU.mono hBw)
  have HS : Hid (Stays wb w W0) := hid (Stays.below hU)
  have hB0 : B ≤ W0.heap.size := Nat.le_trans hBw hU.size
  have hnw : w.heap.size ≠ wb := by omega
  have hbx := Nat.lt_of_lt_of_le b0.lt (Nat.le_refl _)
  clear b0 hU
  have HNENB := hid hnw
  go_wp2_with fail
  refine (wstr B wb (l) [116, 114, 121, 32] _ WT.out (by (try simp only [ln] at hl); (try simp only [ln]); omega) hB0).mono ?_
  rintro e w1 ⟨⟨v, rfl⟩, hw, hb, hs⟩
  replace WT := hid hw
  replace NB := st hs NB HNENB
  replace HU := hid (HU.out.trans hb)
  replace HS := hid (HS.out.trans hs)
  replace hB0 := Nat.le_trans hB0 hb.size
  clear hw hb hs
  obtain ⟨k0, k1, k2, k3⟩ := HC0.out w1 HU.out
  simp at k0 k1 k2 k3
  have c3 := NB.out.cell 3
  simp [nc] at c3
  go_wp2_with fail
  refine (IH.block HW0.out.1 HW0.out.2 HR0.out (HN0.out.belowB HU.out) WT.out hB0 h7 (HE.out.below HU.out h7) (by (try simp only [ln] at hl); (try simp only [ln]); omega)).mono ?_
  rintro e w2 ⟨rfl, hw, hb, hs⟩
  clear k0 k1 k2 k3 c3
  replace WT := hid hw
  replace NB := st hs NB HNENB
  replace HU := hid (HU.out.trans hb)
  replace HS := hid (HS.out.trans hs)
  replace hB0 := Nat.le_trans hB0 hb.size
  clear hw hb hs
  have c1 := NB.out.cell 1
  simp [nc] at c1
  have c2 := NB.out.cell 2
  simp [nc] at c2
  have hcc : ¬ 9223372036854775807 < 8 + (byt t).size := by omega
  have hcc2 : ¬ 9223372036854775807 < 8 + (byt t).size + 2 := by omega
  have hg8 : (⟨#[32, 99, 97, 116, 99, 104, 32, 40]⟩ : ByteArray).size = 8 := rfl
  have hg2 : (⟨#[41, 32]⟩ : ByteArray).size = 2 := rfl
  have HPC : Hid ((⟨#[32, 99, 97, 116, 99, 104, 32, 40]⟩ ++ byt t ++ ⟨#[41, 32]⟩ : ByteArray) = byt ([32, 99, 97, 116, 99, 104, 32, 40] ++ t ++ [41, 32])) := hid (by rw [← byt_append, ← byt_append]; rfl)
  go_upto_region 5 with fail
  go_wp2
  go_still_tail 7, (by kernel_rfl)
  change wpList _ _ _ _ _ w2.drew
  have hdr : Below w2.heap.size w2 w2.drew := Below.drew (Below.refl _ _)
  have hdz : w2.drew.heap.size = w2.heap.size := rfl
  obtain ⟨wd, hwd⟩ : ∃ wd, w2.drew = wd := ⟨_, rfl⟩
  rw [hwd] at hdr hdz ⊢
  replace WT := hid (WT.out.below hdr)
  replace NB := bl NB hdr
  replace HU := hid (HU.out.trans (hdr.mono hB0))
  replace HS := hid (HS.out.trans (Stays.below hdr))
  have hB1 : B ≤ wd.heap.size := by omega
  clear hB0
  have hB0 := hB1
  clear hdr hdz hwd
  clear c1 c2
  go_wp2_with fail
  rw [HPC.out]
  refine (wstr B wb (l ++ [116, 114, 121, 32] ++ Wri.wr x0 .block) ([32, 99, 97, 116, 99, 104, 32, 40] ++ t ++ [41, 32]) _ WT.out (by (try simp only [ln] at hl); (try simp only [ln]); omega) hB0).mono ?_
  rintro e w3 ⟨⟨v, rfl⟩, hw, hb, hs⟩
  replace WT := hid hw
  replace NB := st hs NB HNENB
  replace HU := hid (HU.out.trans hb)
  replace HS := hid (HS.out.trans hs)
  replace hB0 := Nat.le_trans hB0 hb.size
  clear hw hb hs
  obtain ⟨k0, k1, k2, k3⟩ := HC1.out w3 HU.out
  have kk0 : w3.cell? ⟨g0, o0 + 4, none⟩ = some (.int .i64 x1.kind) := by simpa [Nat.add_assoc] using k0
  have kk1 : w3.cell? ⟨g0, o0 + 5, none⟩ = some b1 := by simpa [Nat.add_assoc] using k1
  have kk2 : w3.cell? ⟨g0, o0 + 6, none⟩ = some c1 := by simpa [Nat.add_assoc] using k2
  have kk3 : w3.cell? ⟨g0, o0 + 7, none⟩ = some d1 := by simpa [Nat.add_assoc] using k3
  have c3 := NB.out.cell 3
  simp [nc] at c3
  go_wp2_with fail
  refine (IH.block HW1.out.1 HW1.out.2 HR1.out (HN1.out.belowB HU.out) WT.out hB0 h7 (HE.out.below HU.out h7) (by (try simp only [ln] at hl); (try simp only [ln]); omega)).mono ?_
  rintro e w4 ⟨rfl, hw, hb, hs⟩
  clear k0 k1 k2 k3 kk0 kk1 kk2 kk3 c3
  replace WT := hid hw
  replace NB := st hs NB HNENB
  replace HU := hid (HU.out.trans hb)
  replace HS := hid (HS.out.trans hs)
  replace hB0 := Nat.le_trans hB0 hb.size
  clear hw hb hs
  have c1 := NB.out.cell 1
  simp [nc] at c1
  go_upto_region 9 with fail
  clear c1
  go_wp2_with fail
  refine (wstr B wb (l ++ [116, 114, 121, 32] ++ Wri.wr x0 .block ++ ([32, 99, 97, 116, 99, 104, 32, 40] ++ t ++ [41, 32]) ++ Wri.wr x1 .block) [32, 102, 105, 110, 97, 108, 108, 121, 32] _ WT.out (by (try simp only [ln] at hl); (try simp only [ln]); omega) hB0).mono ?_
  rintro e w5 ⟨⟨v, rfl⟩, hw, hb, hs⟩
  replace WT := hid hw
  replace NB := st hs NB HNENB
  replace HU := hid (HU.out.trans hb)
  replace HS := hid (HS.out.trans hs)
  replace hB0 := Nat.le_trans hB0 hb.size
  clear hw hb hs
  obtain ⟨k0, k1, k2, k3⟩ := HC2.out w5 HU.out
  have kk0 : w5.cell? ⟨g0, o0 + 8, none⟩ = some (.int .i64 x2.kind) := by simpa [Nat.add_assoc] using k0
  have kk1 : w5.cell? ⟨g0, o0 + 9, none⟩ = some b2 := by simpa [Nat.add_assoc] using k1
  have kk2 : w5.cell? ⟨g0, o0 + 10, none⟩ = some c2 := by simpa [Nat.add_assoc] using k2
  have kk3 : w5.cell? ⟨g0, o0 + 11, none⟩ = some d2 := by simpa [Nat.add_assoc] using k3
  have c3 := NB.out.cell 3
  simp [nc] at c3
  go_wp2_with fail
  refine (IH.block HW2.out.1 HW2.out.2 HR2.out (HN2.out.belowB HU.out) WT.out hB0 h7 (HE.out.below HU.out h7) (by (try simp only [ln] at hl); (try simp only [ln]); omega)).mono ?_
  rintro e w6 ⟨rfl, hw, hb, hs⟩
  clear k0 k1 k2 k3 kk0 kk1 kk2 kk3 c3
  replace WT := hid hw
  replace NB := st hs NB HNENB
  replace HU := hid (HU.out.trans hb)
  replace HS := hid (HS.out.trans hs)
  replace hB0 := Nat.le_trans hB0 hb.size
  clear hw hb hs
  go_wp2
  go_end0
  exact ⟨rfl, by rw [wr_tries3 29 t kl x0 x1 x2 HX0.out HX1.out HX2.out]; simpa [List.append_assoc] using WT.out, HU.out, HS.out⟩
end Go.Proofs.YtonjdlialejedaaGreatDoor
namespace Go.Proofs.YtonjdlialejedaaGreatDoor.Jl
open Go.Lib (hid)
open Go.RowKit
theorem wpList_of_row {P : Program} {ops : Array Oper} {rest : List Oper} {o : Oper} {a : Act} {w : World} {Q : Exit → Act → World → Prop} (hgd : o.guard = none) (src dst e : TypeId) (x : Operand) (ho : o.op = .convert src dst x)
  (hs : P.underlying src = some (.slice e)) (he : P.underlying e = some (.int .u8)) (hd : P.underlying dst = some .string) (p : Addr) (cap : Nat) (l : List UInt8) (hx : a.eval x = .slice (some p) l.length cap)
  (hc : ∀ j (hj : j < l.length), w.cell? (p.add j) = some (.int .u8 (l[j].toNat : Int))) (h : wpList P ops Q rest (a.put o.dst (.string ⟨l.toArray⟩)) w) : wpList P ops Q (o :: rest) a w := by
 have hrun := run_convert_bytes_back (P := P) w src dst e p cap l hs he hd hc
 refine wpList_plain hgd fun _ hK => ?_
 unfold Oper.wp execOp
 simp only [ho, hx, Sem.run_bind, hrun, Result.andThen_ok, Sem.run_pure]
 exact hK _ _ h
theorem cells_cat (a b : List UInt8) : Lib.byteCells a ++ Lib.byteCells b = Lib.byteCells (a ++ b) := by simp [Lib.byteCells]
theorem cells_str (l : List UInt8) : Lib.strCells ⟨l.toArray⟩ = Lib.byteCells l := by simp [Lib.strCells, Lib.byteCells]
def WB : Prop := ∀ (B b : Nat) (l : List UInt8) (c : UInt8) (w : World), Lib.IsBuilder 53 5 B b (Lib.byteCells l) w → l.length ≤ 5000000 → B ≤ w.heap.size →
 Calls Tryz.prog 19 #[.pointer (some ⟨b, 0, none⟩), .int .u8 (c.toNat : Int)] w fun e w' => e = .returned .nilIface ∧ Lib.IsBuilder 53 5 B b (Lib.byteCells (l ++ [c])) w' ∧ Below B w w'
theorem wb : WB := by
 intro B b l c w h hl hB
 have := write_byte B b (Lib.byteCells l) (c.toNat : Int) w h (by rw [Lib.byteCells_length]; omega) hB
 rw [← cells_cat]; exact this
def WS : Prop := ∀ (B b : Nat) (l : List UInt8) (s : List UInt8) (w : World), Lib.IsBuilder 53 5 B b (Lib.byteCells l) w → l.length ≤ 5000000 → s.length ≤ 10 → B ≤ w.heap.size →
 Calls Tryz.prog 31 #[.pointer (some ⟨b, 0, none⟩), .string ⟨s.toArray⟩] w fun e w' => (∃ v, e = .returned v) ∧ Lib.IsBuilder 53 5 B b (Lib.byteCells (l ++ s)) w' ∧ Below B w w'
theorem ws : WS := by
 intro B b l s w h hl hs hB
 have hz : (⟨s.toArray⟩ : ByteArray).size = s.length := rfl
 have := write_string B b (Lib.byteCells l) ⟨s.toArray⟩ w h (by rw [Lib.byteCells_length, hz]; omega) hB
 rw [cells_str, cells_cat] at this
 exact this.mono fun _ _ ⟨h1, h2, h3⟩ => ⟨⟨_, h1⟩, h2, h3⟩
def WS2 : Prop := ∀ (B b : Nat) (l : List UInt8) (c : UInt8) (w : World), Lib.IsBuilder 53 5 B b (Lib.byteCells l) w → l.length ≤ 5000000 → B ≤ w.heap.size →
 Calls Tryz.prog 31 #[.pointer (some ⟨b, 0, none⟩), .string ((⟨#[92]⟩ : ByteArray) ++ ⟨#[c]⟩)] w fun e w' => (∃ v, e = .returned v) ∧ Lib.IsBuilder 53 5 B b (Lib.byteCells (l ++ [92, c])) w' ∧ Below B w w'
theorem ws2 : WS2 := by
 intro B b l c w h hl hB
 have := ws B b l [92, c] w h hl (by simp) hB
 rwa [show ((⟨#[92]⟩ : ByteArray) ++ ⟨#[c]⟩) = ⟨[92, c].toArray⟩ from rfl]
def WS4 : Prop := ∀ (B b : Nat) (l : List UInt8) (x y : UInt8) (w : World), Lib.IsBuilder 53 5 B b (Lib.byteCells l) w → l.length ≤ 5000000 → B ≤ w.heap.size →
 Calls Tryz.prog 31 #[.pointer (some ⟨b, 0, none⟩), .string ((⟨#[92, 120]⟩ : ByteArray) ++ ⟨#[x]⟩ ++ ⟨#[y]⟩)] w fun e w' => (∃ v, e = .returned v) ∧ Lib.IsBuilder 53 5 B b (Lib.byteCells (l ++ [92, 120, x, y])) w' ∧ Below B w w'
theorem ws4 : WS4 := by
 intro B b l x y w h hl hB
 have := ws B b l [92, 120, x, y] w h hl (by simp) hB
 rwa [show ((⟨#[92, 120]⟩ : ByteArray) ++ ⟨#[x]⟩ ++ ⟨#[y]⟩) = ⟨[92, 120, x, y].toArray⟩ from rfl]
theorem isBuilder_alloc {T e : TypeId} {B b : Nat} {bs : List Value} {w : World} (h : Lib.IsBuilder T e B b bs w) (o : Obj) : Lib.IsBuilder T e B b bs (w.alloc o) := by
 rcases h with ⟨h0, v, h1, h2, h3⟩ | ⟨h0, v, h1, h2, h3⟩
 ·exact .inl ⟨h0, v, (Below.heap_alloc w o b (Box.lt h1)).trans h1, h2.alloc o, h3⟩
 ·exact .inr ⟨h0, v, (Below.heap_alloc w o b (Box.lt h1)).trans h1, h2.alloc o, h3⟩
theorem qb_flat (l : Lexy.Bs) : (l.flatMap Lexy.qb).length ≤ 4 * l.length := by
 induction l with
 | nil => simp
 | cons c r ih => have := (Lexy.qb_len c).2; simp [List.flatMap_cons]; simp at ih; omega
theorem flat_more (l : Lexy.Bs) (k : Nat) (c : UInt8) (h : l[k]? = some c) : (l.take (k + 1)).flatMap Lexy.qb = (l.take k).flatMap Lexy.qb ++ Lexy.qb c := by
 rw [List.take_add_one, h]; simp
theorem hex_slice : ∀ n : Fin 16, (⟨#[48, 49, 50, 51, 52, 53, 54, 55, 56, 57, 97, 98, 99, 100, 101, 102]⟩ : ByteArray).extract n.val (n.val + 1) = ⟨#[Lexy.hexd (UInt8.ofNat n.val)]⟩ := by decide +kernel
theorem hex_run (n : UInt8) (hn : n.toNat < 16) (a b : Int) (ha : a = n.toNat) (hb : b = n.toNat + 1) (w : World) :
  (Instr.slice 9 (.string ⟨#[48, 49, 50, 51, 52, 53, 54, 55, 56, 57, 97, 98, 99, 100, 101, 102]⟩) (some (.int .u8 a)) (some (.int .u8 b)) none).run Tryz.prog w = .ok (.string ⟨#[Lexy.hexd n]⟩) w := by
 subst ha hb
 have hz : (⟨#[48, 49, 50, 51, 52, 53, 54, 55, 56, 57, 97, 98, 99, 100, 101, 102]⟩ : ByteArray).size = 16 := rfl
 have := run_slice_string (P := Tryz.prog) w 9 ⟨#[48, 49, 50, 51, 52, 53, 54, 55, 56, 57, 97, 98, 99, 100, 101, 102]⟩ .u8 .u8 (n.toNat : Int) ((n.toNat : Int) + 1) Tryz.underlying9 (by omega) (by omega) (by rw [hz]; omega)
 rw [this]
 have h := hex_slice ⟨n.toNat, hn⟩
 simp only at h
 rw [show ((n.toNat : Int)).toNat = n.toNat by omega, show ((n.toNat : Int) + 1).toNat = n.toNat + 1 by omega, h]
 simp
theorem hex_ext (n : UInt8) (hn : n.toNat < 16) (a b : Nat) (ha : a = n.toNat) (hb : b = n.toNat + 1) : (⟨#[48, 49, 50, 51, 52, 53, 54, 55, 56, 57, 97, 98, 99, 100, 101, 102]⟩ : ByteArray).extract a b = ⟨#[Lexy.hexd n]⟩ := by
 subst ha hb
 have h := hex_slice ⟨n.toNat, hn⟩
 simp only at h
 rw [h]
 simp
theorem and_low : ∀ c : UInt8, bits .and .u8 (c.toNat : Int) 15 = ((c % 16).toNat : Int) := Lexy.all_bytes (by decide +kernel)
theorem one_size (x : UInt8) : (⟨#[x]⟩ : ByteArray).size = 1 := rfl
theorem three_size (x : UInt8) : ((⟨#[92, 120]⟩ : ByteArray) ++ ⟨#[x]⟩).size = 3 := rfl
set_option maxRecDepth 100000 in
set_option maxHeartbeats 2000000 in
theorem quote_any (s : ByteArray) (w : World) (hm : s.size ≤ 1048576) :
  Calls Tryz.prog 104 #[.string s] w fun e w' => e = .returned (.string ⟨(Lexy.quote s.data.toList).toArray⟩) ∧ Below w.heap.size w w' := by
 obtain ⟨l, hl⟩ : ∃ l, s.data.toList = l := ⟨_, rfl⟩
 have hsz : l.length = s.size := by rw [← hl]; simp
 have HL := hid hl
 have HS := hid hsz
 rw [hl]
 clear hl hsz
 have HWB : Hid WB := hid wb
 have HWS : Hid WS := hid ws
 have HWS2 : Hid WS2 := hid ws2
 have HWS4 : Hid WS4 := hid ws4
 go_enter Tryz.func104, Tryz.ntmps104
 go_wp2_with fail
 refine (HWB.out w.heap.size w.heap.size [] 34 _ (Lib.fresh_isBuilder _ _ w) (by simp) (by simp)).mono ?_
 rintro e w1 ⟨rfl, hb1, hw1⟩
 have hw1' : Below w.heap.size w w1 := ((Below.refl _ w).alloc (Nat.le_refl _) _).trans hw1
 clear hw1
 go_wp2
 go_loopg [10] (s.size - 0) (fun g v wr => ∃ (k : Nat), k ≤ s.size ∧ g = s.size - k ∧ v = .int .i64 (k : Int) ∧ Lib.IsBuilder 53 5 w.heap.size w.heap.size (Lib.byteCells (34 :: (l.take k).flatMap Lexy.qb)) wr ∧ Below w.heap.size w wr)
 case atStart => exact ⟨0, by omega, rfl, rfl, hb1, hw1'⟩
 case round =>
  obtain ⟨k, hk, hg, rfl, hb, hw⟩ := hrel
  have HG := hid hg; clear hg
  have hq : Hid ((34 :: (l.take k).flatMap Lexy.qb).length ≤ 5000000) := by
   have := qb_flat (l.take k)
   have h2 : (l.take k).length ≤ k := by simp; omega
   refine hid ?_
   rw [List.length_cons]; omega
  have hz := hw.size
  by_cases hlt : k < s.size
  ·obtain ⟨c, hc⟩ : ∃ c, l[k]? = some c := ⟨_, List.getElem?_eq_getElem (by rw [HS.out]; exact hlt)⟩
   have hl1 : decide ((k : Int) < s.size) = true := by simp; omega
   have hi := fun w => run_at s c (k : Int) (by omega) (by rw [HL.out]; exact hc) w
   have HN := hid (flat_more l k c hc)
   clear hc
   by_cases h1 : (c == 34 || c == 92) = true
   ·have HB : Hid (Lexy.qb c = [92, c]) := hid (by unfold Lexy.qb; rw [if_pos h1])
    have hc2 : c = 34 ∨ c = 92 := by simpa using h1
    clear h1
    rcases hc2 with rfl | rfl
    ·go_wp2_with (refine wpList_of_row rfl 51 9 5 (.tmp 26) rfl Tryz.underlying51 Tryz.underlying5 Tryz.underlying9 ⟨wr.heap.size, 0, none⟩ 1 [34] rfl ?_ ?_)
     ·intro j hj; obtain rfl : j = 0 := (by simpa using hj); exact one_new _ _ _ _ rfl 0 _ rfl
     refine (HWS2.out w.heap.size w.heap.size _ 34 _ (isBuilder_alloc hb _) hq.out (by simp; omega)).mono ?_
     rintro e w2 ⟨he, hb2, hw2⟩
     first | (subst he) | (obtain ⟨v, rfl⟩ := he)
     go_wp2
     go_roundg (s.size - (k + 1))
     case measure => rw [HG.out]; omega
     case rel =>
      refine ⟨k + 1, by omega, rfl, by go_num, ?_, (hw.alloc hz _).trans hw2⟩
      rw [HN.out, HB.out]
      exact hb2
    ·go_wp2_with (refine wpList_of_row rfl 51 9 5 (.tmp 26) rfl Tryz.underlying51 Tryz.underlying5 Tryz.underlying9 ⟨wr.heap.size, 0, none⟩ 1 [92] rfl ?_ ?_)
     ·intro j hj; obtain rfl : j = 0 := (by simpa using hj); exact one_new _ _ _ _ rfl 0 _ rfl
     refine (HWS2.out w.heap.size w.heap.size _ 92 _ (isBuilder_alloc hb _) hq.out (by simp; omega)).mono ?_
     rintro e w2 ⟨he, hb2, hw2⟩
     first | (subst he) | (obtain ⟨v, rfl⟩ := he)
     go_wp2
     go_roundg (s.size - (k + 1))
     case measure => rw [HG.out]; omega
     case rel =>
      refine ⟨k + 1, by omega, rfl, by go_num, ?_, (hw.alloc hz _).trans hw2⟩
      rw [HN.out, HB.out]
      exact hb2
   ·have HB1 := h1
    have h34 : c ≠ 34 := by rintro rfl; simp at h1
    have h92 : c ≠ 92 := by rintro rfl; simp at h1
    have n34 : ((c.toNat : Int) == 34) = false := byte_ne (d := 34) h34
    have n92 : ((c.toNat : Int) == 92) = false := byte_ne (d := 92) h92
    clear h1 h34 h92
    by_cases h10 : c = 10
    ·subst h10
     have HB : Hid (Lexy.qb 10 = [92, 110]) := hid (by decide)
     clear HB1
     go_wp2_with fail
     refine (HWS.out w.heap.size w.heap.size _ [92, 110] _ hb hq.out (by decide) hz).mono ?_
     rintro e w2 ⟨he, hb2, hw2⟩
     first | (subst he) | (obtain ⟨v, rfl⟩ := he)
     go_wp2
     go_roundg (s.size - (k + 1))
     case measure => rw [HG.out]; omega
     case rel =>
      refine ⟨k + 1, by omega, rfl, by go_num, ?_, hw.trans hw2⟩
      rw [HN.out, HB.out]
      exact hb2
    ·have n10 : ((c.toNat : Int) == 10) = false := byte_ne (d := 10) h10
     by_cases h9 : c = 9
     ·subst h9
      have HB : Hid (Lexy.qb 9 = [92, 116]) := hid (by decide)
      clear HB1
      go_wp2_with fail
      refine (HWS.out w.heap.size w.heap.size _ [92, 116] _ hb hq.out (by decide) hz).mono ?_
      rintro e w2 ⟨he, hb2, hw2⟩
      first | (subst he) | (obtain ⟨v, rfl⟩ := he)
      go_wp2
      go_roundg (s.size - (k + 1))
      case measure => rw [HG.out]; omega
      case rel =>
       refine ⟨k + 1, by omega, rfl, by go_num, ?_, hw.trans hw2⟩
       rw [HN.out, HB.out]
       exact hb2
     ·have n9 : ((c.toNat : Int) == 9) = false := byte_ne (d := 9) h9
      have b10 : (c == 10) = false := by simpa using h10
      have b9 : (c == 9) = false := by simpa using h9
      clear h10 h9
      by_cases h32 : c.toNat < 32 ∨ 126 < c.toNat
      ·have HB : Hid (Lexy.qb c = [92, 120, Lexy.hexd (c / 16), Lexy.hexd (c % 16)]) := hid (by
        unfold Lexy.qb; rw [if_neg HB1, b10, b9, if_neg (by decide), if_neg (by decide), if_pos (by simpa using h32)])
       have hs1 := hex_run (c / 16) (by have := c.toNat_lt; simp; omega) ((c.toNat : Int) / 16) ((c.toNat : Int) / 16 + 1) (by simp) (by simp)
       have hs2 := hex_run (c % 16) (by simp; omega) ((c.toNat : Int) % 16) ((c.toNat : Int) % 16 + 1) (by simp) (by simp)
       have h256 := c.toNat_lt
       clear HB1 b10 b9
       rcases Nat.lt_or_ge c.toNat 32 with hlo | hhi
       ·have e32 : decide ((c.toNat : Int) < 32) = true := by simp; omega
        clear h32 hlo
        have x1 := hex_ext (c / 16) (by have := c.toNat_lt; simp; omega) ((c.toNat : Int) / 16).toNat ((c.toNat : Int) / 16 + 1).toNat (by simp; omega) (by simp; omega)
        obtain ⟨y1, hy1⟩ : ∃ y, Lexy.hexd (c / 16) = y := ⟨_, rfl⟩
        obtain ⟨m, hm2, hm16, hm0⟩ : ∃ m : Int, ((c % 16).toNat : Int) = m ∧ m < 16 ∧ 0 ≤ m := ⟨_, rfl, by simp; omega, by omega⟩
        have x2 := hex_ext (c % 16) (by simp; omega) m.toNat (m + 1).toNat (by omega) (by omega)
        obtain ⟨y2, hy2⟩ : ∃ y, Lexy.hexd (c % 16) = y := ⟨_, rfl⟩
        have a1 := and_low c
        rw [hm2] at a1
        rw [hy1, hy2] at HB
        rw [hy1] at x1
        rw [hy2] at x2
        have s1 := one_size y1
        have s2 := one_size y2
        have s3 := three_size y1
        have z1 : IntKind.u8.wrap ((c.toNat : Int) / 16 + 1) = (c.toNat : Int) / 16 + 1 := IntWalk.u8_in _ (by omega)
        have z2 : (c.toNat : Int) / 16 + 1 ≤ 16 := by omega
        have z3 : 0 ≤ (c.toNat : Int) / 16 := by omega
        have z4 : (c.toNat : Int) / 16 ≤ (c.toNat : Int) / 16 + 1 := by omega
        have t1 : IntKind.u8.wrap (m + 1) = m + 1 := IntWalk.u8_in _ (by omega)
        have t2 : m + 1 ≤ 16 := by omega
        have t4 : m ≤ m + 1 := by omega
        clear hs1 hs2 hy1 hy2 hm2 hm16 h256
        go_wp2
        go_still_tail 16, (by kernel_rfl)
        change wpList _ _ _ _ _ wr.drew
        go_wp2_with fail
        refine (HWS4.out w.heap.size w.heap.size _ y1 y2 wr.drew hb hq.out hz).mono ?_
        rintro e w2 ⟨⟨v, rfl⟩, hb2, hw2⟩
        go_wp2
        go_roundg (s.size - (k + 1))
        case measure => rw [HG.out]; omega
        case rel =>
         refine ⟨k + 1, by omega, rfl, by go_num, ?_, (below_drewN hw 1).trans hw2⟩
         rw [HN.out, HB.out]
         exact hb2
       ·have e32 : decide ((c.toNat : Int) < 32) = false := by simp; omega
        have e126 : decide ((126 : Int) < (c.toNat : Int)) = true := by simp; omega
        clear h32 hhi
        have x1 := hex_ext (c / 16) (by have := c.toNat_lt; simp; omega) ((c.toNat : Int) / 16).toNat ((c.toNat : Int) / 16 + 1).toNat (by simp; omega) (by simp; omega)
        obtain ⟨y1, hy1⟩ : ∃ y, Lexy.hexd (c / 16) = y := ⟨_, rfl⟩
        obtain ⟨m, hm2, hm16, hm0⟩ : ∃ m : Int, ((c % 16).toNat : Int) = m ∧ m < 16 ∧ 0 ≤ m := ⟨_, rfl, by simp; omega, by omega⟩
        have x2 := hex_ext (c % 16) (by simp; omega) m.toNat (m + 1).toNat (by omega) (by omega)
        obtain ⟨y2, hy2⟩ : ∃ y, Lexy.hexd (c % 16) = y := ⟨_, rfl⟩
        have a1 := and_low c
        rw [hm2] at a1
        rw [hy1, hy2] at HB
        rw [hy1] at x1
        rw [hy2] at x2
        have s1 := one_size y1
        have s2 := one_size y2
        have s3 := three_size y1
        have z1 : IntKind.u8.wrap ((c.toNat : Int) / 16 + 1) = (c.toNat : Int) / 16 + 1 := IntWalk.u8_in _ (by omega)
        have z2 : (c.toNat : Int) / 16 + 1 ≤ 16 := by omega
        have z3 : 0 ≤ (c.toNat : Int) / 16 := by omega
        have z4 : (c.toNat : Int) / 16 ≤ (c.toNat : Int) / 16 + 1 := by omega
        have t1 : IntKind.u8.wrap (m + 1) = m + 1 := IntWalk.u8_in _ (by omega)
        have t2 : m + 1 ≤ 16 := by omega
        have t4 : m ≤ m + 1 := by omega
        clear hs1 hs2 hy1 hy2 hm2 hm16 h256
        go_wp2
        go_still_tail 16, (by kernel_rfl)
        change wpList _ _ _ _ _ wr.drew
        go_wp2_with fail
        refine (HWS4.out w.heap.size w.heap.size _ y1 y2 wr.drew hb hq.out hz).mono ?_
        rintro e w2 ⟨⟨v, rfl⟩, hb2, hw2⟩
        go_wp2
        go_roundg (s.size - (k + 1))
        case measure => rw [HG.out]; omega
        case rel =>
         refine ⟨k + 1, by omega, rfl, by go_num, ?_, (below_drewN hw 1).trans hw2⟩
         rw [HN.out, HB.out]
         exact hb2
      ·have HB : Hid (Lexy.qb c = [c]) := hid (by
        unfold Lexy.qb; rw [if_neg HB1, b10, b9, if_neg (by decide), if_neg (by decide), if_neg (by simpa using h32)])
       have e32 : decide ((c.toNat : Int) < 32) = false := by simp; omega
       have e126 : decide ((126 : Int) < (c.toNat : Int)) = false := by simp; omega
       clear HB1 b10 b9 h32
       go_wp2_with fail
       refine (HWB.out w.heap.size w.heap.size _ c _ hb hq.out hz).mono ?_
       rintro e w2 ⟨he, hb2, hw2⟩
       first | (subst he) | (obtain ⟨v, rfl⟩ := he)
       go_wp2
       go_roundg (s.size - (k + 1))
       case measure => rw [HG.out]; omega
       case rel =>
        refine ⟨k + 1, by omega, rfl, by go_num, ?_, hw.trans hw2⟩
        rw [HN.out, HB.out]
        exact hb2
  ·have hl1 : decide ((k : Int) < s.size) = false := by simp; omega
   have HK : Hid (l.take k = l) := hid (List.take_of_length_le (by rw [HS.out]; omega))
   go_wp2_with fail
   refine (HWB.out _ _ _ 34 _ hb hq.out hz).mono ?_
   rintro e w2 ⟨rfl, hb2, hw2⟩
   go_wp2_with fail
   refine (Tryz.Builder_String_any _ _ _ _ hb2 (by have := hw2.size; omega)).mono ?_
   rintro e w3 ⟨rfl, hw3⟩
   go_wp2
   go_ret
   refine ⟨?_, (hw.trans hw2).trans hw3⟩
   rw [HK.out]
   rfl
end Go.Proofs.YtonjdlialejedaaGreatDoor.Jl
