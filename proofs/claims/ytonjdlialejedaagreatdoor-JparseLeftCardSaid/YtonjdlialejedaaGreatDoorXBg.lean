/-
  Texts that the law leans on: PwV. Conditions: as each says.
-/
import Derived.Test.YtonjdlialejedaaGreatDoorXBf
import Derived.Test.YtonjdlialejedaaGreatDoorXAa
set_option linter.unusedSimpArgs false
set_option linter.unusedVariables false
namespace Go.Proofs.YtonjdlialejedaaGreatDoor
open Go.Lib (hid)
open Go.RowKit
theorem wr_tries1 (k : Int) (t : List UInt8) (l : List Pars.Node) (x0 x1 : Pars.Node) (h0 : l[0]? = some x0) (h1 : l[1]? = some x1) : Wri.wr (.mk k 1 t l) .tries = [116, 114, 121, 32] ++ Wri.wr x0 .block ++ ([32, 99, 97, 116, 99, 104, 32, 40] ++ t ++ [41, 32]) ++ Wri.wr x1 .block := by
 show Wri.wTries 1 t (Wri.wrs l) = _
 unfold Wri.wTries
 simp [wrs_kid h0, wrs_kid h1, List.append_assoc]
theorem wr_tries2 (k : Int) (t : List UInt8) (l : List Pars.Node) (x0 x1 : Pars.Node) (h0 : l[0]? = some x0) (h1 : l[1]? = some x1) : Wri.wr (.mk k 2 t l) .tries = [116, 114, 121, 32] ++ Wri.wr x0 .block ++ [32, 102, 105, 110, 97, 108, 108, 121, 32] ++ Wri.wr x1 .block := by
 show Wri.wTries 2 t (Wri.wrs l) = _
 unfold Wri.wTries
 simp [wrs_kid h0, wrs_kid h1, List.append_assoc]
theorem wr_tries3 (k : Int) (t : List UInt8) (l : List Pars.Node) (x0 x1 x2 : Pars.Node) (h0 : l[0]? = some x0) (h1 : l[1]? = some x1) (h2 : l[2]? = some x2) : Wri.wr (.mk k 3 t l) .tries = [116, 114, 121, 32] ++ Wri.wr x0 .block ++ ([32, 99, 97, 116, 99, 104, 32, 40] ++ t ++ [41, 32]) ++ Wri.wr x1 .block ++ [32, 102, 105, 110, 97, 108, 108, 121, 32] ++ Wri.wr x2 .block := by
 show Wri.wTries 3 t (Wri.wrs l) = _
 unfold Wri.wTries
 simp [wrs_kid h0, wrs_kid h1, wrs_kid h2, List.append_assoc]
theorem fields_try {nu : Int} {t : List UInt8} (h : Wri.fields 29 nu t = true) : nu = 1 ∨ nu = 2 ∨ nu = 3 := by
 unfold Wri.fields at h
 simp at h
 omega
set_option maxRecDepth 100000 in
set_option maxHeartbeats 4000000 in
theorem tries_w {N : Nat} (IH : Wall N) : ∀ {n : Pars.Node} {cs : Array Value} {w : World} {B wb : Nat} {l : List UInt8}, Wri.wg n ≤ N + 1 → Wri.wg n ≤ 1048576 → Ri n → n.kind = 29 → NodeAt w (fun g => g < B) n cs → Wt B wb l w → B ≤ w.heap.size → 7 ≤ B → EnvW w → l.length + (Wri.wr n .tries).length ≤ 70368744177664 → Calls Tryz.prog 36 #[.pointer (some ⟨wb, 0, none⟩), .agg cs] w (WOut B wb l (Wri.wr n .tries) w) := by
 intro n cs w B wb l hN hM hR hk9 hn hW hBw h7 he hl
 obtain ⟨k, nu, t, kl⟩ := n
 have hn0 := hn
 unfold NodeAt at hn
 obtain ⟨A, cap, css, rfl, hc1, hc2, hrow, hk⟩ := hn
 have HROW := hid hrow
 have HK := hid hk
 have HN := hid hn0
 have HE := hid he
 have hwlt := hW.lt
 have hll := Wri.wgs_len kl
 clear hrow hk hn0 he
 have hk29 : k = 29 := hk9
 subst hk29
 rcases fields_try ((ri_parts hR).2.1) with hnu | hnu | hnu
 ·subst hnu
  have hlen := (ri_len hR).2.2.2.2.2.2.2 hk9
  have hlen : kl.length = 2 := by simpa using hlen
  obtain ⟨x0, hx0⟩ : ∃ x, kl[0]? = some x := ⟨_, List.getElem?_eq_getElem (by omega)⟩
  obtain ⟨x1, hx1⟩ : ∃ x, kl[1]? = some x := ⟨_, List.getElem?_eq_getElem (by omega)⟩
  obtain ⟨g0, o0, rfl, hg0, _, _⟩ := HROW.out (by omega)
  obtain ⟨b0, c0, d0, hn0, hc0⟩ := kid4 HK.out HROW.out hx0
  have HN0 := hid hn0
  have HC0 := hid hc0
  have HX0 := hid hx0
  have HR0 := hid (ri_kid hR x0 (List.mem_of_getElem? hx0))
  have hxw0 := Wri.wg_mem (List.mem_of_getElem? hx0)
  have HW0 : Hid (Wri.wg x0 ≤ N ∧ Wri.wg x0 ≤ 1048576) := hid (by simp only [Wri.wg] at hN hM; exact ⟨by omega, by omega⟩)
  clear hn0 hc0 hx0 hxw0
  obtain ⟨b1, c1, d1, hn1, hc1⟩ := kid4 HK.out HROW.out hx1
  have HN1 := hid hn1
  have HC1 := hid hc1
  have HX1 := hid hx1
  have HR1 := hid (ri_kid hR x1 (List.mem_of_getElem? hx1))
  have hxw1 := Wri.wg_mem (List.mem_of_getElem? hx1)
  have HW1 : Hid (Wri.wg x1 ≤ N ∧ Wri.wg x1 ≤ 1048576) := hid (by simp only [Wri.wg] at hN hM; exact ⟨by omega, by omega⟩)
  clear hn1 hc1 hx1 hxw1
  rw [wr_tries1 29 t kl x0 x1 HX0.out HX1.out] at hl
  have HLN := hid hlen
  have hts : (byt t).size ≤ 70368744177664 := by rw [byt_size]; simp only [List.length_append, List.length_cons] at hl; omega
  go_enter Tryz.func36, Tryz.ntmps36
  go_upto_region 1 with fail
  refine gen_world (F := fun W => Box W w.heap.size 24 (nc 29 1 t (.slice (some ⟨g0, o0, none⟩) 2 cap)) ∧ Below w.heap.size w W) ⟨Box.new w _ _, below1 w _⟩ ?_
  rintro W0 ⟨b0, hU⟩
  have NB := hid b0
  have WT := hid (hW.below hU)
  have HU : Hid (Below B w W0) := hid (hU.mono hBw)
  have HS : Hid (Stays wb w W0) := hid (Stays.below hU)
  have hB0 : B ≤ W0.heap.size := Nat.le_trans hBw hU.size
  have hnw : w.heap.size ≠ wb := by omega
  have hbx := Nat.lt_of_lt_of_le b0.lt (Nat.le_refl _)
  clear b0 hU
  have HNENB := hid hnw
  go_wp2_with fail
  refine (wstr B wb (l) [116, 114, 121, 32] _ WT.out (by (try simp only [ln] at hl); (try simp only [ln]); omega) hB0).mono ?_
  rintro e w1 ⟨⟨v, rfl⟩, hw, hb, hs⟩
  replace WT := hid hw
  replace NB := st hs NB HNENB
  replace HU := hid (HU.out.trans hb)
  replace HS := hid (HS.out.trans hs)
  replace hB0 := Nat.le_trans hB0 hb.size
  clear hw hb hs
  obtain ⟨k0, k1, k2, k3⟩ := HC0.out w1 HU.out
  simp at k0 k1 k2 k3
  have c3 := NB.out.cell 3
  simp [nc] at c3
  go_wp2_with fail
  refine (IH.block HW0.out.1 HW0.out.2 HR0.out (HN0.out.belowB HU.out) WT.out hB0 h7 (HE.out.below HU.out h7) (by (try simp only [ln] at hl); (try simp only [ln]); omega)).mono ?_
  rintro e w2 ⟨rfl, hw, hb, hs⟩
  clear k0 k1 k2 k3 c3
  replace WT := hid hw
  replace NB := st hs NB HNENB
  replace HU := hid (HU.out.trans hb)
  replace HS := hid (HS.out.trans hs)
  replace hB0 := Nat.le_trans hB0 hb.size
  clear hw hb hs
  have c1 := NB.out.cell 1
  simp [nc] at c1
  have c2 := NB.out.cell 2
  simp [nc] at c2
  have hcc : ¬ 9223372036854775807 < 8 + (byt t).size := by omega
  have hcc2 : ¬ 9223372036854775807 < 8 + (byt t).size + 2 := by omega
  have hg8 : (⟨#[32, 99, 97, 116, 99, 104, 32, 40]⟩ : ByteArray).size = 8 := rfl
  have hg2 : (⟨#[41, 32]⟩ : ByteArray).size = 2 := rfl
  have HPC : Hid ((⟨#[32, 99, 97, 116, 99, 104, 32, 40]⟩ ++ byt t ++ ⟨#[41, 32]⟩ : ByteArray) = byt ([32, 99, 97, 116, 99, 104, 32, 40] ++ t ++ [41, 32])) := hid (by rw [← byt_append, ← byt_append]; rfl)
  go_upto_region 5 with fail
  go_wp2
  go_still_tail 7, (by kernel_rfl)
  change wpList _ _ _ _ _ w2.drew
  have hdr : Below w2.heap.size w2 w2.drew := Below.drew (Below.refl _ _)
  have hdz : w2.drew.heap.size = w2.heap.size := rfl
  obtain ⟨wd, hwd⟩ : ∃ wd, w2.drew = wd := ⟨_, rfl⟩
  rw [hwd] at hdr hdz ⊢
  replace WT := hid (WT.out.below hdr)
  replace NB := bl NB hdr
  replace HU := hid (HU.out.trans (hdr.mono hB0))
  replace HS := hid (HS.out.trans (Stays.below hdr))
  have hB1 : B ≤ wd.heap.size := by omega
  clear hB0
  have hB0 := hB1
  clear hdr hdz hwd
  clear c1 c2
  go_wp2_with fail
  rw [HPC.out]
  refine (wstr B wb (l ++ [116, 114, 121, 32] ++ Wri.wr x0 .block) ([32, 99, 97, 116, 99, 104, 32, 40] ++ t ++ [41, 32]) _ WT.out (by (try simp only [ln] at hl); (try simp only [ln]); omega) hB0).mono ?_
  rintro e w3 ⟨⟨v, rfl⟩, hw, hb, hs⟩
  replace WT := hid hw
  replace NB := st hs NB HNENB
  replace HU := hid (HU.out.trans hb)
  replace HS := hid (HS.out.trans hs)
  replace hB0 := Nat.le_trans hB0 hb.size
  clear hw hb hs
  obtain ⟨k0, k1, k2, k3⟩ := HC1.out w3 HU.out
  have kk0 : w3.cell? ⟨g0, o0 + 4, none⟩ = some (.int .i64 x1.kind) := by simpa [Nat.add_assoc] using k0
  have kk1 : w3.cell? ⟨g0, o0 + 5, none⟩ = some b1 := by simpa [Nat.add_assoc] using k1
  have kk2 : w3.cell? ⟨g0, o0 + 6, none⟩ = some c1 := by simpa [Nat.add_assoc] using k2
  have kk3 : w3.cell? ⟨g0, o0 + 7, none⟩ = some d1 := by simpa [Nat.add_assoc] using k3
  have c3 := NB.out.cell 3
  simp [nc] at c3
  go_wp2_with fail
  refine (IH.block HW1.out.1 HW1.out.2 HR1.out (HN1.out.belowB HU.out) WT.out hB0 h7 (HE.out.below HU.out h7) (by (try simp only [ln] at hl); (try simp only [ln]); omega)).mono ?_
  rintro e w4 ⟨rfl, hw, hb, hs⟩
  clear k0 k1 k2 k3 kk0 kk1 kk2 kk3 c3
  replace WT := hid hw
  replace NB := st hs NB HNENB
  replace HU := hid (HU.out.trans hb)
  replace HS := hid (HS.out.trans hs)
  replace hB0 := Nat.le_trans hB0 hb.size
  clear hw hb hs
  have c1 := NB.out.cell 1
  simp [nc] at c1
  go_wp2
  go_end0
  exact ⟨rfl, by rw [wr_tries1 29 t kl x0 x1 HX0.out HX1.out]; simpa [List.append_assoc] using WT.out, HU.out, HS.out⟩
 ·subst hnu
  have hlen := (ri_len hR).2.2.2.2.2.2.2 hk9
  have hlen : kl.length = 2 := by simpa using hlen
  obtain ⟨x0, hx0⟩ : ∃ x, kl[0]? = some x := ⟨_, List.getElem?_eq_getElem (by omega)⟩
  obtain ⟨x1, hx1⟩ : ∃ x, kl[1]? = some x := ⟨_, List.getElem?_eq_getElem (by omega)⟩
  obtain ⟨g0, o0, rfl, hg0, _, _⟩ := HROW.out (by omega)
  obtain ⟨b0, c0, d0, hn0, hc0⟩ := kid4 HK.out HROW.out hx0
  have HN0 := hid hn0
  have HC0 := hid hc0
  have HX0 := hid hx0
  have HR0 := hid (ri_kid hR x0 (List.mem_of_getElem? hx0))
  have hxw0 := Wri.wg_mem (List.mem_of_getElem? hx0)
  have HW0 : Hid (Wri.wg x0 ≤ N ∧ Wri.wg x0 ≤ 1048576) := hid (by simp only [Wri.wg] at hN hM; exact ⟨by omega, by omega⟩)
  clear hn0 hc0 hx0 hxw0
  obtain ⟨b1, c1, d1, hn1, hc1⟩ := kid4 HK.out HROW.out hx1
  have HN1 := hid hn1
  have HC1 := hid hc1
  have HX1 := hid hx1
  have HR1 := hid (ri_kid hR x1 (List.mem_of_getElem? hx1))
  have hxw1 := Wri.wg_mem (List.mem_of_getElem? hx1)
  have HW1 : Hid (Wri.wg x1 ≤ N ∧ Wri.wg x1 ≤ 1048576) := hid (by simp only [Wri.wg] at hN hM; exact ⟨by omega, by omega⟩)
  clear hn1 hc1 hx1 hxw1
  rw [wr_tries2 29 t kl x0 x1 HX0.out HX1.out] at hl
  have HLN := hid hlen
  go_enter Tryz.func36, Tryz.ntmps36
  go_upto_region 1 with fail
  refine gen_world (F := fun W => Box W w.heap.size 24 (nc 29 2 t (.slice (some ⟨g0, o0, none⟩) 2 cap)) ∧ Below w.heap.size w W) ⟨Box.new w _ _, below1 w _⟩ ?_
  rintro W0 ⟨b0, hU⟩
  have NB := hid b0
  have WT := hid (hW.below hU)
  have HU : Hid (Below B w W0) := hid (hU.mono hBw)
  have HS : Hid (Stays wb w W0) := hid (Stays.below hU)
  have hB0 : B ≤ W0.heap.size := Nat.le_trans hBw hU.size
  have hnw : w.heap.size ≠ wb := by omega
  have hbx := Nat.lt_of_lt_of_le b0.lt (Nat.le_refl _)
  clear b0 hU
  have HNENB := hid hnw
  go_wp2_with fail
  refine (wstr B wb (l) [116, 114, 121, 32] _ WT.out (by (try simp only [ln] at hl); (try simp only [ln]); omega) hB0).mono ?_
  rintro e w1 ⟨⟨v, rfl⟩, hw, hb, hs⟩
  replace WT := hid hw
  replace NB := st hs NB HNENB
  replace HU := hid (HU.out.trans hb)
  replace HS := hid (HS.out.trans hs)
  replace hB0 := Nat.le_trans hB0 hb.size
  clear hw hb hs
  obtain ⟨k0, k1, k2, k3⟩ := HC0.out w1 HU.out
  simp at k0 k1 k2 k3
  have c3 := NB.out.cell 3
  simp [nc] at c3
  go_wp2_with fail
  refine (IH.block HW0.out.1 HW0.out.2 HR0.out (HN0.out.belowB HU.out) WT.out hB0 h7 (HE.out.below HU.out h7) (by (try simp only [ln] at hl); (try simp only [ln]); omega)).mono ?_
  rintro e w2 ⟨rfl, hw, hb, hs⟩
  clear k0 k1 k2 k3 c3
  replace WT := hid hw
  replace NB := st hs NB HNENB
  replace HU := hid (HU.out.trans hb)
  replace HS := hid (HS.out.trans hs)
  replace hB0 := Nat.le_trans hB0 hb.size
  clear hw hb hs
  have c1 := NB.out.cell 1
  simp [nc] at c1
  go_upto_region 9 with fail
  clear c1
  go_wp2_with fail
  refine (wstr B wb (l ++ [116, 114, 121, 32] ++ Wri.wr x0 .block) [32, 102, 105, 110, 97, 108, 108, 121, 32] _ WT.out (by (try simp only [ln] at hl); (try simp only [ln]); omega) hB0).mono ?_
  rintro e w5 ⟨⟨v, rfl⟩, hw, hb, hs⟩
  replace WT := hid hw
  replace NB := st hs NB HNENB
  replace HU := hid (HU.out.trans hb)
  replace HS := hid (HS.out.trans hs)
  replace hB0 := Nat.le_trans hB0 hb.size
  clear hw hb hs
  obtain ⟨k0, k1, k2, k3⟩ := HC1.out w5 HU.out
  have kk0 : w5.cell? ⟨g0, o0 + 4, none⟩ = some (.int .i64 x1.kind) := by simpa [Nat.add_assoc] using k0
  have kk1 : w5.cell? ⟨g0, o0 + 5, none⟩ = some b1 := by simpa [Nat.add_assoc] using k1
  have kk2 : w5.cell? ⟨g0, o0 + 6, none⟩ = some c1 := by simpa [Nat.add_assoc] using k2
  have kk3 : w5.cell? ⟨g0, o0 + 7, none⟩ = some d1 := by simpa [Nat.add_assoc] using k3
  have c3 := NB.out.cell 3
  simp [nc] at c3
  go_wp2_with fail
  refine (IH.block HW1.out.1 HW1.out.2 HR1.out (HN1.out.belowB HU.out) WT.out hB0 h7 (HE.out.below HU.out h7) (by (try simp only [ln] at hl); (try simp only [ln]); omega)).mono ?_
  rintro e w6 ⟨rfl, hw, hb, hs⟩
  clear k0 k1 k2 k3 kk0 kk1 kk2 kk3 c3
  replace WT := hid hw
  replace NB := st hs NB HNENB
  replace HU := hid (HU.out.trans hb)
  replace HS := hid (HS.out.trans hs)
  replace hB0 := Nat.le_trans hB0 hb.size
  clear hw hb hs
  go_wp2
  go_end0
  exact ⟨rfl, by rw [wr_tries2 29 t kl x0 x1 HX0.out HX1.out]; simpa [List.append_assoc] using WT.out, HU.out, HS.out⟩
 ·subst hnu
  have hlen := (ri_len hR).2.2.2.2.2.2.2 hk9
  have hlen : kl.length = 3 := by simpa using hlen
  obtain ⟨x0, hx0⟩ : ∃ x, kl[0]? = some x := ⟨_, List.getElem?_eq_getElem (by omega)⟩
  obtain ⟨x1, hx1⟩ : ∃ x, kl[1]? = some x := ⟨_, List.getElem?_eq_getElem (by omega)⟩
  obtain ⟨x2, hx2⟩ : ∃ x, kl[2]? = some x := ⟨_, List.getElem?_eq_getElem (by omega)⟩
  obtain ⟨g0, o0, rfl, hg0, _, _⟩ := HROW.out (by omega)
  obtain ⟨b0, c0, d0, hn0, hc0⟩ := kid4 HK.out HROW.out hx0
  have HN0 := hid hn0
  have HC0 := hid hc0
  have HX0 := hid hx0
  have HR0 := hid (ri_kid hR x0 (List.mem_of_getElem? hx0))
  have hxw0 := Wri.wg_mem (List.mem_of_getElem? hx0)
  have HW0 : Hid (Wri.wg x0 ≤ N ∧ Wri.wg x0 ≤ 1048576) := hid (by simp only [Wri.wg] at hN hM; exact ⟨by omega, by omega⟩)
  clear hn0 hc0 hx0 hxw0
  obtain ⟨b1, c1, d1, hn1, hc1⟩ := kid4 HK.out HROW.out hx1
  have HN1 := hid hn1
  have HC1 := hid hc1
  have HX1 := hid hx1
  have HR1 := hid (ri_kid hR x1 (List.mem_of_getElem? hx1))
  have hxw1 := Wri.wg_mem (List.mem_of_getElem? hx1)
  have HW1 : Hid (Wri.wg x1 ≤ N ∧ Wri.wg x1 ≤ 1048576) := hid (by simp only [Wri.wg] at hN hM; exact ⟨by omega, by omega⟩)
  clear hn1 hc1 hx1 hxw1
  obtain ⟨b2, c2, d2, hn2, hc2⟩ := kid4 HK.out HROW.out hx2
  have HN2 := hid hn2
  have HC2 := hid hc2
  have HX2 := hid hx2
  have HR2 := hid (ri_kid hR x2 (List.mem_of_getElem? hx2))
  have hxw2 := Wri.wg_mem (List.mem_of_getElem? hx2)
  have HW2 : Hid (Wri.wg x2 ≤ N ∧ Wri.wg x2 ≤ 1048576) := hid (by simp only [Wri.wg] at hN hM; exact ⟨by omega, by omega⟩)
  clear hn2 hc2 hx2 hxw2
  rw [wr_tries3 29 t kl x0 x1 x2 HX0.out HX1.out HX2.out] at hl
  have HLN := hid hlen
  have hts : (byt t).size ≤ 70368744177664 := by rw [byt_size]; simp only [List.length_append, List.length_cons] at hl; omega
  go_enter Tryz.func36, Tryz.ntmps36
  go_upto_region 1 with fail
  refine gen_world (F := fun W => Box W w.heap.size 24 (nc 29 3 t (.slice (some ⟨g0, o0, none⟩) 3 cap)) ∧ Below w.heap.size w W) ⟨Box.new w _ _, below1 w _⟩ ?_
  rintro W0 ⟨b0, hU⟩
  have NB := hid b0
  have WT := hid (hW.below hU)
  have HU : Hid (Below B w W0) := hid (hU.mono hBw)
  have HS : Hid (Stays wb w W0) := hid (Stays.below hU)
  have hB0 : B ≤ W0.heap.size := Nat.le_trans hBw hU.size
  have hnw : w.heap.size ≠ wb := by omega
  have hbx := Nat.lt_of_lt_of_le b0.lt (Nat.le_refl _)
  clear b0 hU
  have HNENB := hid hnw
  go_wp2_with fail
  refine (wstr B wb (l) [116, 114, 121, 32] _ WT.out (by (try simp only [ln] at hl); (try simp only [ln]); omega) hB0).mono ?_
  rintro e w1 ⟨⟨v, rfl⟩, hw, hb, hs⟩
  replace WT := hid hw
  replace NB := st hs NB HNENB
  replace HU := hid (HU.out.trans hb)
  replace HS := hid (HS.out.trans hs)
  replace hB0 := Nat.le_trans hB0 hb.size
  clear hw hb hs
  obtain ⟨k0, k1, k2, k3⟩ := HC0.out w1 HU.out
  simp at k0 k1 k2 k3
  have c3 := NB.out.cell 3
  simp [nc] at c3
  go_wp2_with fail
  refine (IH.block HW0.out.1 HW0.out.2 HR0.out (HN0.out.belowB HU.out) WT.out hB0 h7 (HE.out.below HU.out h7) (by (try simp only [ln] at hl); (try simp only [ln]); omega)).mono ?_
  rintro e w2 ⟨rfl, hw, hb, hs⟩
  clear k0 k1 k2 k3 c3
  replace WT := hid hw
  replace NB := st hs NB HNENB
  replace HU := hid (HU.out.trans hb)
  replace HS := hid (HS.out.trans hs)
  replace hB0 := Nat.le_trans hB0 hb.size
  clear hw hb hs
  have c1 := NB.out.cell 1
  simp [nc] at c1
  have c2 := NB.out.cell 2
  simp [nc] at c2
  have hcc : ¬ 9223372036854775807 < 8 + (byt t).size := by omega
  have hcc2 : ¬ 9223372036854775807 < 8 + (byt t).size + 2 := by omega
  have hg8 : (⟨#[32, 99, 97, 116, 99, 104, 32, 40]⟩ : ByteArray).size = 8 := rfl
  have hg2 : (⟨#[41, 32]⟩ : ByteArray).size = 2 := rfl
  have HPC : Hid ((⟨#[32, 99, 97, 116, 99, 104, 32, 40]⟩ ++ byt t ++ ⟨#[41, 32]⟩ : ByteArray) = byt ([32, 99, 97, 116, 99, 104, 32, 40] ++ t ++ [41, 32])) := hid (by rw [← byt_append, ← byt_append]; rfl)
  go_upto_region 5 with fail
  go_wp2
  go_still_tail 7, (by kernel_rfl)
  change wpList _ _ _ _ _ w2.drew
  have hdr : Below w2.heap.size w2 w2.drew := Below.drew (Below.refl _ _)
  have hdz : w2.drew.heap.size = w2.heap.size := rfl
  obtain ⟨wd, hwd⟩ : ∃ wd, w2.drew = wd := ⟨_, rfl⟩
  rw [hwd] at hdr hdz ⊢
  replace WT := hid (WT.out.below hdr)
  replace NB := bl NB hdr
  replace HU := hid (HU.out.trans (hdr.mono hB0))
  replace HS := hid (HS.out.trans (Stays.below hdr))
  have hB1 : B ≤ wd.heap.size := by omega
  clear hB0
  have hB0 := hB1
  clear hdr hdz hwd
  clear c1 c2
  go_wp2_with fail
  rw [HPC.out]
  refine (wstr B wb (l ++ [116, 114, 121, 32] ++ Wri.wr x0 .block) ([32, 99, 97, 116, 99, 104, 32, 40] ++ t ++ [41, 32]) _ WT.out (by (try simp only [ln] at hl); (try simp only [ln]); omega) hB0).mono ?_
  rintro e w3 ⟨⟨v, rfl⟩, hw, hb, hs⟩
  replace WT := hid hw
  replace NB := st hs NB HNENB
  replace HU := hid (HU.out.trans hb)
  replace HS := hid (HS.out.trans hs)
  replace hB0 := Nat.le_trans hB0 hb.size
  clear hw hb hs
  obtain ⟨k0, k1, k2, k3⟩ := HC1.out w3 HU.out
  have kk0 : w3.cell? ⟨g0, o0 + 4, none⟩ = some (.int .i64 x1.kind) := by simpa [Nat.add_assoc] using k0
  have kk1 : w3.cell? ⟨g0, o0 + 5, none⟩ = some b1 := by simpa [Nat.add_assoc] using k1
  have kk2 : w3.cell? ⟨g0, o0 + 6, none⟩ = some c1 := by simpa [Nat.add_assoc] using k2
  have kk3 : w3.cell? ⟨g0, o0 + 7, none⟩ = some d1 := by simpa [Nat.add_assoc] using k3
  have c3 := NB.out.cell 3
  simp [nc] at c3
  go_wp2_with fail
  refine (IH.block HW1.out.1 HW1.out.2 HR1.out (HN1.out.belowB HU.out) WT.out hB0 h7 (HE.out.below HU.out h7) (by (try simp only [ln] at hl); (try simp only [ln]); omega)).mono ?_
  rintro e w4 ⟨rfl, hw, hb, hs⟩
  clear k0 k1 k2 k3 kk0 kk1 kk2 kk3 c3
  replace WT := hid hw
  replace NB := st hs NB HNENB
  replace HU := hid (HU.out.trans hb)
  replace HS := hid (HS.out.trans hs)
  replace hB0 := Nat.le_trans hB0 hb.size
  clear hw hb hs
  have c1 := NB.out.cell 1
  simp [nc] at c1
  go_upto_region 9 with fail
  clear c1
  go_wp2_with fail
  refine (wstr B wb (l ++ [116, 114, 121, 32] ++ Wri.wr x0 .block ++ ([32, 99, 97, 116, 99, 104, 32, 40] ++ t ++ [41, 32]) ++ Wri.wr x1 .block) [32, 102, 105, 110, 97, 108, 108, 121, 32] _ WT.out (by (try simp only [ln] at hl); (try simp only [ln]); omega) hB0).mono ?_
  rintro e w5 ⟨⟨v, rfl⟩, hw, hb, hs⟩
  replace WT := hid hw
  replace NB := st hs NB HNENB
  replace HU := hid (HU.out.trans hb)
  replace HS := hid (HS.out.trans hs)
  replace hB0 := Nat.le_trans hB0 hb.size
  clear hw hb hs
  obtain ⟨k0, k1, k2, k3⟩ := HC2.out w5 HU.out
  have kk0 : w5.cell? ⟨g0, o0 + 8, none⟩ = some (.int .i64 x2.kind) := by simpa [Nat.add_assoc] using k0
  have kk1 : w5.cell? ⟨g0, o0 + 9, none⟩ = some b2 := by simpa [Nat.add_assoc] using k1
  have kk2 : w5.cell? ⟨g0, o0 + 10, none⟩ = some c2 := by simpa [Nat.add_assoc] using k2
  have kk3 : w5.cell? ⟨g0, o0 + 11, none⟩ = some d2 := by simpa [Nat.add_assoc] using k3
  have c3 := NB.out.cell 3
  simp [nc] at c3
  go_wp2_with fail
  refine (IH.block HW2.out.1 HW2.out.2 HR2.out (HN2.out.belowB HU.out) WT.out hB0 h7 (HE.out.below HU.out h7) (by (try simp only [ln] at hl); (try simp only [ln]); omega)).mono ?_
  rintro e w6 ⟨rfl, hw, hb, hs⟩
  clear k0 k1 k2 k3 kk0 kk1 kk2 kk3 c3
  replace WT := hid hw
  replace NB := st hs NB HNENB
  replace HU := hid (HU.out.trans hb)
  replace HS := hid (HS.out.trans hs)
  replace hB0 := Nat.le_trans hB0 hb.size
  clear hw hb hs
  go_wp2
  go_end0
  exact ⟨rfl, by rw [wr_tries3 29 t kl x0 x1 x2 HX0.out HX1.out HX2.out]; simpa [List.append_assoc] using WT.out, HU.out, HS.out⟩
end Go.Proofs.YtonjdlialejedaaGreatDoor
