/-
  Texts that the law leans on: PwV, JlR, PwX. Conditions: as each says.
-/
import Derived.Test.YtonjdlialejedaaGreatDoorFAm
import Derived.Test.YtonjdlialejedaaGreatDoorFAk
import Derived.Test.YtonjdlialejedaaGreatDoorFAh
import Derived.Test.YtonjdlialejedaaGreatDoorFAa
import Derived.IntWalk
import Derived.StillTailTactics
set_option linter.unusedSimpArgs false
set_option linter.unusedVariables false
namespace Go.Proofs.YtonjdlialejedaaGreatDoor
open Go.Lib (hid)
open Go.RowKit
theorem wr_tries1 (k : Int) (t : List UInt8) (l : List Pars.Node) (x0 x1 : Pars.Node) (h0 : l[0]? = some x0) (h1 : l[1]? = some x1) : Wri.wr (.mk k 1 t l) .tries = [116, 114, 121, 32] ++ Wri.wr x0 .block ++ ([32, 99, 97, 116, 99, 104, 32, 40] ++ t ++ [41, 32]) ++ Wri.wr x1 .block := by
 show Wri.wTries 1 t (Wri.wrs l) = _
 unfold Wri.wTries
 simp [wrs_kid h0, wrs_kid h1, List.append_assoc]
theorem wr_tries2 (k : Int) (t : List UInt8) (l : List Pars.Node) (x0 x1 : Pars.Node) (h0 : l[0]? = some x0) (h1 : l[1]? = some x1) : Wri.wr (.mk k 2 t l) .tries = [116, 114, 121, 32] ++ Wri.wr x0 .block ++ [32, 102, 105, 110, 97, 108, 108, 121, 32] ++ Wri.wr x1 .block := by
 show Wri.wTries 2 t (Wri.wrs l) = _
 unfold Wri.wTries
 simp [wrs_kid h0, wrs_kid h1, List.append_assoc]
theorem wr_tries3 (k : Int) (t : List UInt8) (l : List Pars.Node) (x0 x1 x2 : Pars.Node) (h0 : l[0]? = some x0) (h1 : l[1]? = some x1) (h2 : l[2]? = some x2) : Wri.wr (.mk k 3 t l) .tries = [116, 114, 121, 32] ++ Wri.wr x0 .block ++ ([32, 99, 97, 116, 99, 104, 32, 40] ++ t ++ [41, 32]) ++ Wri.wr x1 .block ++ [32, 102, 105, 110, 97, 108, 108, 121, 32] ++ Wri.wr x2 .block := by
 show Wri.wTries 3 t (Wri.wrs l) = _
 unfold Wri.wTries
 simp [wrs_kid h0, wrs_kid h1, wrs_kid h2, List.append_assoc]
theorem fields_try {nu : Int} {t : List UInt8} (h : Wri.fields 29 nu t = true) : nu = 1 ∨ nu = 2 ∨ nu = 3 := by
 unfold Wri.fields at h
 simp at h
 omega
set_option maxRecDepth 100000 in
set_option maxHeartbeats 4000000 in
theorem tries_w {N : Nat} (IH : Wall N) : ∀ {n : Pars.Node} {cs : Array Value} {w : World} {B wb : Nat} {l : List UInt8}, Wri.wg n ≤ N + 1 → Wri.wg n ≤ 1048576 → Ri n → n.kind = 29 → NodeAt w (fun g => g < B) n cs → Wt B wb l w → B ≤ w.heap.size → 7 ≤ B → EnvW w → l.length + (Wri.wr n .tries).length ≤ 70368744177664 → Calls Tryz.prog 36 #[.pointer (some ⟨wb, 0, none⟩), .agg cs] w (WOut B wb l (Wri.wr n .tries) w) := by
 intro n cs w B wb l hN hM hR hk9 hn hW hBw h7 he hl
 obtain ⟨k, nu, t, kl⟩ := n
 have hn0 := hn
 unfold NodeAt at hn
 obtain ⟨A, cap, css, rfl, hc1, hc2, hrow, hk⟩ := hn
 have HROW := hid hrow
 have HK := hid hk
 have HN := hid hn0
 have HE := hid he
 have hwlt := hW.lt
 have hll := Wri.wgs_len kl
 clear hrow hk hn0 he
 have hk29 : k = 29 := hk9
 subst hk29
 rcases fields_try ((ri_parts hR).2.1) with hnu | hnu | hnu
 ·subst hnu
  have hlen := (ri_len hR).2.2.2.2.2.2.2 hk9
  have hlen : kl.length = 2 := by simpa using hlen
  obtain ⟨x0, hx0⟩ : ∃ x, kl[0]? = some x := ⟨_, List.getElem?_eq_getElem (by omega)⟩
  obtain ⟨x1, hx1⟩ : ∃ x, kl[1]? = some x := ⟨_, List.getElem?_eq_getElem (by omega)⟩
  obtain ⟨g0, o0, rfl, hg0, _, _⟩ := HROW.out (by omega)
  obtain ⟨b0, c0, d0, hn0, hc0⟩ := kid4 HK.out HROW.out hx0
  have HN0 := hid hn0
  have HC0 := hid hc0
  have HX0 := hid hx0
  have HR0 := hid (ri_kid hR x0 (List.mem_of_getElem? hx0))
  have hxw0 := Wri.wg_mem (List.mem_of_getElem? hx0)
  have HW0 : Hid (Wri.wg x0 ≤ N ∧ Wri.wg x0 ≤ 1048576) := hid (by simp only [Wri.wg] at hN hM; exact ⟨by omega, by omega⟩)
  clear hn0 hc0 hx0 hxw0
  obtain ⟨b1, c1, d1, hn1, hc1⟩ := kid4 HK.out HROW.out hx1
  have HN1 := hid hn1
  have HC1 := hid hc1
  have HX1 := hid hx1
  have HR1 := hid (ri_kid hR x1 (List.mem_of_getElem? hx1))
  have hxw1 := Wri.wg_mem (List.mem_of_getElem? hx1)
  have HW1 : Hid (Wri.wg x1 ≤ N ∧ Wri.wg x1 ≤ 1048576) := hid (by simp only [Wri.wg] at hN hM; exact ⟨by omega, by omega⟩)
  clear hn1 hc1 hx1 hxw1
  rw [wr_tries1 29 t kl x0 x1 HX0.out HX1.out] at hl
  have HLN := hid hlen
  have hts : (byt t).size ≤ 70368744177664 := by rw [byt_size]; simp only [List.length_append, List.length_cons] at hl; omega
  go_enter Tryz.func36, Tryz.ntmps36
  go_upto_region 1 with fail
  refine gen_world (F := fun W => Box W w.heap.size 24 (nc 29 1 t (.slice (some ⟨g0, o0, none⟩) 2 cap)) ∧ Below w.heap.size w W) ⟨Box.new w _ _, below1 w _⟩ ?_
  rintro W0 ⟨b0, hU⟩
  have NB := hid b0
  have WT := hid (hW.below hU)
  have HU : Hid (Below B w W0) := hid (hU.mono hBw)
  have HS : Hid (Stays wb w W0) := hid (Stays.below hU)
  have hB0 : B ≤ W0.heap.size := Nat.le_trans hBw hU.size
  have hnw : w.heap.size ≠ wb := by omega
  have hbx := Nat.lt_of_lt_of_le b0.lt (Nat.le_refl _)
  clear b0 hU
  have HNENB := hid hnw
  go_wp2_with fail
  refine (wstr B wb (l) [116, 114, 121, 32] _ WT.out (by (try simp only [ln] at hl); (try simp only [ln]); omega) hB0).mono ?_
  rintro e w1 ⟨⟨v, rfl⟩, hw, hb, hs⟩
  replace WT := hid hw
  replace NB := st hs NB HNENB
  replace HU := hid (HU.out.trans hb)
  replace HS := hid (HS.out.trans hs)
  replace hB0 := Nat.le_trans hB0 hb.size
  clear hw hb hs
  obtain ⟨k0, k1, k2, k3⟩ := HC0.out w1 HU.out
  simp at k0 k1 k2 k3
  have c3 := NB.out.cell 3
  simp [nc] at c3
  go_wp2_with fail
  refine (IH.block HW0.out.1 HW0.out.2 HR0.out (HN0.out.belowB HU.out) WT.out hB0 h7 (HE.out.below HU.out h7) (by (try simp only [ln] at hl); (try simp only [ln]); omega)).mono ?_
  rintro e w2 ⟨rfl, hw, hb, hs⟩
  clear k0 k1 k2 k3 c3
  replace WT := hid hw
  replace NB := st hs NB HNENB
  replace HU := hid (HU.out.trans hb)
  replace HS := hid (HS.out.trans hs)
  replace hB0 := Nat.le_trans hB0 hb.size
  clear hw hb hs
  have c1 := NB.out.cell 1
  simp [nc] at c1
  have c2 := NB.out.cell 2
  simp [nc] at c2
  have hcc : ¬ 9223372036854775807 < 8 + (byt t).size := by omega
  have hcc2 : ¬ 9223372036854775807 < 8 + (byt t).size + 2 := by omega
  have hg8 : (⟨#[32, 99, 97, 116, 99, 104, 32, 40]⟩ : ByteArray).size = 8 := rfl
  have hg2 : (⟨#[41, 32]⟩ : ByteArray).size = 2 := rfl
  have HPC : Hid ((⟨#[32, 99, 97, 116, 99, 104, 32, 40]⟩ ++ byt t ++ ⟨#[41, 32]⟩ : ByteArray) = byt ([32, 99, 97, 116, 99, 104, 32, 40] ++ t ++ [41, 32])) := hid (by rw [← byt_append, ← byt_append]; rfl)
  go_upto_region 5 with fail
  go_wp2
  go_still_tail 7, (by kernel_rfl)
  change wpList _ _ _ _ _ w2.drew
  have hdr : Below w2.heap.size w2 w2.drew := Below.drew (Below.refl _ _)
  have hdz : w2.drew.heap.size = w2.heap.size := rfl
  obtain ⟨wd, hwd⟩ : ∃ wd, w2.drew = wd := ⟨_, rfl⟩
  rw [hwd] at hdr hdz ⊢
  replace WT := hid (WT.out.below hdr)
  replace NB := bl NB hdr
  replace HU := hid (HU.out.trans (hdr.mono hB0))
  replace HS := hid (HS.out.trans (Stays.below hdr))
  have hB1 : B ≤ wd.heap.size := by omega
  clear hB0
  have hB0 := hB1
  clear hdr hdz hwd
  clear c1 c2
  go_wp2_with fail
  rw [HPC.out]
  refine (wstr B wb (l ++ [116, 114, 121, 32] ++ Wri.wr x0 .block) ([32, 99, 97, 116, 99, 104, 32, 40] ++ t ++ [41, 32]) _ WT.out (by (try simp only [ln] at hl); (try simp only [ln]); omega) hB0).mono ?_
  rintro e w3 ⟨⟨v, rfl⟩, hw, hb, hs⟩
  replace WT := hid hw
  replace NB := st hs NB HNENB
  replace HU := hid (HU.out.trans hb)
  replace HS := hid (HS.out.trans hs)
  replace hB0 := Nat.le_trans hB0 hb.size
  clear hw hb hs
  obtain ⟨k0, k1, k2, k3⟩ := HC1.out w3 HU.out
  have kk0 : w3.cell? ⟨g0, o0 + 4, none⟩ = some (.int .i64 x1.kind) := by simpa [Nat.add_assoc] using k0
  have kk1 : w3.cell? ⟨g0, o0 + 5, none⟩ = some b1 := by simpa [Nat.add_assoc] using k1
  have kk2 : w3.cell? ⟨g0, o0 + 6, none⟩ = some c1 := by simpa [Nat.add_assoc] using k2
  have kk3 : w3.cell? ⟨g0, o0 + 7, none⟩ = some d1 := by simpa [Nat.add_assoc] using k3
  have c3 := NB.out.cell 3
  simp [nc] at c3
  go_wp2_with fail
  refine (IH.block HW1.out.1 HW1.out.2 HR1.out (HN1.out.belowB HU.out) WT.out hB0 h7 (HE.out.below HU.out h7) (by (try simp only [ln] at hl); (try simp only [ln]); omega)).mono ?_
  rintro e w4 ⟨rfl, hw, hb, hs⟩
  clear k0 k1 k2 k3 kk0 kk1 kk2 kk3 c3
  replace WT := hid hw
  replace NB := st hs NB HNENB
  replace HU := hid (HU.out.trans hb)
  replace HS := hid (HS.out.trans hs)
  replace hB0 := Nat.le_trans hB0 hb.size
  clear hw hb hs
  have c1 := NB.out.cell 1
  simp [nc] at c1
  go_wp2
  go_end0
  exact ⟨rfl, by rw [wr_tries1 29 t kl x0 x1 HX0.out HX1.out]; simpa [List.append_assoc] using WT.out, HU.out, HS.out⟩
 ·subst hnu
  have hlen := (ri_len hR).2.2.2.2.2.2.2 hk9
  have hlen : kl.length = 2 := by simpa using hlen
  obtain ⟨x0, hx0⟩ : ∃ x, kl[0]? = some x := ⟨_, List.getElem?_eq_getElem (by omega)⟩
  obtain ⟨x1, hx1⟩ : ∃ x, kl[1]? = some x := ⟨_, List.getElem?_eq_getElem (by omega)⟩
  obtain ⟨g0, o0, rfl, hg0, _, _⟩ := HROW.out (by omega)
  obtain ⟨b0, c0, d0, hn0, hc0⟩ := kid4 HK.out HROW.out hx0
  have HN0 := hid hn0
  have HC0 := hid hc0
  have HX0 := hid hx0
  have HR0 := hid (ri_kid hR x0 (List.mem_of_getElem? hx0))
  have hxw0 := Wri.wg_mem (List.mem_of_getElem? hx0)
  have HW0 : Hid (Wri.wg x0 ≤ N ∧ Wri.wg x0 ≤ 1048576) := hid (by simp only [Wri.wg] at hN hM; exact ⟨by omega, by omega⟩)
  clear hn0 hc0 hx0 hxw0
  obtain ⟨b1, c1, d1, hn1, hc1⟩ := kid4 HK.out HROW.out hx1
  have HN1 := hid hn1
  have HC1 := hid hc1
  have HX1 := hid hx1
  have HR1 := hid (ri_kid hR x1 (List.mem_of_getElem? hx1))
  have hxw1 := Wri.wg_mem (List.mem_of_getElem? hx1)
  have HW1 : Hid (Wri.wg x1 ≤ N ∧ Wri.wg x1 ≤ 1048576) := hid (by simp only [Wri.wg] at hN hM; exact ⟨by omega, by omega⟩)
  clear hn1 hc1 hx1 hxw1
  rw [wr_tries2 29 t kl x0 x1 HX0.out HX1.out] at hl
  have HLN := hid hlen
  go_enter Tryz.func36, Tryz.ntmps36
  go_upto_region 1 with fail
  refine gen_world (F := fun W => Box W w.heap.size 24 (nc 29 2 t (.slice (some ⟨g0, o0, none⟩) 2 cap)) ∧ Below w.heap.size w W) ⟨Box.new w _ _, below1 w _⟩ ?_
  rintro W0 ⟨b0, hU⟩
  have NB := hid b0
  have WT := hid (hW.below hU)
  have HU : Hid (Below B w W0) := hid (hU.mono hBw)
  have HS : Hid (Stays wb w W0) := hid (Stays.below hU)
  have hB0 : B ≤ W0.heap.size := Nat.le_trans hBw hU.size
  have hnw : w.heap.size ≠ wb := by omega
  have hbx := Nat.lt_of_lt_of_le b0.lt (Nat.le_refl _)
  clear b0 hU
  have HNENB := hid hnw
  go_wp2_with fail
  refine (wstr B wb (l) [116, 114, 121, 32] _ WT.out (by (try simp only [ln] at hl); (try simp only [ln]); omega) hB0).mono ?_
  rintro e w1 ⟨⟨v, rfl⟩, hw, hb, hs⟩
  replace WT := hid hw
  replace NB := st hs NB HNENB
  replace HU := hid (HU.out.trans hb)
  replace HS := hid (HS.out.trans hs)
  replace hB0 := Nat.le_trans hB0 hb.size
  clear hw hb hs
  obtain ⟨k0, k1, k2, k3⟩ := HC0.out w1 HU.out
  simp at k0 k1 k2 k3
  have c3 := NB.out.cell 3
  simp [nc] at c3
  go_wp2_with fail
  refine (IH.block HW0.out.1 HW0.out.2 HR0.out (HN0.out.belowB HU.out) WT.out hB0 h7 (HE.out.below HU.out h7) (by (try simp only [ln] at hl); (try simp only [ln]); omega)).mono ?_
  rintro e w2 ⟨rfl, hw, hb, hs⟩
  clear k0 k1 k2 k3 c3
  replace WT := hid hw
  replace NB := st hs NB HNENB
  replace HU := hid (HU.out.trans hb)
  replace HS := hid (HS.out.trans hs)
  replace hB0 := Nat.le_trans hB0 hb.size
  clear hw hb hs
  have c1 := NB.out.cell 1
  simp [nc] at c1
  go_upto_region 9 with fail
  clear c1
  go_wp2_with fail
  refine (wstr B wb (l ++ [116, 114, 121, 32] ++ Wri.wr x0 .block) [32, 102, 105, 110, 97, 108, 108, 121, 32] _ WT.out (by (try simp only [ln] at hl); (try simp only [ln]); omega) hB0).mono ?_
  rintro e w5 ⟨⟨v, rfl⟩, hw, hb, hs⟩
  replace WT := hid hw
  replace NB := st hs NB HNENB
  replace HU := hid (HU.out.trans hb)
  replace HS := hid (HS.out.trans hs)
  replace hB0 := Nat.le_trans hB0 hb.size
  clear hw hb hs
  obtain ⟨k0, k1, k2, k3⟩ := HC1.out w5 HU.out
  have kk0 : w5.cell? ⟨g0, o0 + 4, none⟩ = some (.int .i64 x1.kind) := by simpa [Nat.add_assoc] using k0
  have kk1 : w5.cell? ⟨g0, o0 + 5, none⟩ = some b1 := by simpa [Nat.add_assoc] using k1
  have kk2 : w5.cell? ⟨g0, o0 + 6, none⟩ = some c1 := by simpa [Nat.add_assoc] using k2
  have kk3 : w5.cell? ⟨g0, o0 + 7, none⟩ = some d1 := by simpa [Nat.add_assoc] using k3
  have c3 := NB.out.cell 3
  simp [nc] at c3
  go_wp2_with fail
  refine (IH.block HW1.out.1 HW1.out.2 HR1.out (HN1.out.belowB HU.out) WT.out hB0 h7 (HE.out.below HU.out h7) (by (try simp only [ln] at hl); (try simp only [ln]); omega)).mono ?_
  rintro e w6 ⟨rfl, hw, hb, hs⟩
  clear k0 k1 k2 k3 kk0 kk1 kk2 kk3 c3
  replace WT := hid hw
  replace NB := st hs NB HNENB
  replace HU := hid (HU.out.trans hb)
  replace HS := hid (HS.out.trans hs)
  replace hB0 := Nat.le_trans hB0 hb.size
  clear hw hb hs
  go_wp2
  go_end0
  exact ⟨rfl, by rw [wr_tries2 29 t kl x0 x1 HX0.out HX1.out]; simpa [List.append_assoc] using WT.out, HU.out, HS.out⟩
 ·subst hnu
  have hlen := (ri_len hR).2.2.2.2.2.2.2 hk9
  have hlen : kl.length = 3 := by simpa using hlen
  obtain ⟨x0, hx0⟩ : ∃ x, kl[0]? = some x := ⟨_, List.getElem?_eq_getElem (by omega)⟩
  obtain ⟨x1, hx1⟩ : ∃ x, kl[1]? = some x := ⟨_, List.getElem?_eq_getElem (by omega)⟩
  obtain ⟨x2, hx2⟩ : ∃ x, kl[2]? = some x := ⟨_, List.getElem?_eq_getElem (by omega)⟩
  obtain ⟨g0, o0, rfl, hg0, _, _⟩ := HROW.out (by omega)
  obtain ⟨b0, c0, d0, hn0, hc0⟩ := kid4 HK.out HROW.out hx0
  have HN0 := hid hn0
  have HC0 := hid hc0
  have HX0 := hid hx0
  have HR0 := hid (ri_kid hR x0 (List.mem_of_getElem? hx0))
  have hxw0 := Wri.wg_mem (List.mem_of_getElem? hx0)
  have HW0 : Hid (Wri.wg x0 ≤ N ∧ Wri.wg x0 ≤ 1048576) := hid (by simp only [Wri.wg] at hN hM; exact ⟨by omega, by omega⟩)
  clear hn0 hc0 hx0 hxw0
  obtain ⟨b1, c1, d1, hn1, hc1⟩ := kid4 HK.out HROW.out hx1
  have HN1 := hid hn1
  have HC1 := hid hc1
  have HX1 := hid hx1
  have HR1 := hid (ri_kid hR x1 (List.mem_of_getElem? hx1))
  have hxw1 := Wri.wg_mem (List.mem_of_getElem? hx1)
  have HW1 : Hid (Wri.wg x1 ≤ N ∧ Wri.wg x1 ≤ 1048576) := hid (by simp only [Wri.wg] at hN hM; exact ⟨by omega, by omega⟩)
  clear hn1 hc1 hx1 hxw1
  obtain ⟨b2, c2, d2, hn2, hc2⟩ := kid4 HK.out HROW.out hx2
  have HN2 := hid hn2
  have HC2 := hid hc2
  have HX2 := hid hx2
  have HR2 := hid (ri_kid hR x2 (List.mem_of_getElem? hx2))
  have hxw2 := Wri.wg_mem (List.mem_of_getElem? hx2)
  have HW2 : Hid (Wri.wg x2 ≤ N ∧ Wri.wg x2 ≤ 1048576) := hid (by simp only [Wri.wg] at hN hM; exact ⟨by omega, by omega⟩)
  clear hn2 hc2 hx2 hxw2
  rw [wr_tries3 29 t kl x0 x1 x2 HX0.out HX1.out HX2.out] at hl
  have HLN := hid hlen
  have hts : (byt t).size ≤ 70368744177664 := by rw [byt_size]; simp only [List.length_append, List.length_cons] at hl; omega
  go_enter Tryz.func36, Tryz.ntmps36
  go_upto_region 1 with fail
  refine gen_world (F := fun W => Box W w.heap.size 24 (nc 29 3 t (.slice (some ⟨g0, o0, none⟩) 3 cap)) ∧ Below w.heap.size w W) ⟨Box.new w _ _, below1 w _⟩ ?_
  rintro W0 ⟨b0, hU⟩
  have NB := hid b0
  have WT := hid (hW.below hU)
  have HU : Hid (Below B w W0) := hid (hU.mono hBw)
  have HS : Hid (Stays wb w W0) := hid (Stays.below hU)
  have hB0 : B ≤ W0.heap.size := Nat.le_trans hBw hU.size
  have hnw : w.heap.size ≠ wb := by omega
  have hbx := Nat.lt_of_lt_of_le b0.lt (Nat.le_refl _)
  clear b0 hU
  have HNENB := hid hnw
  go_wp2_with fail
  refine (wstr B wb (l) [116, 114, 121, 32] _ WT.out (by (try simp only [ln] at hl); (try simp only [ln]); omega) hB0).mono ?_
  rintro e w1 ⟨⟨v, rfl⟩, hw, hb, hs⟩
  replace WT := hid hw
  replace NB := st hs NB HNENB
  replace HU := hid (HU.out.trans hb)
  replace HS := hid (HS.out.trans hs)
  replace hB0 := Nat.le_trans hB0 hb.size
  clear hw hb hs
  obtain ⟨k0, k1, k2, k3⟩ := HC0.out w1 HU.out
  simp at k0 k1 k2 k3
  have c3 := NB.out.cell 3
  simp [nc] at c3
  go_wp2_with fail
  refine (IH.block HW0.out.1 HW0.out.2 HR0.out (HN0.out.belowB HU.out) WT.out hB0 h7 (HE.out.below HU.out h7) (by (try simp only [ln] at hl); (try simp only [ln]); omega)).mono ?_
  rintro e w2 ⟨rfl, hw, hb, hs⟩
  clear k0 k1 k2 k3 c3
  replace WT := hid hw
  replace NB := st hs NB HNENB
  replace HU := hid (HU.out.trans hb)
  replace HS := hid (HS.out.trans hs)
  replace hB0 := Nat.le_trans hB0 hb.size
  clear hw hb hs
  have c1 := NB.out.cell 1
  simp [nc] at c1
  have c2 := NB.out.cell 2
  simp [nc] at c2
  have hcc : ¬ 9223372036854775807 < 8 + (byt t).size := by omega
  have hcc2 : ¬ 9223372036854775807 < 8 + (byt t).size + 2 := by omega
  have hg8 : (⟨#[32, 99, 97, 116, 99, 104, 32, 40]⟩ : ByteArray).size = 8 := rfl
  have hg2 : (⟨#[41, 32]⟩ : ByteArray).size = 2 := rfl
  have HPC : Hid ((⟨#[32, 99, 97, 116, 99, 104, 32, 40]⟩ ++ byt t ++ ⟨#[41, 32]⟩ : ByteArray) = byt ([32, 99, 97, 116, 99, 104, 32, 40] ++ t ++ [41, 32])) := hid (by rw [← byt_append, ← byt_append]; rfl)
  go_upto_region 5 with fail
  go_wp2
  go_still_tail 7, (by kernel_rfl)
  change wpList _ _ _ _ _ w2.drew
  have hdr : Below w2.heap.size w2 w2.drew := Below.drew (Below.refl _ _)
  have hdz : w2.drew.heap.size = w2.heap.size := rfl
  obtain ⟨wd, hwd⟩ : ∃ wd, w2.drew = wd := ⟨_, rfl⟩
  rw [hwd] at hdr hdz ⊢
  replace WT := hid (WT.out.below hdr)
  replace NB := bl NB hdr
  replace HU := hid (HU.out.trans (hdr.mono hB0))
  replace HS := hid (HS.out.trans (Stays.below hdr))
  have hB1 : B ≤ wd.heap.size := by omega
  clear hB0
  have hB0 := hB1
  clear hdr hdz hwd
  clear c1 c2
  go_wp2_with fail
  rw [HPC.out]
  refine (wstr B wb (l ++ [116, 114, 121, 32] ++ Wri.wr x0 .block) ([32, 99, 97, 116, 99, 104, 32, 40] ++ t ++ [41, 32]) _ WT.out (by (try simp only [ln] at hl); (try simp only [ln]); omega) hB0).mono ?_
  rintro e w3 ⟨⟨v, rfl⟩, hw, hb, hs⟩
  replace WT := hid hw
  replace NB := st hs NB HNENB
  replace HU := hid (HU.out.trans hb)
  replace HS := hid (HS.out.trans hs)
  replace hB0 := Nat.le_trans hB0 hb.size
  clear hw hb hs
  obtain ⟨k0, k1, k2, k3⟩ := HC1.out w3 HU.out
  have kk0 : w3.cell? ⟨g0, o0 + 4, none⟩ = some (.int .i64 x1.kind) := by simpa [Nat.add_assoc] using k0
  have kk1 : w3.cell? ⟨g0, o0 + 5, none⟩ = some b1 := by simpa [Nat.add_assoc] using k1
  have kk2 : w3.cell? ⟨g0, o0 + 6, none⟩ = some c1 := by simpa [Nat.add_assoc] using k2
  have kk3 : w3.cell? ⟨g0, o0 + 7, none⟩ = some d1 := by simpa [Nat.add_assoc] using k3
  have c3 := NB.out.cell 3
  simp [nc] at c3
  go_wp2_with fail
  refine (IH.block HW1.out.1 HW1.out.2 HR1.out (HN1.out.belowB HU.out) WT.out hB0 h7 (HE.out.below HU.out h7) (by (try simp only [ln] at hl); (try simp only [ln]); omega)).mono ?_
  rintro e w4 ⟨rfl, hw, hb, hs⟩
  clear k0 k1 k2 k3 kk0 kk1 kk2 kk3 c3
  replace WT := hid hw
  replace NB := st hs NB HNENB
  replace HU := hid (HU.out.trans hb)
  replace HS := hid (HS.out.trans hs)
  replace hB0 := Nat.le_trans hB0 hb.size
  clear hw hb hs
  have c1 := NB.out.cell 1
  simp [nc] at c1
  go_upto_region 9 with fail
  clear c1
  go_wp2_with fail
  refine (wstr B wb (l ++ [116, 114, 121, 32] ++ Wri.wr x0 .block ++ ([32, 99, 97, 116, 99, 104, 32, 40] ++ t ++ [41, 32]) ++ Wri.wr x1 .block) [32, 102, 105, 110, 97, 108, 108, 121, 32] _ WT.out (by (try simp only [ln] at hl); (try simp only [ln]); omega) hB0).mono ?_
  rintro e w5 ⟨⟨v, rfl⟩, hw, hb, hs⟩
  replace WT := hid hw
  replace NB := st hs NB HNENB
  replace HU := hid (HU.out.trans hb)
  replace HS := hid (HS.out.trans hs)
  replace hB0 := Nat.le_trans hB0 hb.size
  clear hw hb hs
  obtain ⟨k0, k1, k2, k3⟩ := HC2.out w5 HU.out
  have kk0 : w5.cell? ⟨g0, o0 + 8, none⟩ = some (.int .i64 x2.kind) := by simpa [Nat.add_assoc] using k0
  have kk1 : w5.cell? ⟨g0, o0 + 9, none⟩ = some b2 := by simpa [Nat.add_assoc] using k1
  have kk2 : w5.cell? ⟨g0, o0 + 10, none⟩ = some c2 := by simpa [Nat.add_assoc] using k2
  have kk3 : w5.cell? ⟨g0, o0 + 11, none⟩ = some d2 := by simpa [Nat.add_assoc] using k3
  have c3 := NB.out.cell 3
  simp [nc] at c3
  go_wp2_with fail
  refine (IH.block HW2.out.1 HW2.out.2 HR2.out (HN2.out.belowB HU.out) WT.out hB0 h7 (HE.out.below HU.out h7) (by (try simp only [ln] at hl); (try simp only [ln]); omega)).mono ?_
  rintro e w6 ⟨rfl, hw, hb, hs⟩
  clear k0 k1 k2 k3 kk0 kk1 kk2 kk3 c3
  replace WT := hid hw
  replace NB := st hs NB HNENB
  replace HU := hid (HU.out.trans hb)
  replace HS := hid (HS.out.trans hs)
  replace hB0 := Nat.le_trans hB0 hb.size
  clear hw hb hs
  go_wp2
  go_end0
  exact ⟨rfl, by rw [wr_tries3 29 t kl x0 x1 x2 HX0.out HX1.out HX2.out]; simpa [List.append_assoc] using WT.out, HU.out, HS.out⟩
end Go.Proofs.YtonjdlialejedaaGreatDoor
namespace Go.Proofs.YtonjdlialejedaaGreatDoor.Jl
open Go.Lib (hid)
open Go.RowKit
theorem wpList_of_row {P : Program} {ops : Array Oper} {rest : List Oper} {o : Oper} {a : Act} {w : World} {Q : Exit → Act → World → Prop} (hgd : o.guard = none) (src dst e : TypeId) (x : Operand) (ho : o.op = .convert src dst x)
  (hs : P.underlying src = some (.slice e)) (he : P.underlying e = some (.int .u8)) (hd : P.underlying dst = some .string) (p : Addr) (cap : Nat) (l : List UInt8) (hx : a.eval x = .slice (some p) l.length cap)
  (hc : ∀ j (hj : j < l.length), w.cell? (p.add j) = some (.int .u8 (l[j].toNat : Int))) (h : wpList P ops Q rest (a.put o.dst (.string ⟨l.toArray⟩)) w) : wpList P ops Q (o :: rest) a w := by
 have hrun := run_convert_bytes_back (P := P) w src dst e p cap l hs he hd hc
 refine wpList_plain hgd fun _ hK => ?_
 unfold Oper.wp execOp
 simp only [ho, hx, Sem.run_bind, hrun, Result.andThen_ok, Sem.run_pure]
 exact hK _ _ h
theorem cells_cat (a b : List UInt8) : Lib.byteCells a ++ Lib.byteCells b = Lib.byteCells (a ++ b) := by simp [Lib.byteCells]
theorem cells_str (l : List UInt8) : Lib.strCells ⟨l.toArray⟩ = Lib.byteCells l := by simp [Lib.strCells, Lib.byteCells]
def WB : Prop := ∀ (B b : Nat) (l : List UInt8) (c : UInt8) (w : World), Lib.IsBuilder 53 5 B b (Lib.byteCells l) w → l.length ≤ 5000000 → B ≤ w.heap.size →
 Calls Tryz.prog 19 #[.pointer (some ⟨b, 0, none⟩), .int .u8 (c.toNat : Int)] w fun e w' => e = .returned .nilIface ∧ Lib.IsBuilder 53 5 B b (Lib.byteCells (l ++ [c])) w' ∧ Below B w w'
theorem wb : WB := by
 intro B b l c w h hl hB
 have := write_byte B b (Lib.byteCells l) (c.toNat : Int) w h (by rw [Lib.byteCells_length]; omega) hB
 rw [← cells_cat]; exact this
def WS : Prop := ∀ (B b : Nat) (l : List UInt8) (s : List UInt8) (w : World), Lib.IsBuilder 53 5 B b (Lib.byteCells l) w → l.length ≤ 5000000 → s.length ≤ 10 → B ≤ w.heap.size →
 Calls Tryz.prog 31 #[.pointer (some ⟨b, 0, none⟩), .string ⟨s.toArray⟩] w fun e w' => (∃ v, e = .returned v) ∧ Lib.IsBuilder 53 5 B b (Lib.byteCells (l ++ s)) w' ∧ Below B w w'
theorem ws : WS := by
 intro B b l s w h hl hs hB
 have hz : (⟨s.toArray⟩ : ByteArray).size = s.length := rfl
 have := write_string B b (Lib.byteCells l) ⟨s.toArray⟩ w h (by rw [Lib.byteCells_length, hz]; omega) hB
 rw [cells_str, cells_cat] at this
 exact this.mono fun _ _ ⟨h1, h2, h3⟩ => ⟨⟨_, h1⟩, h2, h3⟩
def WS2 : Prop := ∀ (B b : Nat) (l : List UInt8) (c : UInt8) (w : World), Lib.IsBuilder 53 5 B b (Lib.byteCells l) w → l.length ≤ 5000000 → B ≤ w.heap.size →
 Calls Tryz.prog 31 #[.pointer (some ⟨b, 0, none⟩), .string ((⟨#[92]⟩ : ByteArray) ++ ⟨#[c]⟩)] w fun e w' => (∃ v, e = .returned v) ∧ Lib.IsBuilder 53 5 B b (Lib.byteCells (l ++ [92, c])) w' ∧ Below B w w'
theorem ws2 : WS2 := by
 intro B b l c w h hl hB
 have := ws B b l [92, c] w h hl (by simp) hB
 rwa [show ((⟨#[92]⟩ : ByteArray) ++ ⟨#[c]⟩) = ⟨[92, c].toArray⟩ from rfl]
def WS4 : Prop := ∀ (B b : Nat) (l : List UInt8) (x y : UInt8) (w : World), Lib.IsBuilder 53 5 B b (Lib.byteCells l) w → l.length ≤ 5000000 → B ≤ w.heap.size →
 Calls Tryz.prog 31 #[.pointer (some ⟨b, 0, none⟩), .string ((⟨#[92, 120]⟩ : ByteArray) ++ ⟨#[x]⟩ ++ ⟨#[y]⟩)] w fun e w' => (∃ v, e = .returned v) ∧ Lib.IsBuilder 53 5 B b (Lib.byteCells (l ++ [92, 120, x, y])) w' ∧ Below B w w'
theorem ws4 : WS4 := by
 intro B b l x y w h hl hB
 have := ws B b l [92, 120, x, y] w h hl (by simp) hB
 rwa [show ((⟨#[92, 120]⟩ : ByteArray) ++ ⟨#[x]⟩ ++ ⟨#[y]⟩) = ⟨[92, 120, x, y].toArray⟩ from rfl]
theorem isBuilder_alloc {T e : TypeId} {B b : Nat} {bs : List Value} {w : World} (h : Lib.IsBuilder T e B b bs w) (o : Obj) : Lib.IsBuilder T e B b bs (w.alloc o) := by
 rcases h with ⟨h0, v, h1, h2, h3⟩ | ⟨h0, v, h1, h2, h3⟩
 ·exact .inl ⟨h0, v, (Below.heap_alloc w o b (Box.lt h1)).trans h1, h2.alloc o, h3⟩
 ·exact .inr ⟨h0, v, (Below.heap_alloc w o b (Box.lt h1)).trans h1, h2.alloc o, h3⟩
theorem qb_flat (l : Lexy.Bs) : (l.flatMap Lexy.qb).length ≤ 4 * l.length := by
 induction l with
 | nil => simp
 | cons c r ih => have := (Lexy.qb_len c).2; simp [List.flatMap_cons]; simp at ih; omega
theorem flat_more (l : Lexy.Bs) (k : Nat) (c : UInt8) (h : l[k]? = some c) : (l.take (k + 1)).flatMap Lexy.qb = (l.take k).flatMap Lexy.qb ++ Lexy.qb c := by
 rw [List.take_add_one, h]; simp
theorem hex_slice : ∀ n : Fin 16, (⟨#[48, 49, 50, 51, 52, 53, 54, 55, 56, 57, 97, 98, 99, 100, 101, 102]⟩ : ByteArray).extract n.val (n.val + 1) = ⟨#[Lexy.hexd (UInt8.ofNat n.val)]⟩ := by decide +kernel
theorem hex_run (n : UInt8) (hn : n.toNat < 16) (a b : Int) (ha : a = n.toNat) (hb : b = n.toNat + 1) (w : World) :
  (Instr.slice 9 (.string ⟨#[48, 49, 50, 51, 52, 53, 54, 55, 56, 57, 97, 98, 99, 100, 101, 102]⟩) (some (.int .u8 a)) (some (.int .u8 b)) none).run Tryz.prog w = .ok (.string ⟨#[Lexy.hexd n]⟩) w := by
 subst ha hb
 have hz : (⟨#[48, 49, 50, 51, 52, 53, 54, 55, 56, 57, 97, 98, 99, 100, 101, 102]⟩ : ByteArray).size = 16 := rfl
 have := run_slice_string (P := Tryz.prog) w 9 ⟨#[48, 49, 50, 51, 52, 53, 54, 55, 56, 57, 97, 98, 99, 100, 101, 102]⟩ .u8 .u8 (n.toNat : Int) ((n.toNat : Int) + 1) Tryz.underlying9 (by omega) (by omega) (by rw [hz]; omega)
 rw [this]
 have h := hex_slice ⟨n.toNat, hn⟩
 simp only at h
 rw [show ((n.toNat : Int)).toNat = n.toNat by omega, show ((n.toNat : Int) + 1).toNat = n.toNat + 1 by omega, h]
 simp
theorem hex_ext (n : UInt8) (hn : n.toNat < 16) (a b : Nat) (ha : a = n.toNat) (hb : b = n.toNat + 1) : (⟨#[48, 49, 50, 51, 52, 53, 54, 55, 56, 57, 97, 98, 99, 100, 101, 102]⟩ : ByteArray).extract a b = ⟨#[Lexy.hexd n]⟩ := by
 subst ha hb
 have h := hex_slice ⟨n.toNat, hn⟩
 simp only at h
 rw [h]
 simp
theorem and_low : ∀ c : UInt8, bits .and .u8 (c.toNat : Int) 15 = ((c % 16).toNat : Int) := Lexy.all_bytes (by decide +kernel)
theorem one_size (x : UInt8) : (⟨#[x]⟩ : ByteArray).size = 1 := rfl
theorem three_size (x : UInt8) : ((⟨#[92, 120]⟩ : ByteArray) ++ ⟨#[x]⟩).size = 3 := rfl
set_option maxRecDepth 100000 in
set_option maxHeartbeats 2000000 in
theorem quote_any (s : ByteArray) (w : World) (hm : s.size ≤ 1048576) :
  Calls Tryz.prog 104 #[.string s] w fun e w' => e = .returned (.string ⟨(Lexy.quote s.data.toList).toArray⟩) ∧ Below w.heap.size w w' := by
 obtain ⟨l, hl⟩ : ∃ l, s.data.toList = l := ⟨_, rfl⟩
 have hsz : l.length = s.size := by rw [← hl]; simp
 have HL := hid hl
 have HS := hid hsz
 rw [hl]
 clear hl hsz
 have HWB : Hid WB := hid wb
 have HWS : Hid WS := hid ws
 have HWS2 : Hid WS2 := hid ws2
 have HWS4 : Hid WS4 := hid ws4
 go_enter Tryz.func104, Tryz.ntmps104
 go_wp2_with fail
 refine (HWB.out w.heap.size w.heap.size [] 34 _ (Lib.fresh_isBuilder _ _ w) (by simp) (by simp)).mono ?_
 rintro e w1 ⟨rfl, hb1, hw1⟩
 have hw1' : Below w.heap.size w w1 := ((Below.refl _ w).alloc (Nat.le_refl _) _).trans hw1
 clear hw1
 go_wp2
 go_loopg [10] (s.size - 0) (fun g v wr => ∃ (k : Nat), k ≤ s.size ∧ g = s.size - k ∧ v = .int .i64 (k : Int) ∧ Lib.IsBuilder 53 5 w.heap.size w.heap.size (Lib.byteCells (34 :: (l.take k).flatMap Lexy.qb)) wr ∧ Below w.heap.size w wr)
 case atStart => exact ⟨0, by omega, rfl, rfl, hb1, hw1'⟩
 case round =>
  obtain ⟨k, hk, hg, rfl, hb, hw⟩ := hrel
  have HG := hid hg; clear hg
  have hq : Hid ((34 :: (l.take k).flatMap Lexy.qb).length ≤ 5000000) := by
   have := qb_flat (l.take k)
   have h2 : (l.take k).length ≤ k := by simp; omega
   refine hid ?_
   rw [List.length_cons]; omega
  have hz := hw.size
  by_cases hlt : k < s.size
  ·obtain ⟨c, hc⟩ : ∃ c, l[k]? = some c := ⟨_, List.getElem?_eq_getElem (by rw [HS.out]; exact hlt)⟩
   have hl1 : decide ((k : Int) < s.size) = true := by simp; omega
   have hi := fun w => run_at s c (k : Int) (by omega) (by rw [HL.out]; exact hc) w
   have HN := hid (flat_more l k c hc)
   clear hc
   by_cases h1 : (c == 34 || c == 92) = true
   ·have HB : Hid (Lexy.qb c = [92, c]) := hid (by unfold Lexy.qb; rw [if_pos h1])
    have hc2 : c = 34 ∨ c = 92 := by simpa using h1
    clear h1
    rcases hc2 with rfl | rfl
    ·go_wp2_with (refine wpList_of_row rfl 51 9 5 (.tmp 26) rfl Tryz.underlying51 Tryz.underlying5 Tryz.underlying9 ⟨wr.heap.size, 0, none⟩ 1 [34] rfl ?_ ?_)
     ·intro j hj; obtain rfl : j = 0 := (by simpa using hj); exact one_new _ _ _ _ rfl 0 _ rfl
     refine (HWS2.out w.heap.size w.heap.size _ 34 _ (isBuilder_alloc hb _) hq.out (by simp; omega)).mono ?_
     rintro e w2 ⟨he, hb2, hw2⟩
     first | (subst he) | (obtain ⟨v, rfl⟩ := he)
     go_wp2
     go_roundg (s.size - (k + 1))
     case measure => rw [HG.out]; omega
     case rel =>
      refine ⟨k + 1, by omega, rfl, by go_num, ?_, (hw.alloc hz _).trans hw2⟩
      rw [HN.out, HB.out]
      exact hb2
    ·go_wp2_with (refine wpList_of_row rfl 51 9 5 (.tmp 26) rfl Tryz.underlying51 Tryz.underlying5 Tryz.underlying9 ⟨wr.heap.size, 0, none⟩ 1 [92] rfl ?_ ?_)
     ·intro j hj; obtain rfl : j = 0 := (by simpa using hj); exact one_new _ _ _ _ rfl 0 _ rfl
     refine (HWS2.out w.heap.size w.heap.size _ 92 _ (isBuilder_alloc hb _) hq.out (by simp; omega)).mono ?_
     rintro e w2 ⟨he, hb2, hw2⟩
     first | (subst he) | (obtain ⟨v, rfl⟩ := he)
     go_wp2
     go_roundg (s.size - (k + 1))
     case measure => rw [HG.out]; omega
     case rel =>
      refine ⟨k + 1, by omega, rfl, by go_num, ?_, (hw.alloc hz _).trans hw2⟩
      rw [HN.out, HB.out]
      exact hb2
   ·have HB1 := h1
    have h34 : c ≠ 34 := by rintro rfl; simp at h1
    have h92 : c ≠ 92 := by rintro rfl; simp at h1
    have n34 : ((c.toNat : Int) == 34) = false := byte_ne (d := 34) h34
    have n92 : ((c.toNat : Int) == 92) = false := byte_ne (d := 92) h92
    clear h1 h34 h92
    by_cases h10 : c = 10
    ·subst h10
     have HB : Hid (Lexy.qb 10 = [92, 110]) := hid (by decide)
     clear HB1
     go_wp2_with fail
     refine (HWS.out w.heap.size w.heap.size _ [92, 110] _ hb hq.out (by decide) hz).mono ?_
     rintro e w2 ⟨he, hb2, hw2⟩
     first | (subst he) | (obtain ⟨v, rfl⟩ := he)
     go_wp2
     go_roundg (s.size - (k + 1))
     case measure => rw [HG.out]; omega
     case rel =>
      refine ⟨k + 1, by omega, rfl, by go_num, ?_, hw.trans hw2⟩
      rw [HN.out, HB.out]
      exact hb2
    ·have n10 : ((c.toNat : Int) == 10) = false := byte_ne (d := 10) h10
     by_cases h9 : c = 9
     ·subst h9
      have HB : Hid (Lexy.qb 9 = [92, 116]) := hid (by decide)
      clear HB1
      go_wp2_with fail
      refine (HWS.out w.heap.size w.heap.size _ [92, 116] _ hb hq.out (by decide) hz).mono ?_
      rintro e w2 ⟨he, hb2, hw2⟩
      first | (subst he) | (obtain ⟨v, rfl⟩ := he)
      go_wp2
      go_roundg (s.size - (k + 1))
      case measure => rw [HG.out]; omega
      case rel =>
       refine ⟨k + 1, by omega, rfl, by go_num, ?_, hw.trans hw2⟩
       rw [HN.out, HB.out]
       exact hb2
     ·have n9 : ((c.toNat : Int) == 9) = false := byte_ne (d := 9) h9
      have b10 : (c == 10) = false := by simpa using h10
      have b9 : (c == 9) = false := by simpa using h9
      clear h10 h9
      by_cases h32 : c.toNat < 32 ∨ 126 < c.toNat
      ·have HB : Hid (Lexy.qb c = [92, 120, Lexy.hexd (c / 16), Lexy.hexd (c % 16)]) := hid (by
        unfold Lexy.qb; rw [if_neg HB1, b10, b9, if_neg (by decide), if_neg (by decide), if_pos (by simpa using h32)])
       have hs1 := hex_run (c / 16) (by have := c.toNat_lt; simp; omega) ((c.toNat : Int) / 16) ((c.toNat : Int) / 16 + 1) (by simp) (by simp)
       have hs2 := hex_run (c % 16) (by simp; omega) ((c.toNat : Int) % 16) ((c.toNat : Int) % 16 + 1) (by simp) (by simp)
       have h256 := c.toNat_lt
       clear HB1 b10 b9
       rcases Nat.lt_or_ge c.toNat 32 with hlo | hhi
       ·have e32 : decide ((c.toNat : Int) < 32) = true := by simp; omega
        clear h32 hlo
        have x1 := hex_ext (c / 16) (by have := c.toNat_lt; simp; omega) ((c.toNat : Int) / 16).toNat ((c.toNat : Int) / 16 + 1).toNat (by simp; omega) (by simp; omega)
        obtain ⟨y1, hy1⟩ : ∃ y, Lexy.hexd (c / 16) = y := ⟨_, rfl⟩
        obtain ⟨m, hm2, hm16, hm0⟩ : ∃ m : Int, ((c % 16).toNat : Int) = m ∧ m < 16 ∧ 0 ≤ m := ⟨_, rfl, by simp; omega, by omega⟩
        have x2 := hex_ext (c % 16) (by simp; omega) m.toNat (m + 1).toNat (by omega) (by omega)
        obtain ⟨y2, hy2⟩ : ∃ y, Lexy.hexd (c % 16) = y := ⟨_, rfl⟩
        have a1 := and_low c
        rw [hm2] at a1
        rw [hy1, hy2] at HB
        rw [hy1] at x1
        rw [hy2] at x2
        have s1 := one_size y1
        have s2 := one_size y2
        have s3 := three_size y1
        have z1 : IntKind.u8.wrap ((c.toNat : Int) / 16 + 1) = (c.toNat : Int) / 16 + 1 := IntWalk.u8_in _ (by omega)
        have z2 : (c.toNat : Int) / 16 + 1 ≤ 16 := by omega
        have z3 : 0 ≤ (c.toNat : Int) / 16 := by omega
        have z4 : (c.toNat : Int) / 16 ≤ (c.toNat : Int) / 16 + 1 := by omega
        have t1 : IntKind.u8.wrap (m + 1) = m + 1 := IntWalk.u8_in _ (by omega)
        have t2 : m + 1 ≤ 16 := by omega
        have t4 : m ≤ m + 1 := by omega
        clear hs1 hs2 hy1 hy2 hm2 hm16 h256
        go_wp2
        go_still_tail 16, (by kernel_rfl)
        change wpList _ _ _ _ _ wr.drew
        go_wp2_with fail
        refine (HWS4.out w.heap.size w.heap.size _ y1 y2 wr.drew hb hq.out hz).mono ?_
        rintro e w2 ⟨⟨v, rfl⟩, hb2, hw2⟩
        go_wp2
        go_roundg (s.size - (k + 1))
        case measure => rw [HG.out]; omega
        case rel =>
         refine ⟨k + 1, by omega, rfl, by go_num, ?_, (below_drewN hw 1).trans hw2⟩
         rw [HN.out, HB.out]
         exact hb2
       ·have e32 : decide ((c.toNat : Int) < 32) = false := by simp; omega
        have e126 : decide ((126 : Int) < (c.toNat : Int)) = true := by simp; omega
        clear h32 hhi
        have x1 := hex_ext (c / 16) (by have := c.toNat_lt; simp; omega) ((c.toNat : Int) / 16).toNat ((c.toNat : Int) / 16 + 1).toNat (by simp; omega) (by simp; omega)
        obtain ⟨y1, hy1⟩ : ∃ y, Lexy.hexd (c / 16) = y := ⟨_, rfl⟩
        obtain ⟨m, hm2, hm16, hm0⟩ : ∃ m : Int, ((c % 16).toNat : Int) = m ∧ m < 16 ∧ 0 ≤ m := ⟨_, rfl, by simp; omega, by omega⟩
        have x2 := hex_ext (c % 16) (by simp; omega) m.toNat (m + 1).toNat (by omega) (by omega)
        obtain ⟨y2, hy2⟩ : ∃ y, Lexy.hexd (c % 16) = y := ⟨_, rfl⟩
        have a1 := and_low c
        rw [hm2] at a1
        rw [hy1, hy2] at HB
        rw [hy1] at x1
        rw [hy2] at x2
        have s1 := one_size y1
        have s2 := one_size y2
        have s3 := three_size y1
        have z1 : IntKind.u8.wrap ((c.toNat : Int) / 16 + 1) = (c.toNat : Int) / 16 + 1 := IntWalk.u8_in _ (by omega)
        have z2 : (c.toNat : Int) / 16 + 1 ≤ 16 := by omega
        have z3 : 0 ≤ (c.toNat : Int) / 16 := by omega
        have z4 : (c.toNat : Int) / 16 ≤ (c.toNat : Int) / 16 + 1 := by omega
        have t1 : IntKind.u8.wrap (m + 1) = m + 1 := IntWalk.u8_in _ (by omega)
        have t2 : m + 1 ≤ 16 := by omega
        have t4 : m ≤ m + 1 := by omega
        clear hs1 hs2 hy1 hy2 hm2 hm16 h256
        go_wp2
        go_still_tail 16, (by kernel_rfl)
        change wpList _ _ _ _ _ wr.drew
        go_wp2_with fail
        refine (HWS4.out w.heap.size w.heap.size _ y1 y2 wr.drew hb hq.out hz).mono ?_
        rintro e w2 ⟨⟨v, rfl⟩, hb2, hw2⟩
        go_wp2
        go_roundg (s.size - (k + 1))
        case measure => rw [HG.out]; omega
        case rel =>
         refine ⟨k + 1, by omega, rfl, by go_num, ?_, (below_drewN hw 1).trans hw2⟩
         rw [HN.out, HB.out]
         exact hb2
      ·have HB : Hid (Lexy.qb c = [c]) := hid (by
        unfold Lexy.qb; rw [if_neg HB1, b10, b9, if_neg (by decide), if_neg (by decide), if_neg (by simpa using h32)])
       have e32 : decide ((c.toNat : Int) < 32) = false := by simp; omega
       have e126 : decide ((126 : Int) < (c.toNat : Int)) = false := by simp; omega
       clear HB1 b10 b9 h32
       go_wp2_with fail
       refine (HWB.out w.heap.size w.heap.size _ c _ hb hq.out hz).mono ?_
       rintro e w2 ⟨he, hb2, hw2⟩
       first | (subst he) | (obtain ⟨v, rfl⟩ := he)
       go_wp2
       go_roundg (s.size - (k + 1))
       case measure => rw [HG.out]; omega
       case rel =>
        refine ⟨k + 1, by omega, rfl, by go_num, ?_, hw.trans hw2⟩
        rw [HN.out, HB.out]
        exact hb2
  ·have hl1 : decide ((k : Int) < s.size) = false := by simp; omega
   have HK : Hid (l.take k = l) := hid (List.take_of_length_le (by rw [HS.out]; omega))
   go_wp2_with fail
   refine (HWB.out _ _ _ 34 _ hb hq.out hz).mono ?_
   rintro e w2 ⟨rfl, hb2, hw2⟩
   go_wp2_with fail
   refine (Tryz.Builder_String_any _ _ _ _ hb2 (by have := hw2.size; omega)).mono ?_
   rintro e w3 ⟨rfl, hw3⟩
   go_wp2
   go_ret
   refine ⟨?_, (hw.trans hw2).trans hw3⟩
   rw [HK.out]
   rfl
end Go.Proofs.YtonjdlialejedaaGreatDoor.Jl
namespace Go.Proofs.YtonjdlialejedaaGreatDoor
open Go.Lib (hid)
open Go.RowKit
theorem below_grow (w : World) (k : Nat) (os : Array Obj) : Below w.heap.size w (Go.Sort.grow (w.drewN k) os) := (below_drewN (Below.refl _ w) k).trans ⟨rfl, rfl, rfl, by simp [Go.Sort.grow], fun i hi => by have : i < (w.drewN k).heap.size := hi; simp [Go.Sort.grow]; exact Array.getElem?_append_left hi⟩
theorem wr_fst5 (nu : Int) (t : List UInt8) (l : List Pars.Node) : Wri.wr (.mk 5 nu t l) .fst = t := rfl
theorem wr_fst2 (nu : Int) (t : List UInt8) (l : List Pars.Node) : Wri.wr (.mk 2 nu t l) .fst = Lexy.quote t := rfl
theorem wr_fst6 (nu : Int) (t : List UInt8) (l : List Pars.Node) : Wri.wr (.mk 6 nu t l) .fst = Wri.listed [91] [93] (l.map fun x => Wri.wr x (.at (-2))) := by
 show Wri.listed [91] [93] ((Wri.wrs l).map (· (.at (-2)))) = _
 rw [Wri.wrs_map, List.map_map]; rfl
theorem wr_fst7 (nu : Int) (t : List UInt8) (l : List Pars.Node) : Wri.wr (.mk 7 nu t l) .fst = Wri.listed [123] [125] (l.map fun x => Wri.wr x .pair) := by
 show Wri.listed [123] [125] ((Wri.wrs l).map (· .pair)) = _
 rw [Wri.wrs_map, List.map_map]; rfl
theorem rights_one (c : UInt8) (k : Int) (fn lp : Bool) : ∀ (l : List Pars.Node) (i : Nat), Wri.rights [c] k fn lp i l = true → ∀ x ∈ l, Wri.sort x c = true
 | [], _, _, x, hx => by cases hx
 | y :: l, i, h, x, hx => by
  rw [rights_cons [c] k fn lp i y l c (by simp)] at h
  simp only [Bool.and_eq_true] at h
  rcases List.mem_cons.1 hx with rfl | hx
  ·exact h.1
  ·exact rights_one c k fn lp l (i + 1) h.2.2 x hx
theorem pair_kid {nu : Int} {t : List UInt8} {l : List Pars.Node} (h : Ri (.mk 7 nu t l)) : ∀ x ∈ l, 0 < x.kids.length := by
 intro x hx
 obtain ⟨a, b, hr⟩ := (ri_parts h).2.2.2
 have hb : Wri.bare (Wri.form 7 nu l.length).1 = [112] := by simp [Wri.form, Wri.plain]; decide
 rw [hb] at hr
 have hs := rights_one 112 7 a b l 0 hr x hx
 have h8 : x.kind = 8 := by simpa [Wri.sort] using hs
 have hri := ri_kid h x hx
 cases x with
 | mk k8 n8 t8 l8 =>
  have := (ri_len hri).2.2.1 (.inr (.inr (.inl h8)))
  show 0 < l8.length
  omega
theorem kids_all {w W0 : World} {B : Nat} {l : List Pars.Node} {css : List (Array Value)} {A : Option Addr} (hk : NodesAt w (fun g => g < B) l css) (hrow : 0 < l.length → ∃ g o, A = some ⟨g, o, none⟩ ∧ g < B ∧ g < w.heap.size ∧ w.rangeAt g o (flatA css)) (hU : Below B w W0) :
  ∀ (j : Nat) (x : Pars.Node), l[j]? = some x → ∃ xc g o, A = some ⟨g, o, none⟩ ∧ g < B ∧ xc.size = 4 ∧ NodeAt W0 (fun g => g < B) x xc ∧ ∀ W, Below B W0 W → W.rangeAt g (o + j * 4) xc.toList := by
 intro j x hx
 obtain ⟨xc, g, o, h1, h2, h3, h4, h5⟩ := kid_at hk hrow hx
 exact ⟨xc, g, o, h1, h2, h3, h4.belowB hU, fun W hW => h5 W (hU.trans hW)⟩
set_option maxRecDepth 100000 in
set_option maxHeartbeats 4000000 in
theorem first_w {N : Nat} (IH : Wall N) (FN : ∀ {n : Pars.Node} {cs : Array Value} {w : World} {B wb : Nat} {l : List UInt8}, Wri.wg n ≤ N + 1 → Wri.wg n ≤ 1048576 → Ri n → n.kind = 9 → NodeAt w (fun g => g < B) n cs → Wt B wb l w → B ≤ w.heap.size → 7 ≤ B → EnvW w → l.length + (Wri.wr n .fn).length ≤ 70368744177664 → Calls Tryz.prog 33 #[.pointer (some ⟨wb, 0, none⟩), .agg cs] w (WOut B wb l (Wri.wr n .fn) w)) : ∀ {n : Pars.Node} {cs : Array Value} {w : World} {B wb : Nat} {l : List UInt8}, Wri.wg n ≤ N + 1 → Wri.wg n ≤ 1048576 → Ri n → NodeAt w (fun g => g < B) n cs → Wt B wb l w → B ≤ w.heap.size → 7 ≤ B → EnvW w → l.length + (Wri.wr n .fst).length ≤ 70368744177664 → Calls Tryz.prog 96 #[.pointer (some ⟨wb, 0, none⟩), .agg cs] w (WOut B wb l (Wri.wr n .fst) w) := by
 intro n cs w B wb l hN hM hR hn hW hBw h7 he hl
 obtain ⟨k, nu, t, kl⟩ := n
 have hn0 := hn
 unfold NodeAt at hn
 obtain ⟨A, cap, css, rfl, hc1, hc2, hrow, hk⟩ := hn
 have HROW := hid hrow
 have HK := hid hk
 have HN := hid hn0
 have HE := hid he
 have hwlt := hW.lt
 have hll := Wri.wgs_len kl
 clear hrow hk hn0 he
 have HXW : Hid (∀ x, x ∈ kl → Wri.wg x ≤ N ∧ Wri.wg x ≤ 1048576) := hid (fun x hxm => by have := Wri.wg_mem hxm; simp only [Wri.wg] at hN hM; exact ⟨by omega, by omega⟩)
 have hklm : kl.length ≤ 1048576 := by simp only [Wri.wg] at hM; omega
 by_cases y1 : k = 1
 ·subst y1
  have hl2 : l.length + (Lib.itoa nu).length ≤ 70368744177664 := hl
  clear hl
  have hl := hl2
  clear hl2
  have hnu : 0 ≤ nu ∧ nu ≤ 9007199254740992 := by have h := (ri_parts hR).2.1; unfold Wri.fields at h; simp at h; omega
  have HQA : Hid (∀ W, EnvW W → Calls Tryz.prog 103 #[.int .i64 nu] W fun e w' => e = .returned (.string (byt (Lib.itoa nu))) ∧ Below W.heap.size W w') := hid (fun W hE => (Tryz.strconv_Itoa nu (by omega) (by omega) W hE.pow).mono (by rintro e w' ⟨rfl, k, os, rfl⟩; exact ⟨rfl, below_grow W k os⟩))
  clear hnu
  go_enter Tryz.func96, Tryz.ntmps96
  go_upto_region 1 with fail
  refine gen_world (F := fun W => Box W w.heap.size 79 #[.pointer (some ⟨wb, 0, none⟩)] ∧ Box W (w.heap.size + 1) 24 (nc 1 nu t (.slice A kl.length cap)) ∧ Below w.heap.size w W) ⟨(Box.new w _ _).alloc _, by have := Box.new (w.alloc (.cells #[.pointer (some ⟨wb, 0, none⟩)] 79 (0, 0))) 24 (nc 1 nu t (.slice A kl.length cap)); simpa using this, (below1 w _).alloc (by simp) _⟩ ?_
  rintro W0 ⟨p0, b0, hU⟩
  have PX := hid p0
  have NB := hid b0
  have WT := hid (hW.below hU)
  have HU : Hid (Below B w W0) := hid (hU.mono hBw)
  have HS : Hid (Stays wb w W0) := hid (Stays.below hU)
  have hB0 : B ≤ W0.heap.size := Nat.le_trans hBw hU.size
  have HPB : Hid (w.heap.size ≠ wb) := hid (by omega)
  have HNENB : Hid (w.heap.size + 1 ≠ wb) := hid (by omega)
  clear p0 b0 hU
  have c0 := NB.out.cell 0
  simp [nc] at c0
  go_upto_region 3 with fail
  clear c0
  refine wp_region_held_drew (S := fun w' => Box w' w.heap.size 79 #[.pointer (some ⟨wb, 0, none⟩)] ∧ Box w' (w.heap.size + 1) 24 (nc 1 nu t (.slice A kl.length cap))) (by kernel_rfl) ⟨PX.out.drew, NB.out.drew⟩ (fun hHeld => ?_)
  obtain ⟨wd, hwd⟩ : ∃ wd, W0.drew = wd := ⟨_, rfl⟩
  have hdr : Below W0.heap.size W0 wd := hwd ▸ (Below.refl _ W0).drew
  (try rw [hwd] at hHeld)
  (try rw [hwd])
  clear hwd hHeld
  replace WT := hid (WT.out.below hdr)
  replace PX := bl PX hdr
  replace NB := bl NB hdr
  replace HU := hid (HU.out.trans (hdr.mono hB0))
  replace HS := hid (HS.out.trans (Stays.below hdr))
  replace hB0 := Nat.le_trans hB0 hdr.size
  clear hdr
  refine tH (i := 0) (v := .pointer (some ⟨wb, 0, none⟩)) rfl ?_ ⟨PX.out, NB.out⟩ ?_
  ·intro w hSw
   have cq := hSw.1.cell 0
   simp at cq
   go_simp
  (try simp only [Act.put, sq])
  refine tH (i := 1) (v := ?_) rfl ?_ ⟨PX.out, NB.out⟩ ?_
  rotate_left
  ·intro w hSw
   go_simp
   try (with_reducible rfl)
  (try simp only [Act.put, sq])
  refine tH (i := 2) (v := ?_) rfl ?_ ⟨PX.out, NB.out⟩ ?_
  rotate_left
  ·intro w hSw
   go_simp
   try (with_reducible rfl)
  (try simp only [Act.put, sq])
  refine tH (i := 3) (v := ?_) rfl ?_ ⟨PX.out, NB.out⟩ ?_
  rotate_left
  ·intro w hSw
   go_simp
   try (with_reducible rfl)
  (try simp only [Act.put, sq])
  refine tH (i := 4) (v := .int .i64 nu) rfl ?_ ⟨PX.out, NB.out⟩ ?_
  ·intro w hSw
   have cq := hSw.2.cell 1
   simp [nc] at cq
   go_simp
  (try simp only [Act.put, sq])
  refine rdH 5 rfl fun K hK => ?_
  go_simp
  refine (HQA.out _ (HE.out.below HU.out h7)).mono ?_
  rintro e w1 ⟨rfl, hq⟩
  replace WT := hid (WT.out.below hq)
  replace PX := bl PX hq
  replace NB := bl NB hq
  replace HU := hid (HU.out.trans (hq.mono hB0))
  replace HS := hid (HS.out.trans (Stays.below hq))
  replace hB0 := Nat.le_trans hB0 hq.size
  clear hq
  refine hK.out _ _ ⟨PX.out, NB.out⟩ (fun hHeld => ?_)
  clear hK hHeld K
  (try simp only [Act.put, sq])
  refine rdH 6 rfl fun K hK => ?_
  go_simp
  refine (wstr B wb l (Lib.itoa nu) _ WT.out (by (try simp only [ln] at hl); (try simp only [ln]); omega) hB0).mono ?_
  rintro e w2 ⟨⟨v, rfl⟩, hw, hb, hs⟩
  replace PX := st hs PX HPB
  replace NB := st hs NB HNENB
  refine hK.out _ _ ⟨PX.out, NB.out⟩ (fun hHeld => ?_)
  clear hK hHeld K
  (try simp only [Act.put, sq])
  refine wpAnyH_done (by kernel_rfl) ?_ _
  go_wp2
  go_end0
  exact ⟨rfl, hw, HU.out.trans hb, HS.out.trans hs⟩
 by_cases y2 : k = 2
 ·subst y2
  rw [wr_fst2] at hl
  have hts : (byt t).size ≤ 1048576 := by rw [byt_size]; simp only [Wri.wg] at hM; omega
  have HQA := hid (fun W => Jl.quote_any (byt t) W hts)
  have HQE : Hid ((⟨(Lexy.quote (byt t).data.toList).toArray⟩ : ByteArray) = byt (Lexy.quote t)) := hid (by simp [byt])
  go_enter Tryz.func96, Tryz.ntmps96
  go_upto_region 1 with fail
  refine gen_world (F := fun W => Box W w.heap.size 79 #[.pointer (some ⟨wb, 0, none⟩)] ∧ Box W (w.heap.size + 1) 24 (nc 2 nu t (.slice A kl.length cap)) ∧ Below w.heap.size w W) ⟨(Box.new w _ _).alloc _, by have := Box.new (w.alloc (.cells #[.pointer (some ⟨wb, 0, none⟩)] 79 (0, 0))) 24 (nc 2 nu t (.slice A kl.length cap)); simpa using this, (below1 w _).alloc (by simp) _⟩ ?_
  rintro W0 ⟨p0, b0, hU⟩
  have PX := hid p0
  have NB := hid b0
  have WT := hid (hW.below hU)
  have HU : Hid (Below B w W0) := hid (hU.mono hBw)
  have HS : Hid (Stays wb w W0) := hid (Stays.below hU)
  have hB0 : B ≤ W0.heap.size := Nat.le_trans hBw hU.size
  have HPB : Hid (w.heap.size ≠ wb) := hid (by omega)
  have HNENB : Hid (w.heap.size + 1 ≠ wb) := hid (by omega)
  clear p0 b0 hU
  have c0 := NB.out.cell 0
  simp [nc] at c0
  go_upto_region 5 with fail
  clear c0
  refine wp_region_held_drew (S := fun w' => Box w' w.heap.size 79 #[.pointer (some ⟨wb, 0, none⟩)] ∧ Box w' (w.heap.size + 1) 24 (nc 2 nu t (.slice A kl.length cap))) (by kernel_rfl) ⟨PX.out.drew, NB.out.drew⟩ (fun hHeld => ?_)
  obtain ⟨wd, hwd⟩ : ∃ wd, W0.drew = wd := ⟨_, rfl⟩
  have hdr : Below W0.heap.size W0 wd := hwd ▸ (Below.refl _ W0).drew
  (try rw [hwd] at hHeld)
  (try rw [hwd])
  clear hwd hHeld
  replace WT := hid (WT.out.below hdr)
  replace PX := bl PX hdr
  replace NB := bl NB hdr
  replace HU := hid (HU.out.trans (hdr.mono hB0))
  replace HS := hid (HS.out.trans (Stays.below hdr))
  replace hB0 := Nat.le_trans hB0 hdr.size
  clear hdr
  refine tH (i := 0) (v := .pointer (some ⟨wb, 0, none⟩)) rfl ?_ ⟨PX.out, NB.out⟩ ?_
  ·intro w hSw
   have cq := hSw.1.cell 0
   simp at cq
   go_simp
  (try simp only [Act.put, sq])
  refine tH (i := 1) (v := ?_) rfl ?_ ⟨PX.out, NB.out⟩ ?_
  rotate_left
  ·intro w hSw
   go_simp
   try (with_reducible rfl)
  (try simp only [Act.put, sq])
  refine tH (i := 2) (v := ?_) rfl ?_ ⟨PX.out, NB.out⟩ ?_
  rotate_left
  ·intro w hSw
   go_simp
   try (with_reducible rfl)
  (try simp only [Act.put, sq])
  refine tH (i := 3) (v := ?_) rfl ?_ ⟨PX.out, NB.out⟩ ?_
  rotate_left
  ·intro w hSw
   go_simp
   try (with_reducible rfl)
  (try simp only [Act.put, sq])
  refine tH (i := 4) (v := .string (byt t)) rfl ?_ ⟨PX.out, NB.out⟩ ?_
  ·intro w hSw
   have cq := hSw.2.cell 2
   simp [nc] at cq
   go_simp
  (try simp only [Act.put, sq])
  refine rdH 5 rfl fun K hK => ?_
  go_simp
  refine (HQA.out _).mono ?_
  rintro e w1 ⟨rfl, hq⟩
  rw [HQE.out]
  replace WT := hid (WT.out.below hq)
  replace PX := bl PX hq
  replace NB := bl NB hq
  replace HU := hid (HU.out.trans (hq.mono hB0))
  replace HS := hid (HS.out.trans (Stays.below hq))
  replace hB0 := Nat.le_trans hB0 hq.size
  clear hq
  refine hK.out _ _ ⟨PX.out, NB.out⟩ (fun hHeld => ?_)
  clear hK hHeld K
  (try simp only [Act.put, sq])
  refine rdH 6 rfl fun K hK => ?_
  go_simp
  refine (wstr B wb l (Lexy.quote t) _ WT.out (by (try simp only [ln] at hl); (try simp only [ln]); omega) hB0).mono ?_
  rintro e w2 ⟨⟨v, rfl⟩, hw, hb, hs⟩
  replace PX := st hs PX HPB
  replace NB := st hs NB HNENB
  refine hK.out _ _ ⟨PX.out, NB.out⟩ (fun hHeld => ?_)
  clear hK hHeld K
  (try simp only [Act.put, sq])
  refine wpAnyH_done (by kernel_rfl) ?_ _
  go_wp2
  go_end0
  exact ⟨rfl, hw, HU.out.trans hb, HS.out.trans hs⟩
 by_cases y3 : k = 3
 ·subst y3
  have hnu : nu = 0 ∨ nu = 1 := by have h := (ri_parts hR).2.1; unfold Wri.fields at h; simp at h; omega
  rcases hnu with hnu | hnu
  ·subst hnu
   have hix : ∀ W : World, (Instr.index 140 (Value.agg #[Value.string ⟨#[102, 97, 108, 115, 101]⟩, Value.string ⟨#[116, 114, 117, 101]⟩]) (.int .i64 0)).run Tryz.prog W = .ok (Value.string ⟨#[102, 97, 108, 115, 101]⟩) W := fun W => rfl
   have hl2 : l.length + (Pars.wFalse : List UInt8).length ≤ 70368744177664 := hl
   clear hl
   have hl := hl2
   clear hl2
   go_enter Tryz.func96, Tryz.ntmps96
   go_upto_region 1 with fail
   refine gen_world (F := fun W => Box W w.heap.size 79 #[.pointer (some ⟨wb, 0, none⟩)] ∧ Box W (w.heap.size + 1) 24 (nc 3 0 t (.slice A kl.length cap)) ∧ Below w.heap.size w W) ⟨(Box.new w _ _).alloc _, by have := Box.new (w.alloc (.cells #[.pointer (some ⟨wb, 0, none⟩)] 79 (0, 0))) 24 (nc 3 0 t (.slice A kl.length cap)); simpa using this, (below1 w _).alloc (by simp) _⟩ ?_
   rintro W0 ⟨p0, b0, hU⟩
   have PX := hid p0
   have NB := hid b0
   have WT := hid (hW.below hU)
   have HU : Hid (Below B w W0) := hid (hU.mono hBw)
   have HS : Hid (Stays wb w W0) := hid (Stays.below hU)
   have hB0 : B ≤ W0.heap.size := Nat.le_trans hBw hU.size
   have HPB : Hid (w.heap.size ≠ wb) := hid (by omega)
   have HNENB : Hid (w.heap.size + 1 ≠ wb) := hid (by omega)
   clear p0 b0 hU
   have c0 := NB.out.cell 0
   simp [nc] at c0
   have cp := PX.out.cell 0
   simp at cp
   have c1 := NB.out.cell 1
   simp [nc] at c1
   go_upto_region 7 with fail
   go_wp2
   go_still_tail 7, (by kernel_rfl)
   change wpList _ _ _ _ _ W0.drew
   have hdr : Below W0.heap.size W0 W0.drew := Below.drew (Below.refl _ _)
   have hdz : W0.drew.heap.size = W0.heap.size := rfl
   obtain ⟨wd, hwd⟩ : ∃ wd, W0.drew = wd := ⟨_, rfl⟩
   rw [hwd] at hdr hdz ⊢
   replace WT := hid (WT.out.below hdr)
   replace NB := bl NB hdr
   replace PX := bl PX hdr
   replace HU := hid (HU.out.trans (hdr.mono hB0))
   replace HS := hid (HS.out.trans (Stays.below hdr))
   have hB1 : B ≤ wd.heap.size := by omega
   clear hB0
   have hB0 := hB1
   clear hdr hdz hwd
   clear c0 cp c1
   go_wp2_with fail
   refine (wstr B wb l Pars.wFalse _ WT.out (by (try simp only [ln] at hl); (try simp only [ln]); omega) hB0).mono ?_
   rintro e w2 ⟨⟨v, rfl⟩, hw, hb, hs⟩
   go_wp2
   go_end0
   exact ⟨rfl, hw, HU.out.trans hb, HS.out.trans hs⟩
  ·subst hnu
   have hix : ∀ W : World, (Instr.index 140 (Value.agg #[Value.string ⟨#[102, 97, 108, 115, 101]⟩, Value.string ⟨#[116, 114, 117, 101]⟩]) (.int .i64 1)).run Tryz.prog W = .ok (Value.string ⟨#[116, 114, 117, 101]⟩) W := fun W => rfl
   have hl2 : l.length + (Pars.wTrue : List UInt8).length ≤ 70368744177664 := hl
   clear hl
   have hl := hl2
   clear hl2
   go_enter Tryz.func96, Tryz.ntmps96
   go_upto_region 1 with fail
   refine gen_world (F := fun W => Box W w.heap.size 79 #[.pointer (some ⟨wb, 0, none⟩)] ∧ Box W (w.heap.size + 1) 24 (nc 3 1 t (.slice A kl.length cap)) ∧ Below w.heap.size w W) ⟨(Box.new w _ _).alloc _, by have := Box.new (w.alloc (.cells #[.pointer (some ⟨wb, 0, none⟩)] 79 (0, 0))) 24 (nc 3 1 t (.slice A kl.length cap)); simpa using this, (below1 w _).alloc (by simp) _⟩ ?_
   rintro W0 ⟨p0, b0, hU⟩
   have PX := hid p0
   have NB := hid b0
   have WT := hid (hW.below hU)
   have HU : Hid (Below B w W0) := hid (hU.mono hBw)
   have HS : Hid (Stays wb w W0) := hid (Stays.below hU)
   have hB0 : B ≤ W0.heap.size := Nat.le_trans hBw hU.size
   have HPB : Hid (w.heap.size ≠ wb) := hid (by omega)
   have HNENB : Hid (w.heap.size + 1 ≠ wb) := hid (by omega)
   clear p0 b0 hU
   have c0 := NB.out.cell 0
   simp [nc] at c0
   have cp := PX.out.cell 0
   simp at cp
   have c1 := NB.out.cell 1
   simp [nc] at c1
   go_upto_region 7 with fail
   go_wp2
   go_still_tail 7, (by kernel_rfl)
   change wpList _ _ _ _ _ W0.drew
   have hdr : Below W0.heap.size W0 W0.drew := Below.drew (Below.refl _ _)
   have hdz : W0.drew.heap.size = W0.heap.size := rfl
   obtain ⟨wd, hwd⟩ : ∃ wd, W0.drew = wd := ⟨_, rfl⟩
   rw [hwd] at hdr hdz ⊢
   replace WT := hid (WT.out.below hdr)
   replace NB := bl NB hdr
   replace PX := bl PX hdr
   replace HU := hid (HU.out.trans (hdr.mono hB0))
   replace HS := hid (HS.out.trans (Stays.below hdr))
   have hB1 : B ≤ wd.heap.size := by omega
   clear hB0
   have hB0 := hB1
   clear hdr hdz hwd
   clear c0 cp c1
   go_wp2_with fail
   refine (wstr B wb l Pars.wTrue _ WT.out (by (try simp only [ln] at hl); (try simp only [ln]); omega) hB0).mono ?_
   rintro e w2 ⟨⟨v, rfl⟩, hw, hb, hs⟩
   go_wp2
   go_end0
   exact ⟨rfl, hw, HU.out.trans hb, HS.out.trans hs⟩
 by_cases y4 : k = 4
 ·subst y4
  go_enter Tryz.func96, Tryz.ntmps96
  go_upto_region 1 with fail
  refine gen_world (F := fun W => Box W w.heap.size 79 #[.pointer (some ⟨wb, 0, none⟩)] ∧ Box W (w.heap.size + 1) 24 (nc 4 nu t (.slice A kl.length cap)) ∧ Below w.heap.size w W) ⟨(Box.new w _ _).alloc _, by have := Box.new (w.alloc (.cells #[.pointer (some ⟨wb, 0, none⟩)] 79 (0, 0))) 24 (nc 4 nu t (.slice A kl.length cap)); simpa using this, (below1 w _).alloc (by simp) _⟩ ?_
  rintro W0 ⟨p0, b0, hU⟩
  have PX := hid p0
  have NB := hid b0
  have WT := hid (hW.below hU)
  have HU : Hid (Below B w W0) := hid (hU.mono hBw)
  have HS : Hid (Stays wb w W0) := hid (Stays.below hU)
  have hB0 : B ≤ W0.heap.size := Nat.le_trans hBw hU.size
  have HPB : Hid (w.heap.size ≠ wb) := hid (by omega)
  have HNENB : Hid (w.heap.size + 1 ≠ wb) := hid (by omega)
  clear p0 b0 hU
  have c0 := NB.out.cell 0
  simp [nc] at c0
  have cp := PX.out.cell 0
  simp at cp
  go_wp2_with fail
  refine (wstr B wb l Pars.wNull _ WT.out (by (try simp only [ln] at hl); (try simp only [ln]); omega) hB0).mono ?_
  rintro e w2 ⟨⟨v, rfl⟩, hw, hb, hs⟩
  go_wp2
  go_end0
  exact ⟨rfl, hw, HU.out.trans hb, HS.out.trans hs⟩
 by_cases y5 : k = 5
 ·subst y5
  rw [wr_fst5] at hl
  go_enter Tryz.func96, Tryz.ntmps96
  go_upto_region 1 with fail
  refine gen_world (F := fun W => Box W w.heap.size 79 #[.pointer (some ⟨wb, 0, none⟩)] ∧ Box W (w.heap.size + 1) 24 (nc 5 nu t (.slice A kl.length cap)) ∧ Below w.heap.size w W) ⟨(Box.new w _ _).alloc _, by have := Box.new (w.alloc (.cells #[.pointer (some ⟨wb, 0, none⟩)] 79 (0, 0))) 24 (nc 5 nu t (.slice A kl.length cap)); simpa using this, (below1 w _).alloc (by simp) _⟩ ?_
  rintro W0 ⟨p0, b0, hU⟩
  have PX := hid p0
  have NB := hid b0
  have WT := hid (hW.below hU)
  have HU : Hid (Below B w W0) := hid (hU.mono hBw)
  have HS : Hid (Stays wb w W0) := hid (Stays.below hU)
  have hB0 : B ≤ W0.heap.size := Nat.le_trans hBw hU.size
  have HPB : Hid (w.heap.size ≠ wb) := hid (by omega)
  have HNENB : Hid (w.heap.size + 1 ≠ wb) := hid (by omega)
  clear p0 b0 hU
  have c0 := NB.out.cell 0
  simp [nc] at c0
  have cp := PX.out.cell 0
  simp at cp
  have c2 := NB.out.cell 2
  simp [nc] at c2
  go_upto_region 11 with fail
  go_wp2
  go_still_tail 5, (by kernel_rfl)
  change wpList _ _ _ _ _ W0.drew
  have hdr : Below W0.heap.size W0 W0.drew := Below.drew (Below.refl _ _)
  have hdz : W0.drew.heap.size = W0.heap.size := rfl
  obtain ⟨wd, hwd⟩ : ∃ wd, W0.drew = wd := ⟨_, rfl⟩
  rw [hwd] at hdr hdz ⊢
  replace WT := hid (WT.out.below hdr)
  replace NB := bl NB hdr
  replace PX := bl PX hdr
  replace HU := hid (HU.out.trans (hdr.mono hB0))
  replace HS := hid (HS.out.trans (Stays.below hdr))
  have hB1 : B ≤ wd.heap.size := by omega
  clear hB0
  have hB0 := hB1
  clear hdr hdz hwd
  clear c0 cp c2
  go_wp2_with fail
  refine (wstr B wb l t _ WT.out (by (try simp only [ln] at hl); (try simp only [ln]); omega) hB0).mono ?_
  rintro e w2 ⟨⟨v, rfl⟩, hw, hb, hs⟩
  go_wp2
  go_end0
  exact ⟨rfl, hw, HU.out.trans hb, HS.out.trans hs⟩
 by_cases y6 : k = 6
 ·subst y6
  rw [wr_fst6] at hl
  go_enter Tryz.func96, Tryz.ntmps96
  go_upto_region 1 with fail
  refine gen_world (F := fun W => Box W w.heap.size 79 #[.pointer (some ⟨wb, 0, none⟩)] ∧ Box W (w.heap.size + 1) 24 (nc 6 nu t (.slice A kl.length cap)) ∧ Below w.heap.size w W) ⟨(Box.new w _ _).alloc _, by have := Box.new (w.alloc (.cells #[.pointer (some ⟨wb, 0, none⟩)] 79 (0, 0))) 24 (nc 6 nu t (.slice A kl.length cap)); simpa using this, (below1 w _).alloc (by simp) _⟩ ?_
  rintro W0 ⟨p0, b0, hU⟩
  have PX := hid p0
  have NB := hid b0
  have WT := hid (hW.below hU)
  have HU : Hid (Below B w W0) := hid (hU.mono hBw)
  have HS : Hid (Stays wb w W0) := hid (Stays.below hU)
  have hB0 : B ≤ W0.heap.size := Nat.le_trans hBw hU.size
  have HPB : Hid (w.heap.size ≠ wb) := hid (by omega)
  have HNENB : Hid (w.heap.size + 1 ≠ wb) := hid (by omega)
  clear p0 b0 hU
  have c0 := NB.out.cell 0
  simp [nc] at c0
  have cp := PX.out.cell 0
  simp at cp
  have c3 := NB.out.cell 3
  simp [nc] at c3
  go_wp2_with fail
  refine (list_b (fun x => Wri.wr x (.at (-2))) 32 (fun _ _ => rfl) (B := B) (wb := wb) (pb := 0) (xs := kl) (A := A) (cap := cap) (o := [91]) (c := [93]) (l := l) (fun x hxm xc W l' hnx hWx hBx heX hlx => IH.any (HXW.out x hxm).1 (HXW.out x hxm).2 (ri_kid hR x hxm) hnx hWx hBx h7 heX hlx) (kids_all HK.out HROW.out HU.out) (by omega) WT.out hB0 h7 (HE.out.below HU.out h7) hl).mono ?_
  rintro e w2 ⟨rfl, hw, hb, hs⟩
  go_wp2
  go_end0
  exact ⟨rfl, by rw [wr_fst6]; exact hw, HU.out.trans hb, HS.out.trans hs⟩
 by_cases y7 : k = 7
 ·subst y7
  rw [wr_fst7] at hl
  go_enter Tryz.func96, Tryz.ntmps96
  go_upto_region 1 with fail
  refine gen_world (F := fun W => Box W w.heap.size 79 #[.pointer (some ⟨wb, 0, none⟩)] ∧ Box W (w.heap.size + 1) 24 (nc 7 nu t (.slice A kl.length cap)) ∧ Below w.heap.size w W) ⟨(Box.new w _ _).alloc _, by have := Box.new (w.alloc (.cells #[.pointer (some ⟨wb, 0, none⟩)] 79 (0, 0))) 24 (nc 7 nu t (.slice A kl.length cap)); simpa using this, (below1 w _).alloc (by simp) _⟩ ?_
  rintro W0 ⟨p0, b0, hU⟩
  have PX := hid p0
  have NB := hid b0
  have WT := hid (hW.below hU)
  have HU : Hid (Below B w W0) := hid (hU.mono hBw)
  have HS : Hid (Stays wb w W0) := hid (Stays.below hU)
  have hB0 : B ≤ W0.heap.size := Nat.le_trans hBw hU.size
  have HPB : Hid (w.heap.size ≠ wb) := hid (by omega)
  have HNENB : Hid (w.heap.size + 1 ≠ wb) := hid (by omega)
  clear p0 b0 hU
  have c0 := NB.out.cell 0
  simp [nc] at c0
  have cp := PX.out.cell 0
  simp at cp
  have c3 := NB.out.cell 3
  simp [nc] at c3
  go_wp2_with fail
  refine (list_c (fun x => Wri.wr x .pair) 105 (fun _ _ => rfl) (B := B) (wb := wb) (pb := w.heap.size) (xs := kl) (A := A) (cap := cap) (o := [123]) (c := [125]) (l := l) (fun x hxm xc W l' hnx hWx hBx heX hpx hlx => pair_w IH (Nat.le_succ_of_le (HXW.out x hxm).1) (HXW.out x hxm).2 (ri_kid hR x hxm) (pair_kid hR x hxm) hnx hWx hBx h7 heX hpx HPB.out hlx) (kids_all HK.out HROW.out HU.out) (by omega) WT.out hB0 h7 (HE.out.below HU.out h7) PX.out HPB.out hl).mono ?_
  rintro e w2 ⟨rfl, hw, hb, hs⟩
  go_wp2
  go_end0
  exact ⟨rfl, by rw [wr_fst7]; exact hw, HU.out.trans hb, HS.out.trans hs⟩
 by_cases y9 : k = 9
 ·subst y9
  go_enter Tryz.func96, Tryz.ntmps96
  go_upto_region 1 with fail
  refine gen_world (F := fun W => Box W w.heap.size 79 #[.pointer (some ⟨wb, 0, none⟩)] ∧ Box W (w.heap.size + 1) 24 (nc 9 nu t (.slice A kl.length cap)) ∧ Below w.heap.size w W) ⟨(Box.new w _ _).alloc _, by have := Box.new (w.alloc (.cells #[.pointer (some ⟨wb, 0, none⟩)] 79 (0, 0))) 24 (nc 9 nu t (.slice A kl.length cap)); simpa using this, (below1 w _).alloc (by simp) _⟩ ?_
  rintro W0 ⟨p0, b0, hU⟩
  have PX := hid p0
  have NB := hid b0
  have WT := hid (hW.below hU)
  have HU : Hid (Below B w W0) := hid (hU.mono hBw)
  have HS : Hid (Stays wb w W0) := hid (Stays.below hU)
  have hB0 : B ≤ W0.heap.size := Nat.le_trans hBw hU.size
  have HPB : Hid (w.heap.size ≠ wb) := hid (by omega)
  have HNENB : Hid (w.heap.size + 1 ≠ wb) := hid (by omega)
  clear p0 b0 hU
  have c0 := NB.out.cell 0
  simp [nc] at c0
  have cp := PX.out.cell 0
  simp at cp
  have c1 := NB.out.cell 1
  have c2 := NB.out.cell 2
  have c3 := NB.out.cell 3
  simp [nc] at c1 c2 c3
  go_wp2_with fail
  refine (FN hN hM hR rfl (HN.out.belowB HU.out) WT.out hB0 h7 (HE.out.below HU.out h7) hl).mono ?_
  rintro e w2 ⟨rfl, hw, hb, hs⟩
  go_wp2
  go_end0
  exact ⟨rfl, hw, HU.out.trans hb, HS.out.trans hs⟩
 have n1 : (k == 1) = false := bn y1
 have n2 : (k == 2) = false := bn y2
 have n3 : (k == 3) = false := bn y3
 have n4 : (k == 4) = false := bn y4
 have n5 : (k == 5) = false := bn y5
 have n6 : (k == 6) = false := bn y6
 have n7 : (k == 7) = false := bn y7
 have n9 : (k == 9) = false := bn y9
 have hl0 : Wri.wr (.mk k nu t kl) .fst = [] := by show Wri.wFst k nu t (Wri.wrs kl) = []; unfold Wri.wFst; rw [if_neg y1, if_neg y2, if_neg y3, if_neg y4, if_neg y5, if_neg y6, if_neg y7, if_neg y9]
 go_enter Tryz.func96, Tryz.ntmps96
 go_upto_region 1 with fail
 refine gen_world (F := fun W => Box W w.heap.size 79 #[.pointer (some ⟨wb, 0, none⟩)] ∧ Box W (w.heap.size + 1) 24 (nc k nu t (.slice A kl.length cap)) ∧ Below w.heap.size w W) ⟨(Box.new w _ _).alloc _, by have := Box.new (w.alloc (.cells #[.pointer (some ⟨wb, 0, none⟩)] 79 (0, 0))) 24 (nc k nu t (.slice A kl.length cap)); simpa using this, (below1 w _).alloc (by simp) _⟩ ?_
 rintro W0 ⟨p0, b0, hU⟩
 have PX := hid p0
 have NB := hid b0
 have WT := hid (hW.below hU)
 have HU : Hid (Below B w W0) := hid (hU.mono hBw)
 have HS : Hid (Stays wb w W0) := hid (Stays.below hU)
 have hB0 : B ≤ W0.heap.size := Nat.le_trans hBw hU.size
 have HPB : Hid (w.heap.size ≠ wb) := hid (by omega)
 have HNENB : Hid (w.heap.size + 1 ≠ wb) := hid (by omega)
 clear p0 b0 hU
 have c0 := NB.out.cell 0
 simp [nc] at c0
 go_wp2
 go_end0
 exact ⟨rfl, by rw [hl0]; simpa using WT.out, HU.out, HS.out⟩
end Go.Proofs.YtonjdlialejedaaGreatDoor
