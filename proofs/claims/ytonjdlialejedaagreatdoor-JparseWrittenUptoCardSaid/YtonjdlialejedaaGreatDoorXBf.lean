/-
  Texts that the law leans on: PwT, PwU. Conditions: as each says.
-/
import Derived.Test.YtonjdlialejedaaGreatDoorXBe
import Derived.Test.YtonjdlialejedaaGreatDoorXAa
set_option linter.unusedSimpArgs false
set_option linter.unusedVariables false
namespace Go.Proofs.YtonjdlialejedaaGreatDoor
open Go.Lib (hid)
open Go.RowKit
theorem wr_fn (k nu : Int) (t : List UInt8) (l : List Pars.Node) (q : Nat) (x : Pars.Node) (hq : l.length = q + 1) (h : l[q]? = some x) : Wri.wr (.mk k nu t l) .fn = [102, 110] ++ (if t = [] then [] else 32 :: t) ++ Wri.listed [40] [41] ((l.take q).map fun x => Wri.wr x .param) ++ [32] ++ Wri.wr x .block := by
 show Wri.wFn t (Wri.wrs l) = _
 unfold Wri.wFn
 have e : (Wri.wrs l).length = q + 1 := by rw [Wri.wrs_map, List.length_map]; exact hq
 rw [e, show q + 1 - 1 = q from rfl, wrs_kid h, Wri.wrs_map, ← List.map_take, List.map_map]
 rfl
theorem kids_take {w W0 : World} {B : Nat} {l : List Pars.Node} {css : List (Array Value)} {A : Option Addr} (hk : NodesAt w (fun g => g < B) l css) (hrow : 0 < l.length → ∃ g o, A = some ⟨g, o, none⟩ ∧ g < B ∧ g < w.heap.size ∧ w.rangeAt g o (flatA css)) (hU : Below B w W0) (q : Nat) :
  ∀ (j : Nat) (x : Pars.Node), (l.take q)[j]? = some x → ∃ xc g o, A = some ⟨g, o, none⟩ ∧ g < B ∧ xc.size = 4 ∧ NodeAt W0 (fun g => g < B) x xc ∧ ∀ W, Below B W0 W → W.rangeAt g (o + j * 4) xc.toList := by
 intro j x hx
 have hx' : l[j]? = some x := by
  rw [List.getElem?_take] at hx
  split at hx
  ·exact hx
  ·cases hx
 obtain ⟨xc, g, o, h1, h2, h3, h4, h5⟩ := kid_at hk hrow hx'
 exact ⟨xc, g, o, h1, h2, h3, h4.belowB hU, fun W hW => h5 W (hU.trans hW)⟩
set_option maxRecDepth 100000 in
set_option maxHeartbeats 4000000 in
theorem function_w {N : Nat} (IH : Wall N) : ∀ {n : Pars.Node} {cs : Array Value} {w : World} {B wb : Nat} {l : List UInt8}, Wri.wg n ≤ N + 1 → Wri.wg n ≤ 1048576 → Ri n → n.kind = 9 → NodeAt w (fun g => g < B) n cs → Wt B wb l w → B ≤ w.heap.size → 7 ≤ B → EnvW w → l.length + (Wri.wr n .fn).length ≤ 70368744177664 → Calls Tryz.prog 33 #[.pointer (some ⟨wb, 0, none⟩), .agg cs] w (WOut B wb l (Wri.wr n .fn) w) := by
 intro n cs w B wb l hN hM hR hk9 hn hW hBw h7 he hl
 obtain ⟨k, nu, t, kl⟩ := n
 have hn0 := hn
 unfold NodeAt at hn
 obtain ⟨A, cap, css, rfl, hc1, hc2, hrow, hk⟩ := hn
 have HROW := hid hrow
 have HK := hid hk
 have HN := hid hn0
 have HE := hid he
 have hwlt := hW.lt
 have hll := Wri.wgs_len kl
 clear hrow hk hn0 he
 obtain ⟨q, hq⟩ : ∃ q, kl.length = q + 1 := ⟨kl.length - 1, by have := (ri_len hR).2.2.2.2.1 hk9; omega⟩
 obtain ⟨x, hx⟩ : ∃ x, kl[q]? = some x := ⟨_, List.getElem?_eq_getElem (by omega)⟩
 have hl2 : l.length + ([102, 110] ++ (if t = [] then [] else 32 :: t) ++ Wri.listed [40] [41] ((kl.take q).map fun x => Wri.wr x .param) ++ [32] ++ Wri.wr x .block).length ≤ 70368744177664 := by have e := wr_fn k nu t kl q x hq hx; simp only [List.append_assoc] at e hl ⊢; rw [← e]; exact hl
 clear hl
 have hl := hl2
 clear hl2
 have hxw := Wri.wg_mem (List.mem_of_getElem? hx)
 obtain ⟨xc, g0, o0, rfl, hg0, hx4, hnx, hrx⟩ := kid_at HK.out HROW.out hx
 have HR0 := hid hrx
 have HXN := hid hnx
 have HXR := hid (ri_kid hR x (List.mem_of_getElem? hx))
 have HXW : Hid (Wri.wg x ≤ N ∧ Wri.wg x ≤ 1048576) := hid (by simp only [Wri.wg] at hN hM; exact ⟨by omega, by omega⟩)
 have hinf : (Tryz.prog.info? 24).map (·.size) = some xc.toList.length := by rw [Array.length_toList, hx4]; exact info_nod
 have HXI := hid hinf
 have hinf2 : (Tryz.prog.info? 24).map (·.size) = some xc.size := by rw [hx4]; exact info_nod
 have HXI2 := hid hinf2
 have H4 : Hid ((4 : Nat) = xc.size) := hid hx4.symm
 have HONE := hid (NodeAt.one hnx)
 clear hxw hnx hrx hinf hinf2 hx4
 have HX := hid hx
 have HQ := hid hq
 obtain ⟨LS, hLS⟩ : ∃ s, Wri.listed [40] [41] ((kl.take q).map fun x => Wri.wr x .param) = s := ⟨_, rfl⟩
 rw [hLS] at hl
 have HLS := hid hLS
 clear hLS hx
 have hqm : q < 1048576 := by simp only [Wri.wg] at hM; omega
 have hck : q + 1 ≤ cap := by omega
 have hz : IntKind.i64.wrap ((kl.length : Int) - 1) = (q : Int) := by rw [IntKind.wrap_i64]; omega
 have hq1 : (q : Int) ≤ (cap : Int) := by omega
 have hq2 : (q : Int) < (kl.length : Int) := by omega
 have hq3 : q < kl.length := by omega
 have hq4 : q ≤ cap := by omega
 have HTL : Hid ((kl.take q).length = q) := hid (by rw [List.length_take]; omega)
 clear hq
 go_enter Tryz.func33, Tryz.ntmps33
 go_upto_region 1 with fail
 refine gen_world (F := fun W => Box W w.heap.size 79 #[.pointer (some ⟨wb, 0, none⟩)] ∧ Box W (w.heap.size + 1) 24 (nc k nu t (.slice (some ⟨g0, o0, none⟩) kl.length cap)) ∧ Below w.heap.size w W) ⟨(Box.new w _ _).alloc _, by have := Box.new (w.alloc (.cells #[.pointer (some ⟨wb, 0, none⟩)] 79 (0, 0))) 24 (nc k nu t (.slice (some ⟨g0, o0, none⟩) kl.length cap)); simpa using this, (below1 w _).alloc (by simp) _⟩ ?_
 rintro W0 ⟨p0, b0, hU⟩
 have PX := hid p0
 have NB := hid b0
 have WT := hid (hW.below hU)
 have HU : Hid (Below B w W0) := hid (hU.mono hBw)
 have HS : Hid (Stays wb w W0) := hid (Stays.below hU)
 have hB0 : B ≤ W0.heap.size := Nat.le_trans hBw hU.size
 have HPB : Hid (w.heap.size ≠ wb) := hid (by omega)
 have HNENB : Hid (w.heap.size + 1 ≠ wb) := hid (by omega)
 clear p0 b0 hU
 have cp := PX.out.cell 0
 simp at cp
 go_wp2_with fail
 refine (wstr B wb (l) [102, 110] _ WT.out (by (try simp only [ln] at hl); (try simp only [ln]); omega) hB0).mono ?_
 rintro e w1 ⟨⟨v, rfl⟩, hw, hb, hs⟩
 clear cp
 replace WT := hid hw
 replace PX := st hs PX HPB
 replace NB := st hs NB HNENB
 replace HU := hid (HU.out.trans hb)
 replace HS := hid (HS.out.trans hs)
 replace hB0 := Nat.le_trans hB0 hb.size
 clear hw hb hs
 by_cases ht : t = []
 ·subst ht
  have HT0 : Hid (True) := hid trivial
  rw [if_pos rfl] at hl
  have c2 : w1.cell? ⟨w.heap.size + 1, 2, none⟩ = some (.string ⟨#[]⟩) := NB.out.cell 2
  have cp := PX.out.cell 0
  simp at cp
  have c3 := NB.out.cell 3
  simp [nc] at c3
  go_upto_region 5 with fail
  go_wp2
  go_still_tail 6, (by kernel_rfl)
  change wpList _ _ _ _ _ w1.drew
  have hdr : Below w1.heap.size w1 w1.drew := Below.drew (Below.refl _ _)
  have hdz : w1.drew.heap.size = w1.heap.size := rfl
  obtain ⟨wd, hwd⟩ : ∃ wd, w1.drew = wd := ⟨_, rfl⟩
  rw [hwd] at hdr hdz ⊢
  replace WT := hid (WT.out.below hdr)
  replace NB := bl NB hdr
  replace PX := bl PX hdr
  replace HU := hid (HU.out.trans (hdr.mono hB0))
  replace HS := hid (HS.out.trans (Stays.below hdr))
  have hB1 : B ≤ wd.heap.size := by omega
  clear hB0
  have hB0 := hB1
  clear hdr hdz hwd
  clear cp c3
  go_wp2_with fail
  have hlist := list_c (fun x => Wri.wr x .param) 69 (fun _ _ => rfl) (B := B) (wb := wb) (pb := w.heap.size) (xs := kl.take q) (A := some ⟨g0, o0, none⟩) (cap := cap) (o := [40]) (c := [41]) (l := l ++ [102, 110]) (w := wd) (fun x hxm xc W l' hnx hWx hBx heX hpx hlx => param_w hnx hWx hBx h7 heX hpx HPB.out hlx) (kids_take HK.out HROW.out HU.out q) (by rw [HTL.out]; omega) WT.out hB0 h7 (HE.out.below HU.out h7) PX.out HPB.out (by rw [HLS.out]; exact by (try simp only [ln] at hl); (try simp only [ln]); omega)
  rw [HTL.out, HLS.out] at hlist
  refine hlist.mono ?_
  clear hlist
  rintro e w5 ⟨rfl, hw, hb, hs⟩
  replace WT := hid hw
  replace PX := st hs PX HPB
  replace NB := st hs NB HNENB
  replace HU := hid (HU.out.trans hb)
  replace HS := hid (HS.out.trans hs)
  replace hB0 := Nat.le_trans hB0 hb.size
  clear hw hb hs
  have cp := PX.out.cell 0
  simp at cp
  go_wp2_with fail
  refine (wbyte B wb (l ++ [102, 110] ++ LS) 32 _ WT.out (by (try simp only [ln] at hl); (try simp only [ln]); omega) hB0).mono ?_
  rintro e w6 ⟨rfl, hw, hb, hs⟩
  clear cp
  replace WT := hid hw
  replace PX := st hs PX HPB
  replace NB := st hs NB HNENB
  replace HU := hid (HU.out.trans hb)
  replace HS := hid (HS.out.trans hs)
  replace hB0 := Nat.le_trans hB0 hb.size
  clear hw hb hs
  have cp := PX.out.cell 0
  simp at cp
  have c3 := NB.out.cell 3
  simp [nc] at c3
  obtain ⟨v0, v1, v2, v3, hxe⟩ := four H4.out.symm
  subst hxe
  have hrr := HR0.out w6 HU.out
  have k0 : w6.cell? ⟨g0, o0 + q * 4, none⟩ = some v0 := by simpa using hrr 0 v0 rfl
  have k1 : w6.cell? ⟨g0, o0 + q * 4 + 1, none⟩ = some v1 := by simpa using hrr 1 v1 rfl
  have k2 : w6.cell? ⟨g0, o0 + q * 4 + 2, none⟩ = some v2 := by simpa using hrr 2 v2 rfl
  have k3 : w6.cell? ⟨g0, o0 + q * 4 + 3, none⟩ = some v3 := by simpa using hrr 3 v3 rfl
  clear hrr
  go_wp2
  go_wp2
  go_still_tail 6, (by kernel_rfl)
  change wpList _ _ _ _ _ w6.drew
  have hdr : Below w6.heap.size w6 w6.drew := Below.drew (Below.refl _ _)
  have hdz : w6.drew.heap.size = w6.heap.size := rfl
  obtain ⟨wd, hwd⟩ : ∃ wd, w6.drew = wd := ⟨_, rfl⟩
  rw [hwd] at hdr hdz ⊢
  replace WT := hid (WT.out.below hdr)
  replace NB := bl NB hdr
  replace PX := bl PX hdr
  replace HU := hid (HU.out.trans (hdr.mono hB0))
  replace HS := hid (HS.out.trans (Stays.below hdr))
  have hB1 : B ≤ wd.heap.size := by omega
  clear hB0
  have hB0 := hB1
  clear hdr hdz hwd
  clear cp c3 k0 k1 k2 k3
  go_wp2_with fail
  refine (IH.block HXW.out.1 HXW.out.2 HXR.out (HXN.out.belowB HU.out) WT.out hB0 h7 (HE.out.below HU.out h7) (by (try simp only [ln] at hl); (try simp only [ln]); omega)).mono ?_
  rintro e w7 ⟨rfl, hw, hb, hs⟩
  go_wp2
  go_end0
  exact ⟨rfl, by rw [wr_fn k nu _ kl q x HQ.out HX.out, HLS.out]; simpa [List.append_assoc, HT0.out] using hw, HU.out.trans hb, HS.out.trans hs⟩
 ·rw [if_neg ht] at hl
  have HT0 : Hid (t ≠ []) := hid ht
  have hT : byt t ≠ ⟨#[]⟩ := by intro e; have := congrArg ByteArray.size e; rw [byt_size] at this; exact ht (List.length_eq_zero_iff.mp this)
  obtain ⟨q1, q2, q3⟩ := same_no hT
  have q4 := of_decide_eq_false q2
  have q5 : ((byt t).toList == []) = false := by
   have e : (⟨#[]⟩ : ByteArray).toList = [] := by simp [ByteArray.toList_eq]
   rw [e] at q1
   exact q1
  have q6 : (byt t).toList.isEmpty = false := by
   rw [byt_list]
   cases t with
   | nil => exact absurd rfl ht
   | cons a l => rfl
  have hts : (byt t).size ≤ 70368744177664 := by rw [byt_size]; simp only [List.length_append, List.length_cons] at hl; omega
  have hcc : ¬ 9223372036854775807 < 1 + (byt t).size := by omega
  have hg1 : (⟨#[32]⟩ : ByteArray).size = 1 := rfl
  have HPC : Hid ((⟨#[32]⟩ ++ byt t : ByteArray) = byt (32 :: t)) := hid (byt_append [32] t)
  clear ht hT
  have cp := PX.out.cell 0
  simp at cp
  have c2 := NB.out.cell 2
  simp [nc] at c2
  go_upto_region 3 with fail
  go_wp2
  go_still_tail 6, (by kernel_rfl)
  change wpList _ _ _ _ _ w1.drew
  have hdr : Below w1.heap.size w1 w1.drew := Below.drew (Below.refl _ _)
  have hdz : w1.drew.heap.size = w1.heap.size := rfl
  obtain ⟨wd, hwd⟩ : ∃ wd, w1.drew = wd := ⟨_, rfl⟩
  rw [hwd] at hdr hdz ⊢
  replace WT := hid (WT.out.below hdr)
  replace NB := bl NB hdr
  replace PX := bl PX hdr
  replace HU := hid (HU.out.trans (hdr.mono hB0))
  replace HS := hid (HS.out.trans (Stays.below hdr))
  have hB1 : B ≤ wd.heap.size := by omega
  clear hB0
  have hB0 := hB1
  clear hdr hdz hwd
  clear cp c2 q1 q2 q3 q4 q5 q6
  go_wp2_with fail
  rw [HPC.out]
  refine (wstr B wb (l ++ [102, 110]) (32 :: t) _ WT.out (by (try simp only [ln] at hl); (try simp only [ln]); omega) hB0).mono ?_
  rintro e w2 ⟨⟨v, rfl⟩, hw, hb, hs⟩
  replace WT := hid hw
  replace PX := st hs PX HPB
  replace NB := st hs NB HNENB
  replace HU := hid (HU.out.trans hb)
  replace HS := hid (HS.out.trans hs)
  replace hB0 := Nat.le_trans hB0 hb.size
  clear hw hb hs
  have cp := PX.out.cell 0
  simp at cp
  have c3 := NB.out.cell 3
  simp [nc] at c3
  go_upto_region 5 with fail
  go_wp2
  go_still_tail 6, (by kernel_rfl)
  change wpList _ _ _ _ _ w2.drew
  have hdr : Below w2.heap.size w2 w2.drew := Below.drew (Below.refl _ _)
  have hdz : w2.drew.heap.size = w2.heap.size := rfl
  obtain ⟨wd, hwd⟩ : ∃ wd, w2.drew = wd := ⟨_, rfl⟩
  rw [hwd] at hdr hdz ⊢
  replace WT := hid (WT.out.below hdr)
  replace NB := bl NB hdr
  replace PX := bl PX hdr
  replace HU := hid (HU.out.trans (hdr.mono hB0))
  replace HS := hid (HS.out.trans (Stays.below hdr))
  have hB1 : B ≤ wd.heap.size := by omega
  clear hB0
  have hB0 := hB1
  clear hdr hdz hwd
  clear cp c3
  go_wp2_with fail
  have hlist := list_c (fun x => Wri.wr x .param) 69 (fun _ _ => rfl) (B := B) (wb := wb) (pb := w.heap.size) (xs := kl.take q) (A := some ⟨g0, o0, none⟩) (cap := cap) (o := [40]) (c := [41]) (l := l ++ [102, 110] ++ (32 :: t)) (w := wd) (fun x hxm xc W l' hnx hWx hBx heX hpx hlx => param_w hnx hWx hBx h7 heX hpx HPB.out hlx) (kids_take HK.out HROW.out HU.out q) (by rw [HTL.out]; omega) WT.out hB0 h7 (HE.out.below HU.out h7) PX.out HPB.out (by rw [HLS.out]; exact by (try simp only [ln] at hl); (try simp only [ln]); omega)
  rw [HTL.out, HLS.out] at hlist
  refine hlist.mono ?_
  clear hlist
  rintro e w5 ⟨rfl, hw, hb, hs⟩
  replace WT := hid hw
  replace PX := st hs PX HPB
  replace NB := st hs NB HNENB
  replace HU := hid (HU.out.trans hb)
  replace HS := hid (HS.out.trans hs)
  replace hB0 := Nat.le_trans hB0 hb.size
  clear hw hb hs
  have cp := PX.out.cell 0
  simp at cp
  go_wp2_with fail
  refine (wbyte B wb (l ++ [102, 110] ++ (32 :: t) ++ LS) 32 _ WT.out (by (try simp only [ln] at hl); (try simp only [ln]); omega) hB0).mono ?_
  rintro e w6 ⟨rfl, hw, hb, hs⟩
  clear cp
  replace WT := hid hw
  replace PX := st hs PX HPB
  replace NB := st hs NB HNENB
  replace HU := hid (HU.out.trans hb)
  replace HS := hid (HS.out.trans hs)
  replace hB0 := Nat.le_trans hB0 hb.size
  clear hw hb hs
  have cp := PX.out.cell 0
  simp at cp
  have c3 := NB.out.cell 3
  simp [nc] at c3
  obtain ⟨v0, v1, v2, v3, hxe⟩ := four H4.out.symm
  subst hxe
  have hrr := HR0.out w6 HU.out
  have k0 : w6.cell? ⟨g0, o0 + q * 4, none⟩ = some v0 := by simpa using hrr 0 v0 rfl
  have k1 : w6.cell? ⟨g0, o0 + q * 4 + 1, none⟩ = some v1 := by simpa using hrr 1 v1 rfl
  have k2 : w6.cell? ⟨g0, o0 + q * 4 + 2, none⟩ = some v2 := by simpa using hrr 2 v2 rfl
  have k3 : w6.cell? ⟨g0, o0 + q * 4 + 3, none⟩ = some v3 := by simpa using hrr 3 v3 rfl
  clear hrr
  go_wp2
  go_wp2
  go_still_tail 6, (by kernel_rfl)
  change wpList _ _ _ _ _ w6.drew
  have hdr : Below w6.heap.size w6 w6.drew := Below.drew (Below.refl _ _)
  have hdz : w6.drew.heap.size = w6.heap.size := rfl
  obtain ⟨wd, hwd⟩ : ∃ wd, w6.drew = wd := ⟨_, rfl⟩
  rw [hwd] at hdr hdz ⊢
  replace WT := hid (WT.out.below hdr)
  replace NB := bl NB hdr
  replace PX := bl PX hdr
  replace HU := hid (HU.out.trans (hdr.mono hB0))
  replace HS := hid (HS.out.trans (Stays.below hdr))
  have hB1 : B ≤ wd.heap.size := by omega
  clear hB0
  have hB0 := hB1
  clear hdr hdz hwd
  clear cp c3 k0 k1 k2 k3
  go_wp2_with fail
  refine (IH.block HXW.out.1 HXW.out.2 HXR.out (HXN.out.belowB HU.out) WT.out hB0 h7 (HE.out.below HU.out h7) (by (try simp only [ln] at hl); (try simp only [ln]); omega)).mono ?_
  rintro e w7 ⟨rfl, hw, hb, hs⟩
  go_wp2
  go_end0
  exact ⟨rfl, by rw [wr_fn k nu _ kl q x HQ.out HX.out, HLS.out]; simpa [List.append_assoc, HT0.out] using hw, HU.out.trans hb, HS.out.trans hs⟩
end Go.Proofs.YtonjdlialejedaaGreatDoor
namespace Go.Proofs.YtonjdlialejedaaGreatDoor
open Go.Lib (hid)
open Go.RowKit
theorem kid4 {w : World} {B : Nat} {l : List Pars.Node} {css : List (Array Value)} {g0 o0 i : Nat} {x : Pars.Node} (hk : NodesAt w (fun g => g < B) l css) (hrow : 0 < l.length → ∃ g o, (some ⟨g0, o0, none⟩ : Option Addr) = some ⟨g, o, none⟩ ∧ g < B ∧ g < w.heap.size ∧ w.rangeAt g o (flatA css)) (hx : l[i]? = some x) :
  ∃ b c d, NodeAt w (fun g => g < B) x #[.int .i64 x.kind, b, c, d] ∧ ∀ W, Below B w W → W.cell? ⟨g0, o0 + i * 4, none⟩ = some (.int .i64 x.kind) ∧ W.cell? ⟨g0, o0 + i * 4 + 1, none⟩ = some b ∧ W.cell? ⟨g0, o0 + i * 4 + 2, none⟩ = some c ∧ W.cell? ⟨g0, o0 + i * 4 + 3, none⟩ = some d := by
 obtain ⟨xc, g, o, h1, _, h3, h4, h5⟩ := kid_at hk hrow hx
 injection h1 with h1
 injection h1 with e1 e2
 subst e1 e2
 obtain ⟨a, b, c, d, rfl⟩ := four h3
 have ha : a = .int .i64 x.kind := by
  cases x with
  | mk k nu t kl =>
   unfold NodeAt at h4
   obtain ⟨_, _, _, e, _⟩ := h4
   simp [nc] at e
   exact e.1
 subst ha
 exact ⟨b, c, d, h4, fun W hW => ⟨by simpa using h5 W hW 0 _ rfl, by simpa using h5 W hW 1 _ rfl, by simpa using h5 W hW 2 _ rfl, by simpa using h5 W hW 3 _ rfl⟩⟩
theorem wr_ifs (k nu : Int) (t : List UInt8) (l : List Pars.Node) (x0 x1 : Pars.Node) (h0 : l[0]? = some x0) (h1 : l[1]? = some x1) (h : l.length = 2) : Wri.wr (.mk k nu t l) .ifs = [105, 102, 32, 40] ++ Wri.wr x0 (.at (-2)) ++ [41, 32] ++ Wri.wr x1 .block := by
 show Wri.wIfs l (Wri.wrs l) = _
 unfold Wri.wIfs
 have e : (Wri.wrs l).length = 2 := by rw [Wri.wrs_map, List.length_map]; exact h
 rw [e, wrs_kid h0, wrs_kid h1, if_neg (by decide), List.append_nil]
theorem wr_ifs3 (k nu : Int) (t : List UInt8) (l : List Pars.Node) (x0 x1 x2 : Pars.Node) (h0 : l[0]? = some x0) (h1 : l[1]? = some x1) (h2 : l[2]? = some x2) (h : l.length = 3) : Wri.wr (.mk k nu t l) .ifs = [105, 102, 32, 40] ++ Wri.wr x0 (.at (-2)) ++ [41, 32] ++ Wri.wr x1 .block ++ ([32, 101, 108, 115, 101, 32] ++ (if x2.kind = 22 then Wri.wr x2 .ifs else Wri.wr x2 .block)) := by
 show Wri.wIfs l (Wri.wrs l) = _
 unfold Wri.wIfs
 have e : (Wri.wrs l).length = 3 := by rw [Wri.wrs_map, List.length_map]; exact h
 rw [e, wrs_kid h0, wrs_kid h1, wrs_kid h2, if_pos rfl, List.getD_eq_getElem?_getD, h2]; rfl
set_option maxRecDepth 100000 in
set_option maxHeartbeats 4000000 in
theorem ifs_w {N : Nat} (IH : Wall N) : ∀ {n : Pars.Node} {cs : Array Value} {w : World} {B wb : Nat} {l : List UInt8}, Wri.wg n ≤ N + 1 → Wri.wg n ≤ 1048576 → Ri n → n.kind = 22 → NodeAt w (fun g => g < B) n cs → Wt B wb l w → B ≤ w.heap.size → 7 ≤ B → EnvW w → l.length + (Wri.wr n .ifs).length ≤ 70368744177664 → Calls Tryz.prog 34 #[.pointer (some ⟨wb, 0, none⟩), .agg cs] w (WOut B wb l (Wri.wr n .ifs) w) := by
 intro n cs w B wb l hN hM hR hk9 hn hW hBw h7 he hl
 obtain ⟨k, nu, t, kl⟩ := n
 have hn0 := hn
 unfold NodeAt at hn
 obtain ⟨A, cap, css, rfl, hc1, hc2, hrow, hk⟩ := hn
 have HROW := hid hrow
 have HK := hid hk
 have HN := hid hn0
 have HE := hid he
 have hwlt := hW.lt
 have hll := Wri.wgs_len kl
 clear hrow hk hn0 he
 rcases (ri_len hR).2.2.2.2.2.1 hk9 with hlen | hlen
 ·obtain ⟨x0, hx0⟩ : ∃ x, kl[0]? = some x := ⟨_, List.getElem?_eq_getElem (by omega)⟩
  obtain ⟨x1, hx1⟩ : ∃ x, kl[1]? = some x := ⟨_, List.getElem?_eq_getElem (by omega)⟩
  obtain ⟨g0, o0, rfl, hg0, _, _⟩ := HROW.out (by omega)
  obtain ⟨b0, c0, d0, hn0, hc0⟩ := kid4 HK.out HROW.out hx0
  have HN0 := hid hn0
  have HC0 := hid hc0
  have HX0 := hid hx0
  have HR0 := hid (ri_kid hR x0 (List.mem_of_getElem? hx0))
  have hxw0 := Wri.wg_mem (List.mem_of_getElem? hx0)
  have HW0 : Hid (Wri.wg x0 ≤ N ∧ Wri.wg x0 ≤ 1048576) := hid (by simp only [Wri.wg] at hN hM; exact ⟨by omega, by omega⟩)
  clear hn0 hc0 hx0 hxw0
  obtain ⟨b1, c1, d1, hn1, hc1⟩ := kid4 HK.out HROW.out hx1
  have HN1 := hid hn1
  have HC1 := hid hc1
  have HX1 := hid hx1
  have HR1 := hid (ri_kid hR x1 (List.mem_of_getElem? hx1))
  have hxw1 := Wri.wg_mem (List.mem_of_getElem? hx1)
  have HW1 : Hid (Wri.wg x1 ≤ N ∧ Wri.wg x1 ≤ 1048576) := hid (by simp only [Wri.wg] at hN hM; exact ⟨by omega, by omega⟩)
  clear hn1 hc1 hx1 hxw1
  rw [wr_ifs k nu t kl x0 x1 HX0.out HX1.out hlen] at hl
  have HLN := hid hlen
  have hz3 : (kl.length : Int) = 2 := by omega
  go_enter Tryz.func34, Tryz.ntmps34
  go_upto_region 1 with fail
  refine gen_world (F := fun W => Box W w.heap.size 24 (nc k nu t (.slice (some ⟨g0, o0, none⟩) 2 cap)) ∧ Below w.heap.size w W) ⟨Box.new w _ _, below1 w _⟩ ?_
  rintro W0 ⟨b0, hU⟩
  have NB := hid b0
  have WT := hid (hW.below hU)
  have HU : Hid (Below B w W0) := hid (hU.mono hBw)
  have HS : Hid (Stays wb w W0) := hid (Stays.below hU)
  have hB0 : B ≤ W0.heap.size := Nat.le_trans hBw hU.size
  have hnw : w.heap.size ≠ wb := by omega
  have hbx := Nat.lt_of_lt_of_le b0.lt (Nat.le_refl _)
  clear b0 hU
  have HNENB := hid hnw
  go_wp2_with fail
  refine (wstr B wb (l) [105, 102, 32, 40] _ WT.out (by (try simp only [ln] at hl); (try simp only [ln]); omega) hB0).mono ?_
  rintro e w1 ⟨⟨v, rfl⟩, hw, hb, hs⟩
  replace WT := hid hw
  replace NB := st hs NB HNENB
  replace HU := hid (HU.out.trans hb)
  replace HS := hid (HS.out.trans hs)
  replace hB0 := Nat.le_trans hB0 hb.size
  clear hw hb hs
  obtain ⟨k0, k1, k2, k3⟩ := HC0.out w1 HU.out
  simp at k0 k1 k2 k3
  have c3 := NB.out.cell 3
  simp [nc] at c3
  go_wp2_with fail
  refine (IH.any HW0.out.1 HW0.out.2 HR0.out (HN0.out.belowB HU.out) WT.out hB0 h7 (HE.out.below HU.out h7) (by (try simp only [ln] at hl); (try simp only [ln]); omega)).mono ?_
  rintro e w2 ⟨rfl, hw, hb, hs⟩
  clear k0 k1 k2 k3 c3
  replace WT := hid hw
  replace NB := st hs NB HNENB
  replace HU := hid (HU.out.trans hb)
  replace HS := hid (HS.out.trans hs)
  replace hB0 := Nat.le_trans hB0 hb.size
  clear hw hb hs
  go_wp2_with fail
  refine (wstr B wb (l ++ [105, 102, 32, 40] ++ Wri.wr x0 (.at (-2))) [41, 32] _ WT.out (by (try simp only [ln] at hl); (try simp only [ln]); omega) hB0).mono ?_
  rintro e w3 ⟨⟨v, rfl⟩, hw, hb, hs⟩
  replace WT := hid hw
  replace NB := st hs NB HNENB
  replace HU := hid (HU.out.trans hb)
  replace HS := hid (HS.out.trans hs)
  replace hB0 := Nat.le_trans hB0 hb.size
  clear hw hb hs
  obtain ⟨k0, k1, k2, k3⟩ := HC1.out w3 HU.out
  have kk0 : w3.cell? ⟨g0, o0 + 4, none⟩ = some (.int .i64 x1.kind) := by simpa [Nat.add_assoc] using k0
  have kk1 : w3.cell? ⟨g0, o0 + 5, none⟩ = some b1 := by simpa [Nat.add_assoc] using k1
  have kk2 : w3.cell? ⟨g0, o0 + 6, none⟩ = some c1 := by simpa [Nat.add_assoc] using k2
  have kk3 : w3.cell? ⟨g0, o0 + 7, none⟩ = some d1 := by simpa [Nat.add_assoc] using k3
  have c3 := NB.out.cell 3
  simp [nc] at c3
  go_wp2_with fail
  refine (IH.block HW1.out.1 HW1.out.2 HR1.out (HN1.out.belowB HU.out) WT.out hB0 h7 (HE.out.below HU.out h7) (by (try simp only [ln] at hl); (try simp only [ln]); omega)).mono ?_
  rintro e w4 ⟨rfl, hw, hb, hs⟩
  clear k0 k1 k2 k3 kk0 kk1 kk2 kk3 c3
  replace WT := hid hw
  replace NB := st hs NB HNENB
  replace HU := hid (HU.out.trans hb)
  replace HS := hid (HS.out.trans hs)
  replace hB0 := Nat.le_trans hB0 hb.size
  clear hw hb hs
  have c3 := NB.out.cell 3
  simp [nc] at c3
  go_wp2
  go_end0
  exact ⟨rfl, by rw [wr_ifs k nu t kl x0 x1 HX0.out HX1.out HLN.out]; simpa [List.append_assoc] using WT.out, HU.out, HS.out⟩
 ·obtain ⟨x0, hx0⟩ : ∃ x, kl[0]? = some x := ⟨_, List.getElem?_eq_getElem (by omega)⟩
  obtain ⟨x1, hx1⟩ : ∃ x, kl[1]? = some x := ⟨_, List.getElem?_eq_getElem (by omega)⟩
  obtain ⟨x2, hx2⟩ : ∃ x, kl[2]? = some x := ⟨_, List.getElem?_eq_getElem (by omega)⟩
  obtain ⟨g0, o0, rfl, hg0, _, _⟩ := HROW.out (by omega)
  obtain ⟨b0, c0, d0, hn0, hc0⟩ := kid4 HK.out HROW.out hx0
  have HN0 := hid hn0
  have HC0 := hid hc0
  have HX0 := hid hx0
  have HR0 := hid (ri_kid hR x0 (List.mem_of_getElem? hx0))
  have hxw0 := Wri.wg_mem (List.mem_of_getElem? hx0)
  have HW0 : Hid (Wri.wg x0 ≤ N ∧ Wri.wg x0 ≤ 1048576) := hid (by simp only [Wri.wg] at hN hM; exact ⟨by omega, by omega⟩)
  clear hn0 hc0 hx0 hxw0
  obtain ⟨b1, c1, d1, hn1, hc1⟩ := kid4 HK.out HROW.out hx1
  have HN1 := hid hn1
  have HC1 := hid hc1
  have HX1 := hid hx1
  have HR1 := hid (ri_kid hR x1 (List.mem_of_getElem? hx1))
  have hxw1 := Wri.wg_mem (List.mem_of_getElem? hx1)
  have HW1 : Hid (Wri.wg x1 ≤ N ∧ Wri.wg x1 ≤ 1048576) := hid (by simp only [Wri.wg] at hN hM; exact ⟨by omega, by omega⟩)
  clear hn1 hc1 hx1 hxw1
  obtain ⟨b2, c2, d2, hn2, hc2⟩ := kid4 HK.out HROW.out hx2
  have HN2 := hid hn2
  have HC2 := hid hc2
  have HX2 := hid hx2
  have HR2 := hid (ri_kid hR x2 (List.mem_of_getElem? hx2))
  have hxw2 := Wri.wg_mem (List.mem_of_getElem? hx2)
  have HW2 : Hid (Wri.wg x2 ≤ N ∧ Wri.wg x2 ≤ 1048576) := hid (by simp only [Wri.wg] at hN hM; exact ⟨by omega, by omega⟩)
  clear hn2 hc2 hx2 hxw2
  rw [wr_ifs3 k nu t kl x0 x1 x2 HX0.out HX1.out HX2.out hlen] at hl
  have HLN := hid hlen
  have hz3 : (kl.length : Int) = 3 := by omega
  go_enter Tryz.func34, Tryz.ntmps34
  go_upto_region 1 with fail
  refine gen_world (F := fun W => Box W w.heap.size 24 (nc k nu t (.slice (some ⟨g0, o0, none⟩) 3 cap)) ∧ Below w.heap.size w W) ⟨Box.new w _ _, below1 w _⟩ ?_
  rintro W0 ⟨b0, hU⟩
  have NB := hid b0
  have WT := hid (hW.below hU)
  have HU : Hid (Below B w W0) := hid (hU.mono hBw)
  have HS : Hid (Stays wb w W0) := hid (Stays.below hU)
  have hB0 : B ≤ W0.heap.size := Nat.le_trans hBw hU.size
  have hnw : w.heap.size ≠ wb := by omega
  have hbx := Nat.lt_of_lt_of_le b0.lt (Nat.le_refl _)
  clear b0 hU
  have HNENB := hid hnw
  go_wp2_with fail
  refine (wstr B wb (l) [105, 102, 32, 40] _ WT.out (by (try simp only [ln] at hl); (try simp only [ln]); omega) hB0).mono ?_
  rintro e w1 ⟨⟨v, rfl⟩, hw, hb, hs⟩
  replace WT := hid hw
  replace NB := st hs NB HNENB
  replace HU := hid (HU.out.trans hb)
  replace HS := hid (HS.out.trans hs)
  replace hB0 := Nat.le_trans hB0 hb.size
  clear hw hb hs
  obtain ⟨k0, k1, k2, k3⟩ := HC0.out w1 HU.out
  simp at k0 k1 k2 k3
  have c3 := NB.out.cell 3
  simp [nc] at c3
  go_wp2_with fail
  refine (IH.any HW0.out.1 HW0.out.2 HR0.out (HN0.out.belowB HU.out) WT.out hB0 h7 (HE.out.below HU.out h7) (by (try simp only [ln] at hl); (try simp only [ln]); omega)).mono ?_
  rintro e w2 ⟨rfl, hw, hb, hs⟩
  clear k0 k1 k2 k3 c3
  replace WT := hid hw
  replace NB := st hs NB HNENB
  replace HU := hid (HU.out.trans hb)
  replace HS := hid (HS.out.trans hs)
  replace hB0 := Nat.le_trans hB0 hb.size
  clear hw hb hs
  go_wp2_with fail
  refine (wstr B wb (l ++ [105, 102, 32, 40] ++ Wri.wr x0 (.at (-2))) [41, 32] _ WT.out (by (try simp only [ln] at hl); (try simp only [ln]); omega) hB0).mono ?_
  rintro e w3 ⟨⟨v, rfl⟩, hw, hb, hs⟩
  replace WT := hid hw
  replace NB := st hs NB HNENB
  replace HU := hid (HU.out.trans hb)
  replace HS := hid (HS.out.trans hs)
  replace hB0 := Nat.le_trans hB0 hb.size
  clear hw hb hs
  obtain ⟨k0, k1, k2, k3⟩ := HC1.out w3 HU.out
  have kk0 : w3.cell? ⟨g0, o0 + 4, none⟩ = some (.int .i64 x1.kind) := by simpa [Nat.add_assoc] using k0
  have kk1 : w3.cell? ⟨g0, o0 + 5, none⟩ = some b1 := by simpa [Nat.add_assoc] using k1
  have kk2 : w3.cell? ⟨g0, o0 + 6, none⟩ = some c1 := by simpa [Nat.add_assoc] using k2
  have kk3 : w3.cell? ⟨g0, o0 + 7, none⟩ = some d1 := by simpa [Nat.add_assoc] using k3
  have c3 := NB.out.cell 3
  simp [nc] at c3
  go_wp2_with fail
  refine (IH.block HW1.out.1 HW1.out.2 HR1.out (HN1.out.belowB HU.out) WT.out hB0 h7 (HE.out.below HU.out h7) (by (try simp only [ln] at hl); (try simp only [ln]); omega)).mono ?_
  rintro e w4 ⟨rfl, hw, hb, hs⟩
  clear k0 k1 k2 k3 kk0 kk1 kk2 kk3 c3
  replace WT := hid hw
  replace NB := st hs NB HNENB
  replace HU := hid (HU.out.trans hb)
  replace HS := hid (HS.out.trans hs)
  replace hB0 := Nat.le_trans hB0 hb.size
  clear hw hb hs
  have c3 := NB.out.cell 3
  simp [nc] at c3
  go_upto_region 6 with fail
  clear c3
  go_wp2_with fail
  refine (wstr B wb (l ++ [105, 102, 32, 40] ++ Wri.wr x0 (.at (-2)) ++ [41, 32] ++ Wri.wr x1 .block) [32, 101, 108, 115, 101, 32] _ WT.out (by (try simp only [ln] at hl); (try simp only [ln]); omega) hB0).mono ?_
  rintro e w5 ⟨⟨v, rfl⟩, hw, hb, hs⟩
  replace WT := hid hw
  replace NB := st hs NB HNENB
  replace HU := hid (HU.out.trans hb)
  replace HS := hid (HS.out.trans hs)
  replace hB0 := Nat.le_trans hB0 hb.size
  clear hw hb hs
  by_cases hk2 : x2.kind = 22
  ·have HKD := hid hk2
   rw [if_pos hk2] at hl
   have hn22 := HN2.out
   rw [hk2] at hn22
   replace HN2 := hid hn22
   have hkb : (x2.kind == 22) = true := by rw [hk2]; rfl
   clear hn22
   obtain ⟨k0, k1, k2, k3⟩ := HC2.out w5 HU.out
   have kk0 : w5.cell? ⟨g0, o0 + 8, none⟩ = some (.int .i64 x2.kind) := by simpa [Nat.add_assoc] using k0
   have kk1 : w5.cell? ⟨g0, o0 + 9, none⟩ = some b2 := by simpa [Nat.add_assoc] using k1
   have kk2 : w5.cell? ⟨g0, o0 + 10, none⟩ = some c2 := by simpa [Nat.add_assoc] using k2
   have kk3 : w5.cell? ⟨g0, o0 + 11, none⟩ = some d2 := by simpa [Nat.add_assoc] using k3
   have c3 := NB.out.cell 3
   simp [nc] at c3
   go_wp2_with fail
   refine (IH.ifs HW2.out.1 HW2.out.2 HR2.out HKD.out (HN2.out.belowB HU.out) WT.out hB0 h7 (HE.out.below HU.out h7) (by (try simp only [ln] at hl); (try simp only [ln]); omega)).mono ?_
   rintro e w6 ⟨rfl, hw, hb, hs⟩
   clear k0 k1 k2 k3 kk0 kk1 kk2 kk3 c3
   replace WT := hid hw
   replace NB := st hs NB HNENB
   replace HU := hid (HU.out.trans hb)
   replace HS := hid (HS.out.trans hs)
   replace hB0 := Nat.le_trans hB0 hb.size
   clear hw hb hs
   go_wp2
   go_end0
   exact ⟨rfl, by rw [wr_ifs3 k nu t kl x0 x1 x2 HX0.out HX1.out HX2.out HLN.out, if_pos HKD.out]; simpa [List.append_assoc] using WT.out, HU.out, HS.out⟩
  ·have HKD := hid hk2
   rw [if_neg hk2] at hl
   have hkb : (x2.kind == 22) = false := bn hk2
   obtain ⟨k0, k1, k2, k3⟩ := HC2.out w5 HU.out
   have kk0 : w5.cell? ⟨g0, o0 + 8, none⟩ = some (.int .i64 x2.kind) := by simpa [Nat.add_assoc] using k0
   have kk1 : w5.cell? ⟨g0, o0 + 9, none⟩ = some b2 := by simpa [Nat.add_assoc] using k1
   have kk2 : w5.cell? ⟨g0, o0 + 10, none⟩ = some c2 := by simpa [Nat.add_assoc] using k2
   have kk3 : w5.cell? ⟨g0, o0 + 11, none⟩ = some d2 := by simpa [Nat.add_assoc] using k3
   have c3 := NB.out.cell 3
   simp [nc] at c3
   go_wp2_with fail
   refine (IH.block HW2.out.1 HW2.out.2 HR2.out (HN2.out.belowB HU.out) WT.out hB0 h7 (HE.out.below HU.out h7) (by (try simp only [ln] at hl); (try simp only [ln]); omega)).mono ?_
   rintro e w6 ⟨rfl, hw, hb, hs⟩
   clear k0 k1 k2 k3 kk0 kk1 kk2 kk3 c3
   replace WT := hid hw
   replace NB := st hs NB HNENB
   replace HU := hid (HU.out.trans hb)
   replace HS := hid (HS.out.trans hs)
   replace hB0 := Nat.le_trans hB0 hb.size
   clear hw hb hs
   go_wp2
   go_end0
   exact ⟨rfl, by rw [wr_ifs3 k nu t kl x0 x1 x2 HX0.out HX1.out HX2.out HLN.out, if_neg HKD.out]; simpa [List.append_assoc] using WT.out, HU.out, HS.out⟩
end Go.Proofs.YtonjdlialejedaaGreatDoor
