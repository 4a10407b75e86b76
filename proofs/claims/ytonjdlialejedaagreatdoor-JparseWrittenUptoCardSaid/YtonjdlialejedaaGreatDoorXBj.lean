/-
  Texts that the law leans on: PwY. Conditions: as each says.
-/
import Derived.Test.YtonjdlialejedaaGreatDoorXBi
import Derived.Test.YtonjdlialejedaaGreatDoorXAa
set_option linter.unusedSimpArgs false
set_option linter.unusedVariables false
namespace Go.Proofs.YtonjdlialejedaaGreatDoor
open Go.Lib (hid)
open Go.RowKit
theorem kidr {w : World} {B : Nat} {l : List Pars.Node} {css : List (Array Value)} {g0 o0 i : Nat} {x : Pars.Node} (hk : NodesAt w (fun g => g < B) l css) (hrow : 0 < l.length → ∃ g o, (some ⟨g0, o0, none⟩ : Option Addr) = some ⟨g, o, none⟩ ∧ g < B ∧ g < w.heap.size ∧ w.rangeAt g o (flatA css)) (hx : l[i]? = some x) :
  ∃ a b c d, NodeAt w (fun g => g < B) x #[a, b, c, d] ∧ ∀ W, Below B w W → W.rangeAt g0 (o0 + i * 4) [a, b, c, d] := by
 obtain ⟨xc, g, o, h1, _, h3, h4, h5⟩ := kid_at hk hrow hx
 injection h1 with h1
 injection h1 with e1 e2
 subst e1 e2
 obtain ⟨a, b, c, d, rfl⟩ := four h3
 exact ⟨a, b, c, d, h4, h5⟩
theorem rank_lt (n : Pars.Node) : -2 ≤ Wri.rank n ∧ Wri.rank n ≤ 8 := by
 have hro : ∀ (t : List UInt8) (ls : List (List (List UInt8))) (i : Nat), -2 ≤ Wri.rankOf i ls t ∧ (Wri.rankOf i ls t ≤ 8 ∨ Wri.rankOf i ls t < i + ls.length) := by
  intro t ls
  induction ls with
  | nil => intro i; simp [Wri.rankOf]
  | cons r l ih =>
   intro i
   unfold Wri.rankOf
   split
   ·simp; omega
   ·have := ih (i + 1); simp only [List.length_cons]; omega
 unfold Wri.rank
 have := hro n.text Pars.ranks 0
 have hl : Pars.ranks.length = 6 := rfl
 repeat' split
 all_goals omega
theorem wr_exb (k nu : Int) (t : List UInt8) (l : List Pars.Node) (x0 x1 : Pars.Node) (hk : k = 17 ∨ k = 16 ∨ k = 15) (h0 : l[0]? = some x0) (h1 : l[1]? = some x1) : Wri.wr (.mk k nu t l) .ex = Wri.wr x0 (.at (Wri.rank (.mk k nu t l))) ++ ([32] ++ Wri.sgn k t ++ [32]) ++ Wri.wr x1 (.at (Wri.rank (.mk k nu t l) + 1)) := by
 show Wri.wEx k nu t (Wri.wrs l) = _
 unfold Wri.wEx
 rw [if_neg (by omega), if_neg (by omega), if_pos hk, wrs_kid h0, wrs_kid h1]
 rfl
theorem wr_ex11 (nu : Int) (t : List UInt8) (l : List Pars.Node) (x0 : Pars.Node) (h0 : l[0]? = some x0) : Wri.wr (.mk 11 nu t l) .ex = Wri.wr x0 (.at 7) ++ Wri.listed [40] [41] ((l.drop 1).map fun x => Wri.wr x (.at (-2))) := by
 show Wri.wEx 11 nu t (Wri.wrs l) = _
 unfold Wri.wEx
 have e : ((Wri.wrs l).drop 1).map (· (Wri.M.at (-2))) = (l.drop 1).map fun x => Wri.wr x (.at (-2)) := by
  rw [Wri.wrs_map, ← List.map_drop, List.map_map]; rfl
 rw [if_neg (by decide), if_neg (by decide), if_neg (by decide), if_neg (by decide), if_pos rfl, wrs_kid h0, e]
theorem wr_ex19 (nu : Int) (t : List UInt8) (l : List Pars.Node) (x0 x1 : Pars.Node) (h0 : l[0]? = some x0) (h1 : l[1]? = some x1) : Wri.wr (.mk 19 nu t l) .ex = Wri.wr x0 (.at 7) ++ [32, 61, 32] ++ Wri.wr x1 (.at (-2)) := by
 show Wri.wEx 19 nu t (Wri.wrs l) = _
 unfold Wri.wEx
 simp [wrs_kid h0, wrs_kid h1, List.append_assoc]
theorem wr_ex18 (nu : Int) (t : List UInt8) (l : List Pars.Node) (x0 x1 x2 : Pars.Node) (h0 : l[0]? = some x0) (h1 : l[1]? = some x1) (h2 : l[2]? = some x2) : Wri.wr (.mk 18 nu t l) .ex = Wri.wr x0 (.at 0) ++ [32, 63, 32] ++ Wri.wr x1 (.at (-2)) ++ [32, 58, 32] ++ Wri.wr x2 (.at (-2)) := by
 show Wri.wEx 18 nu t (Wri.wrs l) = _
 unfold Wri.wEx
 simp [wrs_kid h0, wrs_kid h1, wrs_kid h2, List.append_assoc]
theorem wr_ex14 (nu : Int) (t : List UInt8) (l : List Pars.Node) (x0 : Pars.Node) (h0 : l[0]? = some x0) : Wri.wr (.mk 14 nu t l) .ex = t ++ Wri.wr x0 (.at 6) := by
 show Wri.wEx 14 nu t (Wri.wrs l) = _
 unfold Wri.wEx
 simp [wrs_kid h0, List.append_assoc]
theorem wr_ex12 (nu : Int) (t : List UInt8) (l : List Pars.Node) (x0 x1 : Pars.Node) (h0 : l[0]? = some x0) (h1 : l[1]? = some x1) : Wri.wr (.mk 12 nu t l) .ex = Wri.wr x0 (.at 7) ++ [91] ++ Wri.wr x1 (.at (-2)) ++ [93] := by
 show Wri.wEx 12 nu t (Wri.wrs l) = _
 unfold Wri.wEx
 simp [wrs_kid h0, wrs_kid h1, List.append_assoc]
theorem wr_ex13 (nu : Int) (t : List UInt8) (l : List Pars.Node) (x0 : Pars.Node) (h0 : l[0]? = some x0) : Wri.wr (.mk 13 nu t l) .ex = Wri.wr x0 (.at 7) ++ (46 :: t) := by
 show Wri.wEx 13 nu t (Wri.wrs l) = _
 unfold Wri.wEx
 simp [wrs_kid h0, List.append_assoc]
set_option maxRecDepth 100000 in
set_option maxHeartbeats 4000000 in
theorem exb_w {N : Nat} (IH : Wall N) : ∀ (k : Int) (hk : k = 17 ∨ k = 16 ∨ k = 15) {nu : Int} {t : List UInt8} {kl : List Pars.Node} {cs : Array Value} {w : World} {B wb : Nat} {l : List UInt8}, Wri.wg (.mk k nu t kl) ≤ N + 1 → Wri.wg (.mk k nu t kl) ≤ 1048576 → Ri (.mk k nu t kl) → NodeAt w (fun g => g < B) (.mk k nu t kl) cs → Wt B wb l w → B ≤ w.heap.size → 7 ≤ B → EnvW w → l.length + (Wri.wr (.mk k nu t kl) .ex).length ≤ 70368744177664 → Calls Tryz.prog 87 #[.pointer (some ⟨wb, 0, none⟩), .agg cs] w (WOut B wb l (Wri.wr (.mk k nu t kl) .ex) w) := by
 intro k hk nu t kl cs w B wb l hN hM hR hn hW hBw h7 he hl
 have hn0 := hn
 unfold NodeAt at hn
 obtain ⟨A, cap, css, rfl, hc1, hc2, hrow, hk⟩ := hn
 have HROW := hid hrow
 have HK := hid hk
 have HN := hid hn0
 have HE := hid he
 have hwlt := hW.lt
 have hll := Wri.wgs_len kl
 clear hrow hk hn0 he
 have HKK := hid hk
 have hlen : kl.length = 2 := (ri_len hR).1 (by omega)
 obtain ⟨x0, hx0⟩ : ∃ x, kl[0]? = some x := ⟨_, List.getElem?_eq_getElem (by omega)⟩
 obtain ⟨x1, hx1⟩ : ∃ x, kl[1]? = some x := ⟨_, List.getElem?_eq_getElem (by omega)⟩
 obtain ⟨g0, o0, rfl, hg0, _, _⟩ := HROW.out (by omega)
 obtain ⟨b0, c0, d0, hn0, hc0⟩ := kid4 HK.out HROW.out hx0
 have HN0 := hid hn0
 have HC0 := hid hc0
 have HX0 := hid hx0
 have HR0 := hid (ri_kid hR x0 (List.mem_of_getElem? hx0))
 have hxw0 := Wri.wg_mem (List.mem_of_getElem? hx0)
 have HW0 : Hid (Wri.wg x0 ≤ N ∧ Wri.wg x0 ≤ 1048576) := hid (by simp only [Wri.wg] at hN hM; exact ⟨by omega, by omega⟩)
 clear hn0 hc0 hx0 hxw0
 obtain ⟨b1, c1, d1, hn1, hc1⟩ := kid4 HK.out HROW.out hx1
 have HN1 := hid hn1
 have HC1 := hid hc1
 have HX1 := hid hx1
 have HR1 := hid (ri_kid hR x1 (List.mem_of_getElem? hx1))
 have hxw1 := Wri.wg_mem (List.mem_of_getElem? hx1)
 have HW1 : Hid (Wri.wg x1 ≤ N ∧ Wri.wg x1 ≤ 1048576) := hid (by simp only [Wri.wg] at hN hM; exact ⟨by omega, by omega⟩)
 clear hn1 hc1 hx1 hxw1
 obtain ⟨p0, p1, p2, p3, hm0, hr0⟩ := kidr HK.out HROW.out HX0.out
 obtain ⟨q0, q1, q2, q3, hm1, hr1⟩ := kidr HK.out HROW.out HX1.out
 have HM0 := hid hm0
 have HM1 := hid hm1
 have HG0 : Hid (∀ W, Below B w W → W.rangeAt g0 o0 [p0, p1, p2, p3]) := hid (by simpa using hr0)
 have HG1 : Hid (∀ W, Below B w W → W.rangeAt g0 (o0 + 4) [q0, q1, q2, q3]) := hid (by simpa using hr1)
 clear hm0 hm1 hr0 hr1
 rw [wr_exb k nu t kl x0 x1 hk HX0.out HX1.out] at hl
 have HWR := hid (wr_exb k nu t kl x0 x1 hk HX0.out HX1.out)
 have hqb := rank_lt (.mk k nu t kl)
 have hrk := rank_any k nu t kl (some ⟨g0, o0, none⟩) 2 cap
 have hsg := sign_any k nu t (some ⟨g0, o0, none⟩) 2 cap
 obtain ⟨q, hq⟩ : ∃ q, Wri.rank (.mk k nu t kl) = q := ⟨_, rfl⟩
 obtain ⟨sg, hsge⟩ : ∃ s, Wri.sgn k t = s := ⟨_, rfl⟩
 rw [hq, hsge] at hl HWR
 rw [hq] at hqb hrk
 rw [hsge] at hsg
 obtain ⟨wx, hwx⟩ : ∃ s, Wri.wr (.mk k nu t kl) .ex = s := ⟨_, rfl⟩
 rw [hwx] at HWR ⊢
 obtain ⟨cy, hcy⟩ : ∃ q, (nc k nu t (.slice (some ⟨g0, o0, none⟩) 2 cap)) = q := ⟨_, rfl⟩
 have HC0 : Hid (cy[0]? = some (.int .i64 k)) := hid (by rw [← hcy]; rfl)
 have HC3 : Hid (cy[3]? = some (.slice (some ⟨g0, o0, none⟩) 2 cap)) := hid (by rw [← hcy]; rfl)
 have HINF : Hid ((Tryz.prog.info? 24).map (·.size) = some cy.size) := hid (by rw [← hcy]; exact info_nod)
 have hlen2 : kl.length = 2 := hlen
 rw [hlen2] at HN ⊢
 rw [hcy] at hrk hsg ⊢
 have HRK := hid hrk
 have HSGN := hid hsg
 clear hq hsge hrk hsg hwx hcy hlen2
 have hts : (byt sg).size ≤ 70368744177664 := by rw [byt_size]; simp only [ln] at hl; omega
 have hcc : ¬ 9223372036854775807 < 1 + (byt sg).size := by omega
 have hcc2 : ¬ 9223372036854775807 < 1 + (byt sg).size + 1 := by omega
 have hg1 : (⟨#[32]⟩ : ByteArray).size = 1 := rfl
 have HPC : Hid ((⟨#[32]⟩ ++ byt sg ++ ⟨#[32]⟩ : ByteArray) = byt ([32] ++ sg ++ [32])) := hid (by rw [show (⟨#[32]⟩ : ByteArray) = byt [32] from rfl, byt_append, byt_append])
 have HINL : Hid (∀ a b c d : Value, (Tryz.prog.info? 24).map (·.size) = some [a, b, c, d].length) := hid (fun a b c d => info_nod)
 go_enter Tryz.func87, Tryz.ntmps87
 go_upto_region 1 with fail
 refine gen_world (F := fun W => Box W w.heap.size 24 cy ∧ Below w.heap.size w W) ⟨Box.new w _ _, below1 w _⟩ ?_
 rintro W0 ⟨b0, hU⟩
 have NB := hid b0
 have WT := hid (hW.below hU)
 have HU : Hid (Below B w W0) := hid (hU.mono hBw)
 have HS : Hid (Stays wb w W0) := hid (Stays.below hU)
 have hB0 : B ≤ W0.heap.size := Nat.le_trans hBw hU.size
 have hnw : w.heap.size ≠ wb := by omega
 have hbx := Nat.lt_of_lt_of_le b0.lt (Nat.le_refl _)
 clear b0 hU
 have HNENB := hid hnw
 have c0 := NB.out.cell 0
 rw [HC0.out] at c0
 rcases hk with rfl | rfl | rfl
 all_goals
  go_upto_region 16 with fail
  clear c0
  refine wp_region_held_drew (S := fun w' => Box w' w.heap.size 24 cy ∧ Below B w w') (by kernel_rfl) ⟨NB.out.drew, HU.out.drew⟩ (fun hHeld => ?_)
  obtain ⟨wd, hwd⟩ : ∃ wd, W0.drew = wd := ⟨_, rfl⟩
  have hdr : Below W0.heap.size W0 wd := hwd ▸ (Below.refl _ W0).drew
  (try rw [hwd] at hHeld)
  (try rw [hwd])
  clear hwd hHeld
  replace WT := hid (WT.out.below hdr)
  replace NB := bl NB hdr
  replace HU := hid (HU.out.trans (hdr.mono hB0))
  replace HS := hid (HS.out.trans (Stays.below hdr))
  replace hB0 := Nat.le_trans hB0 hdr.size
  clear hdr
  refine tH (i := 0) (v := ?_) rfl ?_ ⟨NB.out, HU.out⟩ ?_
  rotate_left
  ·intro w hSw
   go_simp
   try (with_reducible rfl)
  (try simp only [Act.put, sq])
  refine tH (i := 1) (v := ?_) rfl ?_ ⟨NB.out, HU.out⟩ ?_
  rotate_left
  ·intro w hSw
   go_simp
   try (with_reducible rfl)
  (try simp only [Act.put, sq])
  refine tH (i := 2) (v := .slice (some ⟨g0, o0, none⟩) 2 cap) rfl ?_ ⟨NB.out, HU.out⟩ ?_
  ·intro w hSw
   have cq := hSw.1.cell 3
   rw [HC3.out] at cq
   go_simp
  (try simp only [Act.put, sq])
  refine tH (i := 3) (v := .pointer (some ⟨g0, o0, none⟩)) rfl ?_ ⟨NB.out, HU.out⟩ ?_
  ·intro w hSw
   go_simp
  (try simp only [Act.put, sq])
  refine wpAnyH_take (i := 4) (v := _) rfl (by kernel_rfl) (by kernel_rfl) (by kernel_rfl) (fun _ _ _ h => h) (yieldsIf_load_mid (by kernel_rfl) 24 (.tmp 62) rfl g0 (o0) rfl [p0, p1, p2, p3] _ (fun _ h => HG0.out _ h.2) Tryz.underlying24 rfl (HINL.out _ _ _ _)) ⟨NB.out, HU.out⟩ ?_
  (try simp only [Act.put, sq])
  refine wpAnyH_take (i := 5) (v := _) rfl (by kernel_rfl) (by kernel_rfl) (by kernel_rfl) (fun _ _ _ h => h) (yields_load_box (by kernel_rfl) 24 (.tmp 3) rfl w.heap.size 24 cy _ rfl (fun _ h => h.1) Tryz.underlying24 rfl HINF.out) ⟨NB.out, HU.out⟩ ?_
  (try simp only [Act.put, sq])
  refine rdH 6 rfl fun K hK => ?_
  go_simp
  refine (HRK.out _).mono ?_
  rintro e w1 ⟨rfl, hq⟩
  replace WT := hid (WT.out.below hq)
  replace NB := bl NB hq
  replace HU := hid (HU.out.trans (hq.mono hB0))
  replace HS := hid (HS.out.trans (Stays.below hq))
  replace hB0 := Nat.le_trans hB0 hq.size
  clear hq
  refine hK.out _ _ ⟨NB.out, HU.out⟩ (fun hHeld => ?_)
  clear hK hHeld K
  (try simp only [Act.put, sq])
  refine rdH 7 rfl fun K hK => ?_
  go_simp
  refine (IH.at_ q HW0.out.1 HW0.out.2 HR0.out (HM0.out.belowB HU.out) WT.out hB0 h7 (HE.out.below HU.out h7) (by (try simp only [ln] at hl); (try simp only [ln]); omega)).mono ?_
  rintro e w2 ⟨rfl, hw, hb, hs⟩
  replace WT := hid hw
  replace NB := st hs NB HNENB
  replace HU := hid (HU.out.trans hb)
  replace HS := hid (HS.out.trans hs)
  replace hB0 := Nat.le_trans hB0 hb.size
  clear hw hb hs
  refine hK.out _ _ ⟨NB.out, HU.out⟩ (fun hHeld => ?_)
  clear hK hHeld K
  (try simp only [Act.put, sq])
  refine wpAnyH_done (by kernel_rfl) ?_ _
  go_upto_region 17 with fail
  refine wp_region_held_drew (S := fun w' => Box w' w.heap.size 24 cy ∧ Below B w w') (by kernel_rfl) ⟨NB.out.drew, HU.out.drew⟩ (fun hHeld => ?_)
  obtain ⟨we, hwd⟩ : ∃ wd, w2.drew = wd := ⟨_, rfl⟩
  have hdr : Below w2.heap.size w2 we := hwd ▸ (Below.refl _ w2).drew
  (try rw [hwd] at hHeld)
  (try rw [hwd])
  clear hwd hHeld
  replace WT := hid (WT.out.below hdr)
  replace NB := bl NB hdr
  replace HU := hid (HU.out.trans (hdr.mono hB0))
  replace HS := hid (HS.out.trans (Stays.below hdr))
  replace hB0 := Nat.le_trans hB0 hdr.size
  clear hdr
  refine tH (i := 0) (v := ?_) rfl ?_ ⟨NB.out, HU.out⟩ ?_
  rotate_left
  ·intro w hSw
   go_simp
   try (with_reducible rfl)
  (try simp only [Act.put, sq])
  refine tH (i := 1) (v := ?_) rfl ?_ ⟨NB.out, HU.out⟩ ?_
  rotate_left
  ·intro w hSw
   go_simp
   try (with_reducible rfl)
  (try simp only [Act.put, sq])
  refine tH (i := 2) (v := ?_) rfl ?_ ⟨NB.out, HU.out⟩ ?_
  rotate_left
  ·intro w hSw
   go_simp
   try (with_reducible rfl)
  (try simp only [Act.put, sq])
  refine wpAnyH_take (i := 3) (v := _) rfl (by kernel_rfl) (by kernel_rfl) (by kernel_rfl) (fun _ _ _ h => h) (yields_load_box (by kernel_rfl) 24 (.tmp 3) rfl w.heap.size 24 cy _ rfl (fun _ h => h.1) Tryz.underlying24 rfl HINF.out) ⟨NB.out, HU.out⟩ ?_
  (try simp only [Act.put, sq])
  refine rdH 4 rfl fun K hK => ?_
  go_simp
  refine (HSGN.out _).mono ?_
  rintro e w3 ⟨rfl, hq⟩
  replace WT := hid (WT.out.below hq)
  replace NB := bl NB hq
  replace HU := hid (HU.out.trans (hq.mono hB0))
  replace HS := hid (HS.out.trans (Stays.below hq))
  replace hB0 := Nat.le_trans hB0 hq.size
  clear hq
  refine hK.out _ _ ⟨NB.out, HU.out⟩ (fun hHeld => ?_)
  clear hK hHeld K
  (try simp only [Act.put, sq])
  refine tH (i := 5) (v := .string (⟨#[32]⟩ ++ byt sg)) rfl ?_ ⟨NB.out, HU.out⟩ ?_
  ·intro w hSw
   go_simp
  (try simp only [Act.put, sq])
  refine tH (i := 6) (v := .string (⟨#[32]⟩ ++ byt sg ++ ⟨#[32]⟩)) rfl ?_ ⟨NB.out, HU.out⟩ ?_
  ·intro w hSw
   go_simp
  (try simp only [Act.put, sq])
  refine rdH 7 rfl fun K hK => ?_
  go_simp
  rw [HPC.out]
  refine (wstr B wb (l ++ Wri.wr x0 (.at q)) ([32] ++ sg ++ [32]) _ WT.out (by (try simp only [ln] at hl); (try simp only [ln]); omega) hB0).mono ?_
  rintro e w4 ⟨⟨v, rfl⟩, hw, hb, hs⟩
  replace WT := hid hw
  replace NB := st hs NB HNENB
  replace HU := hid (HU.out.trans hb)
  replace HS := hid (HS.out.trans hs)
  replace hB0 := Nat.le_trans hB0 hb.size
  clear hw hb hs
  refine hK.out _ _ ⟨NB.out, HU.out⟩ (fun hHeld => ?_)
  clear hK hHeld K
  (try simp only [Act.put, sq])
  refine wpAnyH_done (by kernel_rfl) ?_ _
  go_upto_region 18 with fail
  refine wp_region_held_drew (S := fun w' => Box w' w.heap.size 24 cy ∧ Below B w w') (by kernel_rfl) ⟨NB.out.drew, HU.out.drew⟩ (fun hHeld => ?_)
  obtain ⟨wf, hwd⟩ : ∃ wd, w4.drew = wd := ⟨_, rfl⟩
  have hdr : Below w4.heap.size w4 wf := hwd ▸ (Below.refl _ w4).drew
  (try rw [hwd] at hHeld)
  (try rw [hwd])
  clear hwd hHeld
  replace WT := hid (WT.out.below hdr)
  replace NB := bl NB hdr
  replace HU := hid (HU.out.trans (hdr.mono hB0))
  replace HS := hid (HS.out.trans (Stays.below hdr))
  replace hB0 := Nat.le_trans hB0 hdr.size
  clear hdr
  refine tH (i := 0) (v := ?_) rfl ?_ ⟨NB.out, HU.out⟩ ?_
  rotate_left
  ·intro w hSw
   go_simp
   try (with_reducible rfl)
  (try simp only [Act.put, sq])
  refine tH (i := 1) (v := ?_) rfl ?_ ⟨NB.out, HU.out⟩ ?_
  rotate_left
  ·intro w hSw
   go_simp
   try (with_reducible rfl)
  (try simp only [Act.put, sq])
  refine tH (i := 2) (v := .slice (some ⟨g0, o0, none⟩) 2 cap) rfl ?_ ⟨NB.out, HU.out⟩ ?_
  ·intro w hSw
   have cq := hSw.1.cell 3
   rw [HC3.out] at cq
   go_simp
  (try simp only [Act.put, sq])
  refine tH (i := 3) (v := .pointer (some ⟨g0, o0 + 4, none⟩)) rfl ?_ ⟨NB.out, HU.out⟩ ?_
  ·intro w hSw
   go_simp
  (try simp only [Act.put, sq])
  refine wpAnyH_take (i := 4) (v := _) rfl (by kernel_rfl) (by kernel_rfl) (by kernel_rfl) (fun _ _ _ h => h) (yieldsIf_load_mid (by kernel_rfl) 24 (.tmp 78) rfl g0 (o0 + 4) rfl [q0, q1, q2, q3] _ (fun _ h => HG1.out _ h.2) Tryz.underlying24 rfl (HINL.out _ _ _ _)) ⟨NB.out, HU.out⟩ ?_
  (try simp only [Act.put, sq])
  refine wpAnyH_take (i := 5) (v := _) rfl (by kernel_rfl) (by kernel_rfl) (by kernel_rfl) (fun _ _ _ h => h) (yields_load_box (by kernel_rfl) 24 (.tmp 3) rfl w.heap.size 24 cy _ rfl (fun _ h => h.1) Tryz.underlying24 rfl HINF.out) ⟨NB.out, HU.out⟩ ?_
  (try simp only [Act.put, sq])
  refine rdH 6 rfl fun K hK => ?_
  go_simp
  refine (HRK.out _).mono ?_
  rintro e w5 ⟨rfl, hq⟩
  replace WT := hid (WT.out.below hq)
  replace NB := bl NB hq
  replace HU := hid (HU.out.trans (hq.mono hB0))
  replace HS := hid (HS.out.trans (Stays.below hq))
  replace hB0 := Nat.le_trans hB0 hq.size
  clear hq
  refine hK.out _ _ ⟨NB.out, HU.out⟩ (fun hHeld => ?_)
  clear hK hHeld K
  (try simp only [Act.put, sq])
  refine tH (i := 7) (v := .int .i64 (q + 1)) rfl ?_ ⟨NB.out, HU.out⟩ ?_
  ·intro w hSw
   go_simp
   rw [IntKind.wrap_i64]
   (try omega)
  (try simp only [Act.put, sq])
  refine rdH 8 rfl fun K hK => ?_
  go_simp
  refine (IH.at_ (q + 1) HW1.out.1 HW1.out.2 HR1.out (HM1.out.belowB HU.out) WT.out hB0 h7 (HE.out.below HU.out h7) (by (try simp only [ln] at hl); (try simp only [ln]); omega)).mono ?_
  rintro e w6 ⟨rfl, hw, hb, hs⟩
  replace WT := hid hw
  replace NB := st hs NB HNENB
  replace HU := hid (HU.out.trans hb)
  replace HS := hid (HS.out.trans hs)
  replace hB0 := Nat.le_trans hB0 hb.size
  clear hw hb hs
  refine hK.out _ _ ⟨NB.out, HU.out⟩ (fun hHeld => ?_)
  clear hK hHeld K
  (try simp only [Act.put, sq])
  refine wpAnyH_done (by kernel_rfl) ?_ _
  go_wp2
  go_end0
  exact ⟨rfl, by rw [HWR.out]; simpa [List.append_assoc] using WT.out, HU.out, HS.out⟩
set_option maxRecDepth 100000 in
set_option maxHeartbeats 4000000 in
theorem ex_w {N : Nat} (IH : Wall N) (FS : ∀ {n : Pars.Node} {cs : Array Value} {w : World} {B wb : Nat} {l : List UInt8}, Wri.wg n ≤ N + 1 → Wri.wg n ≤ 1048576 → Ri n → NodeAt w (fun g => g < B) n cs → Wt B wb l w → B ≤ w.heap.size → 7 ≤ B → EnvW w → l.length + (Wri.wr n .fst).length ≤ 70368744177664 → Calls Tryz.prog 96 #[.pointer (some ⟨wb, 0, none⟩), .agg cs] w (WOut B wb l (Wri.wr n .fst) w)) : ∀ {n : Pars.Node} {cs : Array Value} {w : World} {B wb : Nat} {l : List UInt8}, Wri.wg n ≤ N + 1 → Wri.wg n ≤ 1048576 → Ri n → NodeAt w (fun g => g < B) n cs → Wt B wb l w → B ≤ w.heap.size → 7 ≤ B → EnvW w → l.length + (Wri.wr n .ex).length ≤ 70368744177664 → Calls Tryz.prog 87 #[.pointer (some ⟨wb, 0, none⟩), .agg cs] w (WOut B wb l (Wri.wr n .ex) w) := by
 intro n cs w B wb l hN hM hR hn hW hBw h7 he hl
 obtain ⟨k, nu, t, kl⟩ := n
 have hn0 := hn
 unfold NodeAt at hn
 obtain ⟨A, cap, css, rfl, hc1, hc2, hrow, hk⟩ := hn
 have HROW := hid hrow
 have HK := hid hk
 have HN := hid hn0
 have HE := hid he
 have hwlt := hW.lt
 have hll := Wri.wgs_len kl
 clear hrow hk hn0 he
 by_cases y19 : k = 19
 ·subst y19
  have hlen : kl.length = 2 := (ri_len hR).1 (by simp)
  obtain ⟨x0, hx0⟩ : ∃ x, kl[0]? = some x := ⟨_, List.getElem?_eq_getElem (by omega)⟩
  obtain ⟨x1, hx1⟩ : ∃ x, kl[1]? = some x := ⟨_, List.getElem?_eq_getElem (by omega)⟩
  obtain ⟨g0, o0, rfl, hg0, _, _⟩ := HROW.out (by omega)
  obtain ⟨b0, c0, d0, hn0, hc0⟩ := kid4 HK.out HROW.out hx0
  have HN0 := hid hn0
  have HC0 := hid hc0
  have HX0 := hid hx0
  have HR0 := hid (ri_kid hR x0 (List.mem_of_getElem? hx0))
  have hxw0 := Wri.wg_mem (List.mem_of_getElem? hx0)
  have HW0 : Hid (Wri.wg x0 ≤ N ∧ Wri.wg x0 ≤ 1048576) := hid (by simp only [Wri.wg] at hN hM; exact ⟨by omega, by omega⟩)
  clear hn0 hc0 hx0 hxw0
  obtain ⟨b1, c1, d1, hn1, hc1⟩ := kid4 HK.out HROW.out hx1
  have HN1 := hid hn1
  have HC1 := hid hc1
  have HX1 := hid hx1
  have HR1 := hid (ri_kid hR x1 (List.mem_of_getElem? hx1))
  have hxw1 := Wri.wg_mem (List.mem_of_getElem? hx1)
  have HW1 : Hid (Wri.wg x1 ≤ N ∧ Wri.wg x1 ≤ 1048576) := hid (by simp only [Wri.wg] at hN hM; exact ⟨by omega, by omega⟩)
  clear hn1 hc1 hx1 hxw1
  rw [wr_ex19 nu t kl x0 x1 HX0.out HX1.out] at hl
  go_enter Tryz.func87, Tryz.ntmps87
  go_upto_region 1 with fail
  refine gen_world (F := fun W => Box W w.heap.size 24 (nc 19 nu t (.slice (some ⟨g0, o0, none⟩) 2 cap)) ∧ Below w.heap.size w W) ⟨Box.new w _ _, below1 w _⟩ ?_
  rintro W0 ⟨b0, hU⟩
  have NB := hid b0
  have WT := hid (hW.below hU)
  have HU : Hid (Below B w W0) := hid (hU.mono hBw)
  have HS : Hid (Stays wb w W0) := hid (Stays.below hU)
  have hB0 : B ≤ W0.heap.size := Nat.le_trans hBw hU.size
  have hnw : w.heap.size ≠ wb := by omega
  have hbx := Nat.lt_of_lt_of_le b0.lt (Nat.le_refl _)
  clear b0 hU
  have HNENB := hid hnw
  have c0 := NB.out.cell 0
  simp [nc] at c0
  obtain ⟨k0, k1, k2, k3⟩ := HC0.out W0 HU.out
  simp at k0 k1 k2 k3
  have c3 := NB.out.cell 3
  simp [nc] at c3
  go_wp2_with fail
  refine (IH.at_ 7 HW0.out.1 HW0.out.2 HR0.out (HN0.out.belowB HU.out) WT.out hB0 h7 (HE.out.below HU.out h7) (by (try simp only [ln] at hl); (try simp only [ln]); omega)).mono ?_
  rintro e w1 ⟨rfl, hw, hb, hs⟩
  clear k0 k1 k2 k3 c3
  replace WT := hid hw
  replace NB := st hs NB HNENB
  replace HU := hid (HU.out.trans hb)
  replace HS := hid (HS.out.trans hs)
  replace hB0 := Nat.le_trans hB0 hb.size
  clear hw hb hs
  clear c0
  go_wp2_with fail
  refine (wstr B wb (l ++ Wri.wr x0 (.at 7)) [32, 61, 32] _ WT.out (by (try simp only [ln] at hl); (try simp only [ln]); omega) hB0).mono ?_
  rintro e w2 ⟨⟨v, rfl⟩, hw, hb, hs⟩
  replace WT := hid hw
  replace NB := st hs NB HNENB
  replace HU := hid (HU.out.trans hb)
  replace HS := hid (HS.out.trans hs)
  replace hB0 := Nat.le_trans hB0 hb.size
  clear hw hb hs
  obtain ⟨k0, k1, k2, k3⟩ := HC1.out w2 HU.out
  have kk0 : w2.cell? ⟨g0, o0 + 4, none⟩ = some (.int .i64 x1.kind) := by simpa [Nat.add_assoc] using k0
  have kk1 : w2.cell? ⟨g0, o0 + 5, none⟩ = some b1 := by simpa [Nat.add_assoc] using k1
  have kk2 : w2.cell? ⟨g0, o0 + 6, none⟩ = some c1 := by simpa [Nat.add_assoc] using k2
  have kk3 : w2.cell? ⟨g0, o0 + 7, none⟩ = some d1 := by simpa [Nat.add_assoc] using k3
  have c3 := NB.out.cell 3
  simp [nc] at c3
  go_wp2_with fail
  refine (IH.any HW1.out.1 HW1.out.2 HR1.out (HN1.out.belowB HU.out) WT.out hB0 h7 (HE.out.below HU.out h7) (by (try simp only [ln] at hl); (try simp only [ln]); omega)).mono ?_
  rintro e w3 ⟨rfl, hw, hb, hs⟩
  clear k0 k1 k2 k3 kk0 kk1 kk2 kk3 c3
  replace WT := hid hw
  replace NB := st hs NB HNENB
  replace HU := hid (HU.out.trans hb)
  replace HS := hid (HS.out.trans hs)
  replace hB0 := Nat.le_trans hB0 hb.size
  clear hw hb hs
  go_wp2
  go_end0
  exact ⟨rfl, by rw [wr_ex19 nu t kl x0 x1 HX0.out HX1.out]; simpa [List.append_assoc] using WT.out, HU.out, HS.out⟩
 by_cases y18 : k = 18
 ·subst y18
  have hlen : kl.length = 3 := (ri_len hR).2.1 rfl
  obtain ⟨x0, hx0⟩ : ∃ x, kl[0]? = some x := ⟨_, List.getElem?_eq_getElem (by omega)⟩
  obtain ⟨x1, hx1⟩ : ∃ x, kl[1]? = some x := ⟨_, List.getElem?_eq_getElem (by omega)⟩
  obtain ⟨x2, hx2⟩ : ∃ x, kl[2]? = some x := ⟨_, List.getElem?_eq_getElem (by omega)⟩
  obtain ⟨g0, o0, rfl, hg0, _, _⟩ := HROW.out (by omega)
  obtain ⟨b0, c0, d0, hn0, hc0⟩ := kid4 HK.out HROW.out hx0
  have HN0 := hid hn0
  have HC0 := hid hc0
  have HX0 := hid hx0
  have HR0 := hid (ri_kid hR x0 (List.mem_of_getElem? hx0))
  have hxw0 := Wri.wg_mem (List.mem_of_getElem? hx0)
  have HW0 : Hid (Wri.wg x0 ≤ N ∧ Wri.wg x0 ≤ 1048576) := hid (by simp only [Wri.wg] at hN hM; exact ⟨by omega, by omega⟩)
  clear hn0 hc0 hx0 hxw0
  obtain ⟨b1, c1, d1, hn1, hc1⟩ := kid4 HK.out HROW.out hx1
  have HN1 := hid hn1
  have HC1 := hid hc1
  have HX1 := hid hx1
  have HR1 := hid (ri_kid hR x1 (List.mem_of_getElem? hx1))
  have hxw1 := Wri.wg_mem (List.mem_of_getElem? hx1)
  have HW1 : Hid (Wri.wg x1 ≤ N ∧ Wri.wg x1 ≤ 1048576) := hid (by simp only [Wri.wg] at hN hM; exact ⟨by omega, by omega⟩)
  clear hn1 hc1 hx1 hxw1
  obtain ⟨b2, c2, d2, hn2, hc2⟩ := kid4 HK.out HROW.out hx2
  have HN2 := hid hn2
  have HC2 := hid hc2
  have HX2 := hid hx2
  have HR2 := hid (ri_kid hR x2 (List.mem_of_getElem? hx2))
  have hxw2 := Wri.wg_mem (List.mem_of_getElem? hx2)
  have HW2 : Hid (Wri.wg x2 ≤ N ∧ Wri.wg x2 ≤ 1048576) := hid (by simp only [Wri.wg] at hN hM; exact ⟨by omega, by omega⟩)
  clear hn2 hc2 hx2 hxw2
  rw [wr_ex18 nu t kl x0 x1 x2 HX0.out HX1.out HX2.out] at hl
  go_enter Tryz.func87, Tryz.ntmps87
  go_upto_region 1 with fail
  refine gen_world (F := fun W => Box W w.heap.size 24 (nc 18 nu t (.slice (some ⟨g0, o0, none⟩) 3 cap)) ∧ Below w.heap.size w W) ⟨Box.new w _ _, below1 w _⟩ ?_
  rintro W0 ⟨b0, hU⟩
  have NB := hid b0
  have WT := hid (hW.below hU)
  have HU : Hid (Below B w W0) := hid (hU.mono hBw)
  have HS : Hid (Stays wb w W0) := hid (Stays.below hU)
  have hB0 : B ≤ W0.heap.size := Nat.le_trans hBw hU.size
  have hnw : w.heap.size ≠ wb := by omega
  have hbx := Nat.lt_of_lt_of_le b0.lt (Nat.le_refl _)
  clear b0 hU
  have HNENB := hid hnw
  have c0 := NB.out.cell 0
  simp [nc] at c0
  obtain ⟨k0, k1, k2, k3⟩ := HC0.out W0 HU.out
  simp at k0 k1 k2 k3
  have c3 := NB.out.cell 3
  simp [nc] at c3
  go_wp2_with fail
  refine (IH.at_ 0 HW0.out.1 HW0.out.2 HR0.out (HN0.out.belowB HU.out) WT.out hB0 h7 (HE.out.below HU.out h7) (by (try simp only [ln] at hl); (try simp only [ln]); omega)).mono ?_
  rintro e w1 ⟨rfl, hw, hb, hs⟩
  clear k0 k1 k2 k3 c3
  replace WT := hid hw
  replace NB := st hs NB HNENB
  replace HU := hid (HU.out.trans hb)
  replace HS := hid (HS.out.trans hs)
  replace hB0 := Nat.le_trans hB0 hb.size
  clear hw hb hs
  clear c0
  go_wp2_with fail
  refine (wstr B wb (l ++ Wri.wr x0 (.at 0)) [32, 63, 32] _ WT.out (by (try simp only [ln] at hl); (try simp only [ln]); omega) hB0).mono ?_
  rintro e w2 ⟨⟨v, rfl⟩, hw, hb, hs⟩
  replace WT := hid hw
  replace NB := st hs NB HNENB
  replace HU := hid (HU.out.trans hb)
  replace HS := hid (HS.out.trans hs)
  replace hB0 := Nat.le_trans hB0 hb.size
  clear hw hb hs
  obtain ⟨k0, k1, k2, k3⟩ := HC1.out w2 HU.out
  have kk0 : w2.cell? ⟨g0, o0 + 4, none⟩ = some (.int .i64 x1.kind) := by simpa [Nat.add_assoc] using k0
  have kk1 : w2.cell? ⟨g0, o0 + 5, none⟩ = some b1 := by simpa [Nat.add_assoc] using k1
  have kk2 : w2.cell? ⟨g0, o0 + 6, none⟩ = some c1 := by simpa [Nat.add_assoc] using k2
  have kk3 : w2.cell? ⟨g0, o0 + 7, none⟩ = some d1 := by simpa [Nat.add_assoc] using k3
  have c3 := NB.out.cell 3
  simp [nc] at c3
  go_wp2_with fail
  refine (IH.any HW1.out.1 HW1.out.2 HR1.out (HN1.out.belowB HU.out) WT.out hB0 h7 (HE.out.below HU.out h7) (by (try simp only [ln] at hl); (try simp only [ln]); omega)).mono ?_
  rintro e w3 ⟨rfl, hw, hb, hs⟩
  clear k0 k1 k2 k3 kk0 kk1 kk2 kk3 c3
  replace WT := hid hw
  replace NB := st hs NB HNENB
  replace HU := hid (HU.out.trans hb)
  replace HS := hid (HS.out.trans hs)
  replace hB0 := Nat.le_trans hB0 hb.size
  clear hw hb hs
  go_wp2_with fail
  refine (wstr B wb (l ++ Wri.wr x0 (.at 0) ++ [32, 63, 32] ++ Wri.wr x1 (.at (-2))) [32, 58, 32] _ WT.out (by (try simp only [ln] at hl); (try simp only [ln]); omega) hB0).mono ?_
  rintro e w4 ⟨⟨v, rfl⟩, hw, hb, hs⟩
  replace WT := hid hw
  replace NB := st hs NB HNENB
  replace HU := hid (HU.out.trans hb)
  replace HS := hid (HS.out.trans hs)
  replace hB0 := Nat.le_trans hB0 hb.size
  clear hw hb hs
  obtain ⟨k0, k1, k2, k3⟩ := HC2.out w4 HU.out
  have kk0 : w4.cell? ⟨g0, o0 + 8, none⟩ = some (.int .i64 x2.kind) := by simpa [Nat.add_assoc] using k0
  have kk1 : w4.cell? ⟨g0, o0 + 9, none⟩ = some b2 := by simpa [Nat.add_assoc] using k1
  have kk2 : w4.cell? ⟨g0, o0 + 10, none⟩ = some c2 := by simpa [Nat.add_assoc] using k2
  have kk3 : w4.cell? ⟨g0, o0 + 11, none⟩ = some d2 := by simpa [Nat.add_assoc] using k3
  have c3 := NB.out.cell 3
  simp [nc] at c3
  go_wp2_with fail
  refine (IH.any HW2.out.1 HW2.out.2 HR2.out (HN2.out.belowB HU.out) WT.out hB0 h7 (HE.out.below HU.out h7) (by (try simp only [ln] at hl); (try simp only [ln]); omega)).mono ?_
  rintro e w5 ⟨rfl, hw, hb, hs⟩
  clear k0 k1 k2 k3 kk0 kk1 kk2 kk3 c3
  replace WT := hid hw
  replace NB := st hs NB HNENB
  replace HU := hid (HU.out.trans hb)
  replace HS := hid (HS.out.trans hs)
  replace hB0 := Nat.le_trans hB0 hb.size
  clear hw hb hs
  go_wp2
  go_end0
  exact ⟨rfl, by rw [wr_ex18 nu t kl x0 x1 x2 HX0.out HX1.out HX2.out]; simpa [List.append_assoc] using WT.out, HU.out, HS.out⟩
 by_cases y17 : k = 17
 ·subst y17
  exact exb_w IH 17 (by omega) hN hM hR HN.out hW hBw h7 HE.out hl
 by_cases y16 : k = 16
 ·subst y16
  exact exb_w IH 16 (by omega) hN hM hR HN.out hW hBw h7 HE.out hl
 by_cases y15 : k = 15
 ·subst y15
  exact exb_w IH 15 (by omega) hN hM hR HN.out hW hBw h7 HE.out hl
 by_cases y14 : k = 14
 ·subst y14
  have hlen : kl.length = 1 := (ri_len hR).2.2.1 (by simp)
  obtain ⟨x0, hx0⟩ : ∃ x, kl[0]? = some x := ⟨_, List.getElem?_eq_getElem (by omega)⟩
  obtain ⟨g0, o0, rfl, hg0, _, _⟩ := HROW.out (by omega)
  obtain ⟨b0, c0, d0, hn0, hc0⟩ := kid4 HK.out HROW.out hx0
  have HN0 := hid hn0
  have HC0 := hid hc0
  have HX0 := hid hx0
  have HR0 := hid (ri_kid hR x0 (List.mem_of_getElem? hx0))
  have hxw0 := Wri.wg_mem (List.mem_of_getElem? hx0)
  have HW0 : Hid (Wri.wg x0 ≤ N ∧ Wri.wg x0 ≤ 1048576) := hid (by simp only [Wri.wg] at hN hM; exact ⟨by omega, by omega⟩)
  clear hn0 hc0 hx0 hxw0
  rw [wr_ex14 nu t kl x0 HX0.out] at hl
  go_enter Tryz.func87, Tryz.ntmps87
  go_upto_region 1 with fail
  refine gen_world (F := fun W => Box W w.heap.size 24 (nc 14 nu t (.slice (some ⟨g0, o0, none⟩) 1 cap)) ∧ Below w.heap.size w W) ⟨Box.new w _ _, below1 w _⟩ ?_
  rintro W0 ⟨b0, hU⟩
  have NB := hid b0
  have WT := hid (hW.below hU)
  have HU : Hid (Below B w W0) := hid (hU.mono hBw)
  have HS : Hid (Stays wb w W0) := hid (Stays.below hU)
  have hB0 : B ≤ W0.heap.size := Nat.le_trans hBw hU.size
  have hnw : w.heap.size ≠ wb := by omega
  have hbx := Nat.lt_of_lt_of_le b0.lt (Nat.le_refl _)
  clear b0 hU
  have HNENB := hid hnw
  have c0 := NB.out.cell 0
  simp [nc] at c0
  have c2 := NB.out.cell 2
  simp [nc] at c2
  go_upto_region 20 with fail
  go_wp2
  go_still_tail 5, (by kernel_rfl)
  change wpList _ _ _ _ _ W0.drew
  have hdr : Below W0.heap.size W0 W0.drew := Below.drew (Below.refl _ _)
  have hdz : W0.drew.heap.size = W0.heap.size := rfl
  obtain ⟨wd, hwd⟩ : ∃ wd, W0.drew = wd := ⟨_, rfl⟩
  rw [hwd] at hdr hdz ⊢
  replace WT := hid (WT.out.below hdr)
  replace NB := bl NB hdr
  replace HU := hid (HU.out.trans (hdr.mono hB0))
  replace HS := hid (HS.out.trans (Stays.below hdr))
  have hB1 : B ≤ wd.heap.size := by omega
  clear hB0
  have hB0 := hB1
  clear hdr hdz hwd
  clear c0 c2
  go_wp2_with fail
  refine (wstr B wb l t _ WT.out (by (try simp only [ln] at hl); (try simp only [ln]); omega) hB0).mono ?_
  rintro e w1 ⟨⟨v, rfl⟩, hw, hb, hs⟩
  replace WT := hid hw
  replace NB := st hs NB HNENB
  replace HU := hid (HU.out.trans hb)
  replace HS := hid (HS.out.trans hs)
  replace hB0 := Nat.le_trans hB0 hb.size
  clear hw hb hs
  obtain ⟨k0, k1, k2, k3⟩ := HC0.out w1 HU.out
  simp at k0 k1 k2 k3
  have c3 := NB.out.cell 3
  simp [nc] at c3
  go_wp2_with fail
  refine (IH.at_ 6 HW0.out.1 HW0.out.2 HR0.out (HN0.out.belowB HU.out) WT.out hB0 h7 (HE.out.below HU.out h7) (by (try simp only [ln] at hl); (try simp only [ln]); omega)).mono ?_
  rintro e w2 ⟨rfl, hw, hb, hs⟩
  clear k0 k1 k2 k3 c3
  replace WT := hid hw
  replace NB := st hs NB HNENB
  replace HU := hid (HU.out.trans hb)
  replace HS := hid (HS.out.trans hs)
  replace hB0 := Nat.le_trans hB0 hb.size
  clear hw hb hs
  go_wp2
  go_end0
  exact ⟨rfl, by rw [wr_ex14 nu t kl x0 HX0.out]; simpa [List.append_assoc] using WT.out, HU.out, HS.out⟩
 by_cases y11 : k = 11
 ·subst y11
  have hlen := (ri_len hR).2.2.2.1 rfl
  obtain ⟨x0, hx0⟩ : ∃ x, kl[0]? = some x := ⟨_, List.getElem?_eq_getElem (by omega)⟩
  obtain ⟨g0, o0, rfl, hg0, _, _⟩ := HROW.out (by omega)
  obtain ⟨b0, c0, d0, hn0, hc0⟩ := kid4 HK.out HROW.out hx0
  have HN0 := hid hn0
  have HC0 := hid hc0
  have HX0 := hid hx0
  have HR0 := hid (ri_kid hR x0 (List.mem_of_getElem? hx0))
  have hxw0 := Wri.wg_mem (List.mem_of_getElem? hx0)
  have HW0 : Hid (Wri.wg x0 ≤ N ∧ Wri.wg x0 ≤ 1048576) := hid (by simp only [Wri.wg] at hN hM; exact ⟨by omega, by omega⟩)
  clear hn0 hc0 hx0 hxw0
  rw [wr_ex11 nu t kl x0 HX0.out] at hl
  have hklm : kl.length ≤ 1048576 := by simp only [Wri.wg] at hM; omega
  have HXW : Hid (∀ x, x ∈ kl.drop 1 → Wri.wg x ≤ N ∧ Wri.wg x ≤ 1048576) := hid (fun x hxm => by have := Wri.wg_mem (List.mem_of_mem_drop hxm); simp only [Wri.wg] at hN hM; exact ⟨by omega, by omega⟩)
  obtain ⟨LS, hLS⟩ : ∃ s, Wri.listed [40] [41] ((kl.drop 1).map fun x => Wri.wr x (.at (-2))) = s := ⟨_, rfl⟩
  rw [hLS] at hl
  have HLS := hid hLS
  clear hLS
  obtain ⟨n, hn⟩ : ∃ n, kl.length = n + 1 := ⟨kl.length - 1, by omega⟩
  have HLN : Hid ((kl.drop 1).length = n) := hid (by rw [List.length_drop]; omega)
  have hnm : n ≤ 1048576 := by omega
  have hncap : n + 1 ≤ cap := by omega
  have HKD : Hid (∀ W0, Below B w W0 → ∀ (j : Nat) (x : Pars.Node), (kl.drop 1)[j]? = some x → ∃ xc g o, (some ⟨g0, o0 + 4, none⟩ : Option Addr) = some ⟨g, o, none⟩ ∧ g < B ∧ xc.size = 4 ∧ NodeAt W0 (fun g => g < B) x xc ∧ ∀ W, Below B W0 W → W.rangeAt g (o + j * 4) xc.toList) := hid (fun W0 hU j x hx => by
   rw [List.getElem?_drop] at hx
   obtain ⟨xc, g, o, h1, h2, h3, h4, h5⟩ := kid_at HK.out HROW.out hx
   injection h1 with h1
   injection h1 with e1 e2
   subst e1 e2
   refine ⟨xc, g0, o0 + 4, rfl, h2, h3, h4.belowB hU, fun W hW => ?_⟩
   have := h5 W (hU.trans hW)
   rwa [show o0 + (1 + j) * 4 = o0 + 4 + j * 4 by omega] at this)
  have hnz : (0 : Int) < ((n + 1 : Nat) : Int) := by omega
  have hnz2 : decide ((0 : Int) < ((n + 1 : Nat) : Int)) = true := decide_eq_true hnz
  have hnz3 : 0 < n + 1 := by omega
  rw [hn] at hc1 hll hklm ⊢
  clear hn hlen
  go_enter Tryz.func87, Tryz.ntmps87
  go_upto_region 1 with fail
  refine gen_world (F := fun W => Box W w.heap.size 24 (nc 11 nu t (.slice (some ⟨g0, o0, none⟩) (n + 1) cap)) ∧ Below w.heap.size w W) ⟨Box.new w _ _, below1 w _⟩ ?_
  rintro W0 ⟨b0, hU⟩
  have NB := hid b0
  have WT := hid (hW.below hU)
  have HU : Hid (Below B w W0) := hid (hU.mono hBw)
  have HS : Hid (Stays wb w W0) := hid (Stays.below hU)
  have hB0 : B ≤ W0.heap.size := Nat.le_trans hBw hU.size
  have hnw : w.heap.size ≠ wb := by omega
  have hbx := Nat.lt_of_lt_of_le b0.lt (Nat.le_refl _)
  clear b0 hU
  have HNENB := hid hnw
  have c0 := NB.out.cell 0
  simp [nc] at c0
  obtain ⟨k0, k1, k2, k3⟩ := HC0.out W0 HU.out
  simp at k0 k1 k2 k3
  have c3 := NB.out.cell 3
  simp [nc] at c3
  go_wp2_with fail
  refine (IH.at_ 7 HW0.out.1 HW0.out.2 HR0.out (HN0.out.belowB HU.out) WT.out hB0 h7 (HE.out.below HU.out h7) (by (try simp only [ln] at hl); (try simp only [ln]); omega)).mono ?_
  rintro e w1 ⟨rfl, hw, hb, hs⟩
  clear k0 k1 k2 k3 c3
  replace WT := hid hw
  replace NB := st hs NB HNENB
  replace HU := hid (HU.out.trans hb)
  replace HS := hid (HS.out.trans hs)
  replace hB0 := Nat.le_trans hB0 hb.size
  clear hw hb hs
  clear c0 hnz hnz2 hnz3
  have c3 := NB.out.cell 3
  simp [nc] at c3
  have h1c : (1 : Int) ≤ (cap : Int) := by omega
  have h2c : (n : Int) + 1 ≤ (cap : Int) := by omega
  have h3c : (1 : Int) ≤ (n : Int) + 1 := by omega
  go_upto_region 24 with fail
  by_cases hcap : cap = 1
  ·obtain rfl : n = 0 := by omega
   subst hcap
   go_wp2_with fail
   have hlist := list_b (fun x => Wri.wr x (.at (-2))) 32 (fun _ _ => rfl) (w := w1) (B := B) (wb := wb) (pb := 0) (xs := kl.drop 1) (A := some ⟨g0, o0, none⟩) (cap := 0) (o := [40]) (c := [41]) (l := l ++ Wri.wr x0 (.at 7)) (fun x hxm xc W l' hnx hWx hBx heX hlx => IH.any (HXW.out x hxm).1 (HXW.out x hxm).2 (ri_kid hR x (List.mem_of_mem_drop hxm)) hnx hWx hBx h7 heX hlx) (fun j x hx => by have h0 := HLN.out; have h1 := (List.getElem?_eq_some_iff.1 hx).1; omega) (by rw [HLN.out]; omega) WT.out hB0 h7 (HE.out.below HU.out h7) (by rw [HLS.out]; exact by (try simp only [ln] at hl); (try simp only [ln]); omega)
   rw [HLN.out, HLS.out] at hlist
   refine hlist.mono ?_
   clear hlist
   rintro e w2 ⟨rfl, hw, hb, hs⟩
   go_wp2
   go_end0
   exact ⟨rfl, by rw [wr_ex11 nu t kl x0 HX0.out, HLS.out]; simpa [List.append_assoc] using hw, HU.out.trans hb, HS.out.trans hs⟩
  ·go_wp2_with fail
   have hlist := list_b (fun x => Wri.wr x (.at (-2))) 32 (fun _ _ => rfl) (w := w1) (B := B) (wb := wb) (pb := 0) (xs := kl.drop 1) (A := some ⟨g0, o0 + 4, none⟩) (cap := (cap - 1)) (o := [40]) (c := [41]) (l := l ++ Wri.wr x0 (.at 7)) (fun x hxm xc W l' hnx hWx hBx heX hlx => IH.any (HXW.out x hxm).1 (HXW.out x hxm).2 (ri_kid hR x (List.mem_of_mem_drop hxm)) hnx hWx hBx h7 heX hlx) (HKD.out _ HU.out) (by rw [HLN.out]; omega) WT.out hB0 h7 (HE.out.below HU.out h7) (by rw [HLS.out]; exact by (try simp only [ln] at hl); (try simp only [ln]); omega)
   rw [HLN.out, HLS.out] at hlist
   refine hlist.mono ?_
   clear hlist
   rintro e w2 ⟨rfl, hw, hb, hs⟩
   go_wp2
   go_end0
   exact ⟨rfl, by rw [wr_ex11 nu t kl x0 HX0.out, HLS.out]; simpa [List.append_assoc] using hw, HU.out.trans hb, HS.out.trans hs⟩
 by_cases y12 : k = 12
 ·subst y12
  have hlen : kl.length = 2 := (ri_len hR).1 (by simp)
  obtain ⟨x0, hx0⟩ : ∃ x, kl[0]? = some x := ⟨_, List.getElem?_eq_getElem (by omega)⟩
  obtain ⟨x1, hx1⟩ : ∃ x, kl[1]? = some x := ⟨_, List.getElem?_eq_getElem (by omega)⟩
  obtain ⟨g0, o0, rfl, hg0, _, _⟩ := HROW.out (by omega)
  obtain ⟨b0, c0, d0, hn0, hc0⟩ := kid4 HK.out HROW.out hx0
  have HN0 := hid hn0
  have HC0 := hid hc0
  have HX0 := hid hx0
  have HR0 := hid (ri_kid hR x0 (List.mem_of_getElem? hx0))
  have hxw0 := Wri.wg_mem (List.mem_of_getElem? hx0)
  have HW0 : Hid (Wri.wg x0 ≤ N ∧ Wri.wg x0 ≤ 1048576) := hid (by simp only [Wri.wg] at hN hM; exact ⟨by omega, by omega⟩)
  clear hn0 hc0 hx0 hxw0
  obtain ⟨b1, c1, d1, hn1, hc1⟩ := kid4 HK.out HROW.out hx1
  have HN1 := hid hn1
  have HC1 := hid hc1
  have HX1 := hid hx1
  have HR1 := hid (ri_kid hR x1 (List.mem_of_getElem? hx1))
  have hxw1 := Wri.wg_mem (List.mem_of_getElem? hx1)
  have HW1 : Hid (Wri.wg x1 ≤ N ∧ Wri.wg x1 ≤ 1048576) := hid (by simp only [Wri.wg] at hN hM; exact ⟨by omega, by omega⟩)
  clear hn1 hc1 hx1 hxw1
  rw [wr_ex12 nu t kl x0 x1 HX0.out HX1.out] at hl
  go_enter Tryz.func87, Tryz.ntmps87
  go_upto_region 1 with fail
  refine gen_world (F := fun W => Box W w.heap.size 24 (nc 12 nu t (.slice (some ⟨g0, o0, none⟩) 2 cap)) ∧ Below w.heap.size w W) ⟨Box.new w _ _, below1 w _⟩ ?_
  rintro W0 ⟨b0, hU⟩
  have NB := hid b0
  have WT := hid (hW.below hU)
  have HU : Hid (Below B w W0) := hid (hU.mono hBw)
  have HS : Hid (Stays wb w W0) := hid (Stays.below hU)
  have hB0 : B ≤ W0.heap.size := Nat.le_trans hBw hU.size
  have hnw : w.heap.size ≠ wb := by omega
  have hbx := Nat.lt_of_lt_of_le b0.lt (Nat.le_refl _)
  clear b0 hU
  have HNENB := hid hnw
  have c0 := NB.out.cell 0
  simp [nc] at c0
  obtain ⟨k0, k1, k2, k3⟩ := HC0.out W0 HU.out
  simp at k0 k1 k2 k3
  have c3 := NB.out.cell 3
  simp [nc] at c3
  go_wp2_with fail
  refine (IH.at_ 7 HW0.out.1 HW0.out.2 HR0.out (HN0.out.belowB HU.out) WT.out hB0 h7 (HE.out.below HU.out h7) (by (try simp only [ln] at hl); (try simp only [ln]); omega)).mono ?_
  rintro e w1 ⟨rfl, hw, hb, hs⟩
  clear k0 k1 k2 k3 c3
  replace WT := hid hw
  replace NB := st hs NB HNENB
  replace HU := hid (HU.out.trans hb)
  replace HS := hid (HS.out.trans hs)
  replace hB0 := Nat.le_trans hB0 hb.size
  clear hw hb hs
  clear c0
  go_wp2_with fail
  refine (wbyte B wb (l ++ Wri.wr x0 (.at 7)) 91 _ WT.out (by (try simp only [ln] at hl); (try simp only [ln]); omega) hB0).mono ?_
  rintro e w2 ⟨rfl, hw, hb, hs⟩
  replace WT := hid hw
  replace NB := st hs NB HNENB
  replace HU := hid (HU.out.trans hb)
  replace HS := hid (HS.out.trans hs)
  replace hB0 := Nat.le_trans hB0 hb.size
  clear hw hb hs
  obtain ⟨k0, k1, k2, k3⟩ := HC1.out w2 HU.out
  have kk0 : w2.cell? ⟨g0, o0 + 4, none⟩ = some (.int .i64 x1.kind) := by simpa [Nat.add_assoc] using k0
  have kk1 : w2.cell? ⟨g0, o0 + 5, none⟩ = some b1 := by simpa [Nat.add_assoc] using k1
  have kk2 : w2.cell? ⟨g0, o0 + 6, none⟩ = some c1 := by simpa [Nat.add_assoc] using k2
  have kk3 : w2.cell? ⟨g0, o0 + 7, none⟩ = some d1 := by simpa [Nat.add_assoc] using k3
  have c3 := NB.out.cell 3
  simp [nc] at c3
  go_wp2_with fail
  refine (IH.any HW1.out.1 HW1.out.2 HR1.out (HN1.out.belowB HU.out) WT.out hB0 h7 (HE.out.below HU.out h7) (by (try simp only [ln] at hl); (try simp only [ln]); omega)).mono ?_
  rintro e w3 ⟨rfl, hw, hb, hs⟩
  clear k0 k1 k2 k3 kk0 kk1 kk2 kk3 c3
  replace WT := hid hw
  replace NB := st hs NB HNENB
  replace HU := hid (HU.out.trans hb)
  replace HS := hid (HS.out.trans hs)
  replace hB0 := Nat.le_trans hB0 hb.size
  clear hw hb hs
  go_wp2_with fail
  refine (wbyte B wb (l ++ Wri.wr x0 (.at 7) ++ [91] ++ Wri.wr x1 (.at (-2))) 93 _ WT.out (by (try simp only [ln] at hl); (try simp only [ln]); omega) hB0).mono ?_
  rintro e w4 ⟨rfl, hw, hb, hs⟩
  replace WT := hid hw
  replace NB := st hs NB HNENB
  replace HU := hid (HU.out.trans hb)
  replace HS := hid (HS.out.trans hs)
  replace hB0 := Nat.le_trans hB0 hb.size
  clear hw hb hs
  go_wp2
  go_end0
  exact ⟨rfl, by rw [wr_ex12 nu t kl x0 x1 HX0.out HX1.out]; simpa [List.append_assoc] using WT.out, HU.out, HS.out⟩
 by_cases y13 : k = 13
 ·subst y13
  have hlen : kl.length = 1 := (ri_len hR).2.2.1 (by simp)
  obtain ⟨x0, hx0⟩ : ∃ x, kl[0]? = some x := ⟨_, List.getElem?_eq_getElem (by omega)⟩
  obtain ⟨g0, o0, rfl, hg0, _, _⟩ := HROW.out (by omega)
  obtain ⟨b0, c0, d0, hn0, hc0⟩ := kid4 HK.out HROW.out hx0
  have HN0 := hid hn0
  have HC0 := hid hc0
  have HX0 := hid hx0
  have HR0 := hid (ri_kid hR x0 (List.mem_of_getElem? hx0))
  have hxw0 := Wri.wg_mem (List.mem_of_getElem? hx0)
  have HW0 : Hid (Wri.wg x0 ≤ N ∧ Wri.wg x0 ≤ 1048576) := hid (by simp only [Wri.wg] at hN hM; exact ⟨by omega, by omega⟩)
  clear hn0 hc0 hx0 hxw0
  rw [wr_ex13 nu t kl x0 HX0.out] at hl
  go_enter Tryz.func87, Tryz.ntmps87
  go_upto_region 1 with fail
  refine gen_world (F := fun W => Box W w.heap.size 24 (nc 13 nu t (.slice (some ⟨g0, o0, none⟩) 1 cap)) ∧ Below w.heap.size w W) ⟨Box.new w _ _, below1 w _⟩ ?_
  rintro W0 ⟨b0, hU⟩
  have NB := hid b0
  have WT := hid (hW.below hU)
  have HU : Hid (Below B w W0) := hid (hU.mono hBw)
  have HS : Hid (Stays wb w W0) := hid (Stays.below hU)
  have hB0 : B ≤ W0.heap.size := Nat.le_trans hBw hU.size
  have hnw : w.heap.size ≠ wb := by omega
  have hbx := Nat.lt_of_lt_of_le b0.lt (Nat.le_refl _)
  clear b0 hU
  have HNENB := hid hnw
  have c0 := NB.out.cell 0
  simp [nc] at c0
  obtain ⟨k0, k1, k2, k3⟩ := HC0.out W0 HU.out
  simp at k0 k1 k2 k3
  have c3 := NB.out.cell 3
  simp [nc] at c3
  go_wp2_with fail
  refine (IH.at_ 7 HW0.out.1 HW0.out.2 HR0.out (HN0.out.belowB HU.out) WT.out hB0 h7 (HE.out.below HU.out h7) (by (try simp only [ln] at hl); (try simp only [ln]); omega)).mono ?_
  rintro e w1 ⟨rfl, hw, hb, hs⟩
  clear k0 k1 k2 k3 c3
  replace WT := hid hw
  replace NB := st hs NB HNENB
  replace HU := hid (HU.out.trans hb)
  replace HS := hid (HS.out.trans hs)
  replace hB0 := Nat.le_trans hB0 hb.size
  clear hw hb hs
  clear c0
  have hts : (byt t).size ≤ 70368744177664 := by rw [byt_size]; simp only [List.length_append, List.length_cons] at hl; omega
  have hcc : ¬ 9223372036854775807 < 1 + (byt t).size := by omega
  have hg1 : (⟨#[46]⟩ : ByteArray).size = 1 := rfl
  have HPC : Hid ((⟨#[46]⟩ ++ byt t : ByteArray) = byt (46 :: t)) := hid (byt_append [46] t)
  have c2 := NB.out.cell 2
  simp [nc] at c2
  go_wp2
  go_still_tail 6, (by kernel_rfl)
  change wpList _ _ _ _ _ w1.drew
  have hdr : Below w1.heap.size w1 w1.drew := Below.drew (Below.refl _ _)
  have hdz : w1.drew.heap.size = w1.heap.size := rfl
  obtain ⟨wd, hwd⟩ : ∃ wd, w1.drew = wd := ⟨_, rfl⟩
  rw [hwd] at hdr hdz ⊢
  replace WT := hid (WT.out.below hdr)
  replace NB := bl NB hdr
  replace HU := hid (HU.out.trans (hdr.mono hB0))
  replace HS := hid (HS.out.trans (Stays.below hdr))
  have hB1 : B ≤ wd.heap.size := by omega
  clear hB0
  have hB0 := hB1
  clear hdr hdz hwd
  clear c2
  go_wp2_with fail
  rw [HPC.out]
  refine (wstr B wb (l ++ Wri.wr x0 (.at 7)) (46 :: t) _ WT.out (by (try simp only [ln] at hl); (try simp only [ln]); omega) hB0).mono ?_
  rintro e w2 ⟨⟨v, rfl⟩, hw, hb, hs⟩
  replace WT := hid hw
  replace NB := st hs NB HNENB
  replace HU := hid (HU.out.trans hb)
  replace HS := hid (HS.out.trans hs)
  replace hB0 := Nat.le_trans hB0 hb.size
  clear hw hb hs
  go_wp2
  go_end0
  exact ⟨rfl, by rw [wr_ex13 nu t kl x0 HX0.out]; simpa [List.append_assoc] using WT.out, HU.out, HS.out⟩
 have n19 : (k == 19) = false := bn y19
 have n18 : (k == 18) = false := bn y18
 have n17 : (k == 17) = false := bn y17
 have n16 : (k == 16) = false := bn y16
 have n15 : (k == 15) = false := bn y15
 have n14 : (k == 14) = false := bn y14
 have n11 : (k == 11) = false := bn y11
 have n12 : (k == 12) = false := bn y12
 have n13 : (k == 13) = false := bn y13
 have hl0 : Wri.wr (.mk k nu t kl) .ex = Wri.wr (.mk k nu t kl) .fst := by show Wri.wEx k nu t (Wri.wrs kl) = _; unfold Wri.wEx; rw [if_neg y19, if_neg y18, if_neg (by rintro (h | h | h) <;> contradiction), if_neg y14, if_neg y11, if_neg y12, if_neg y13]; rfl
 rw [hl0] at hl
 have INF : (Tryz.prog.info? 24).map (·.size) = some (nc k nu t (.slice A kl.length cap)).size := info_nod
 go_enter Tryz.func87, Tryz.ntmps87
 go_upto_region 1 with fail
 refine gen_world (F := fun W => Box W w.heap.size 24 (nc k nu t (.slice A kl.length cap)) ∧ Below w.heap.size w W) ⟨Box.new w _ _, below1 w _⟩ ?_
 rintro W0 ⟨b0, hU⟩
 have NB := hid b0
 have WT := hid (hW.below hU)
 have HU : Hid (Below B w W0) := hid (hU.mono hBw)
 have HS : Hid (Stays wb w W0) := hid (Stays.below hU)
 have hB0 : B ≤ W0.heap.size := Nat.le_trans hBw hU.size
 have hnw : w.heap.size ≠ wb := by omega
 have hbx := Nat.lt_of_lt_of_le b0.lt (Nat.le_refl _)
 clear b0 hU
 have HNENB := hid hnw
 have c0 := NB.out.cell 0
 simp [nc] at c0
 go_wp2_with (refine wpList_load_row rfl 24 (.tmp 3) rfl w.heap.size rfl _ (nc k nu t (.slice A kl.length cap)) (0, 0) _ NB.out Tryz.underlying24 rfl INF ?_)
 refine (FS hN hM hR (HN.out.belowB HU.out) WT.out hB0 h7 (HE.out.below HU.out h7) hl).mono ?_
 rintro e w2 ⟨rfl, hw, hb, hs⟩
 go_wp2
 go_end0
 exact ⟨rfl, by rw [hl0]; exact hw, HU.out.trans hb, HS.out.trans hs⟩
end Go.Proofs.YtonjdlialejedaaGreatDoor
