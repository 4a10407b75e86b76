/-
  Texts that the law leans on: PwX. Conditions: as each says.
-/
import Derived.Test.YtonjdlialejedaaGreatDoorXBf
import Derived.Test.YtonjdlialejedaaGreatDoorXBg
import Derived.Test.YtonjdlialejedaaGreatDoorXBh
import Derived.Test.YtonjdlialejedaaGreatDoorXAa
set_option linter.unusedSimpArgs false
set_option linter.unusedVariables false
namespace Go.Proofs.YtonjdlialejedaaGreatDoor
open Go.Lib (hid)
open Go.RowKit
theorem below_grow (w : World) (k : Nat) (os : Array Obj) : Below w.heap.size w (Go.Sort.grow (w.drewN k) os) := (below_drewN (Below.refl _ w) k).trans ⟨rfl, rfl, rfl, by simp [Go.Sort.grow], fun i hi => by have : i < (w.drewN k).heap.size := hi; simp [Go.Sort.grow]; exact Array.getElem?_append_left hi⟩
theorem wr_fst5 (nu : Int) (t : List UInt8) (l : List Pars.Node) : Wri.wr (.mk 5 nu t l) .fst = t := rfl
theorem wr_fst2 (nu : Int) (t : List UInt8) (l : List Pars.Node) : Wri.wr (.mk 2 nu t l) .fst = Lexy.quote t := rfl
theorem wr_fst6 (nu : Int) (t : List UInt8) (l : List Pars.Node) : Wri.wr (.mk 6 nu t l) .fst = Wri.listed [91] [93] (l.map fun x => Wri.wr x (.at (-2))) := by
 show Wri.listed [91] [93] ((Wri.wrs l).map (· (.at (-2)))) = _
 rw [Wri.wrs_map, List.map_map]; rfl
theorem wr_fst7 (nu : Int) (t : List UInt8) (l : List Pars.Node) : Wri.wr (.mk 7 nu t l) .fst = Wri.listed [123] [125] (l.map fun x => Wri.wr x .pair) := by
 show Wri.listed [123] [125] ((Wri.wrs l).map (· .pair)) = _
 rw [Wri.wrs_map, List.map_map]; rfl
theorem rights_one (c : UInt8) (k : Int) (fn lp : Bool) : ∀ (l : List Pars.Node) (i : Nat), Wri.rights [c] k fn lp i l = true → ∀ x ∈ l, Wri.sort x c = true
 | [], _, _, x, hx => by cases hx
 | y :: l, i, h, x, hx => by
  rw [rights_cons [c] k fn lp i y l c (by simp)] at h
  simp only [Bool.and_eq_true] at h
  rcases List.mem_cons.1 hx with rfl | hx
  ·exact h.1
  ·exact rights_one c k fn lp l (i + 1) h.2.2 x hx
theorem pair_kid {nu : Int} {t : List UInt8} {l : List Pars.Node} (h : Ri (.mk 7 nu t l)) : ∀ x ∈ l, 0 < x.kids.length := by
 intro x hx
 obtain ⟨a, b, hr⟩ := (ri_parts h).2.2.2
 have hb : Wri.bare (Wri.form 7 nu l.length).1 = [112] := by simp [Wri.form, Wri.plain]; decide
 rw [hb] at hr
 have hs := rights_one 112 7 a b l 0 hr x hx
 have h8 : x.kind = 8 := by simpa [Wri.sort] using hs
 have hri := ri_kid h x hx
 cases x with
 | mk k8 n8 t8 l8 =>
  have := (ri_len hri).2.2.1 (.inr (.inr (.inl h8)))
  show 0 < l8.length
  omega
theorem kids_all {w W0 : World} {B : Nat} {l : List Pars.Node} {css : List (Array Value)} {A : Option Addr} (hk : NodesAt w (fun g => g < B) l css) (hrow : 0 < l.length → ∃ g o, A = some ⟨g, o, none⟩ ∧ g < B ∧ g < w.heap.size ∧ w.rangeAt g o (flatA css)) (hU : Below B w W0) :
  ∀ (j : Nat) (x : Pars.Node), l[j]? = some x → ∃ xc g o, A = some ⟨g, o, none⟩ ∧ g < B ∧ xc.size = 4 ∧ NodeAt W0 (fun g => g < B) x xc ∧ ∀ W, Below B W0 W → W.rangeAt g (o + j * 4) xc.toList := by
 intro j x hx
 obtain ⟨xc, g, o, h1, h2, h3, h4, h5⟩ := kid_at hk hrow hx
 exact ⟨xc, g, o, h1, h2, h3, h4.belowB hU, fun W hW => h5 W (hU.trans hW)⟩
set_option maxRecDepth 100000 in
set_option maxHeartbeats 4000000 in
theorem first_w {N : Nat} (IH : Wall N) (FN : ∀ {n : Pars.Node} {cs : Array Value} {w : World} {B wb : Nat} {l : List UInt8}, Wri.wg n ≤ N + 1 → Wri.wg n ≤ 1048576 → Ri n → n.kind = 9 → NodeAt w (fun g => g < B) n cs → Wt B wb l w → B ≤ w.heap.size → 7 ≤ B → EnvW w → l.length + (Wri.wr n .fn).length ≤ 70368744177664 → Calls Tryz.prog 33 #[.pointer (some ⟨wb, 0, none⟩), .agg cs] w (WOut B wb l (Wri.wr n .fn) w)) : ∀ {n : Pars.Node} {cs : Array Value} {w : World} {B wb : Nat} {l : List UInt8}, Wri.wg n ≤ N + 1 → Wri.wg n ≤ 1048576 → Ri n → NodeAt w (fun g => g < B) n cs → Wt B wb l w → B ≤ w.heap.size → 7 ≤ B → EnvW w → l.length + (Wri.wr n .fst).length ≤ 70368744177664 → Calls Tryz.prog 96 #[.pointer (some ⟨wb, 0, none⟩), .agg cs] w (WOut B wb l (Wri.wr n .fst) w) := by
 intro n cs w B wb l hN hM hR hn hW hBw h7 he hl
 obtain ⟨k, nu, t, kl⟩ := n
 have hn0 := hn
 unfold NodeAt at hn
 obtain ⟨A, cap, css, rfl, hc1, hc2, hrow, hk⟩ := hn
 have HROW := hid hrow
 have HK := hid hk
 have HN := hid hn0
 have HE := hid he
 have hwlt := hW.lt
 have hll := Wri.wgs_len kl
 clear hrow hk hn0 he
 have HXW : Hid (∀ x, x ∈ kl → Wri.wg x ≤ N ∧ Wri.wg x ≤ 1048576) := hid (fun x hxm => by have := Wri.wg_mem hxm; simp only [Wri.wg] at hN hM; exact ⟨by omega, by omega⟩)
 have hklm : kl.length ≤ 1048576 := by simp only [Wri.wg] at hM; omega
 by_cases y1 : k = 1
 ·subst y1
  have hl2 : l.length + (Lib.itoa nu).length ≤ 70368744177664 := hl
  clear hl
  have hl := hl2
  clear hl2
  have hnu : 0 ≤ nu ∧ nu ≤ 9007199254740992 := by have h := (ri_parts hR).2.1; unfold Wri.fields at h; simp at h; omega
  have HQA : Hid (∀ W, EnvW W → Calls Tryz.prog 103 #[.int .i64 nu] W fun e w' => e = .returned (.string (byt (Lib.itoa nu))) ∧ Below W.heap.size W w') := hid (fun W hE => (Tryz.strconv_Itoa nu (by omega) (by omega) W hE.pow).mono (by rintro e w' ⟨rfl, k, os, rfl⟩; exact ⟨rfl, below_grow W k os⟩))
  clear hnu
  go_enter Tryz.func96, Tryz.ntmps96
  go_upto_region 1 with fail
  refine gen_world (F := fun W => Box W w.heap.size 79 #[.pointer (some ⟨wb, 0, none⟩)] ∧ Box W (w.heap.size + 1) 24 (nc 1 nu t (.slice A kl.length cap)) ∧ Below w.heap.size w W) ⟨(Box.new w _ _).alloc _, by have := Box.new (w.alloc (.cells #[.pointer (some ⟨wb, 0, none⟩)] 79 (0, 0))) 24 (nc 1 nu t (.slice A kl.length cap)); simpa using this, (below1 w _).alloc (by simp) _⟩ ?_
  rintro W0 ⟨p0, b0, hU⟩
  have PX := hid p0
  have NB := hid b0
  have WT := hid (hW.below hU)
  have HU : Hid (Below B w W0) := hid (hU.mono hBw)
  have HS : Hid (Stays wb w W0) := hid (Stays.below hU)
  have hB0 : B ≤ W0.heap.size := Nat.le_trans hBw hU.size
  have HPB : Hid (w.heap.size ≠ wb) := hid (by omega)
  have HNENB : Hid (w.heap.size + 1 ≠ wb) := hid (by omega)
  clear p0 b0 hU
  have c0 := NB.out.cell 0
  simp [nc] at c0
  go_upto_region 3 with fail
  clear c0
  refine wp_region_held_drew (S := fun w' => Box w' w.heap.size 79 #[.pointer (some ⟨wb, 0, none⟩)] ∧ Box w' (w.heap.size + 1) 24 (nc 1 nu t (.slice A kl.length cap))) (by kernel_rfl) ⟨PX.out.drew, NB.out.drew⟩ (fun hHeld => ?_)
  obtain ⟨wd, hwd⟩ : ∃ wd, W0.drew = wd := ⟨_, rfl⟩
  have hdr : Below W0.heap.size W0 wd := hwd ▸ (Below.refl _ W0).drew
  (try rw [hwd] at hHeld)
  (try rw [hwd])
  clear hwd hHeld
  replace WT := hid (WT.out.below hdr)
  replace PX := bl PX hdr
  replace NB := bl NB hdr
  replace HU := hid (HU.out.trans (hdr.mono hB0))
  replace HS := hid (HS.out.trans (Stays.below hdr))
  replace hB0 := Nat.le_trans hB0 hdr.size
  clear hdr
  refine tH (i := 0) (v := .pointer (some ⟨wb, 0, none⟩)) rfl ?_ ⟨PX.out, NB.out⟩ ?_
  ·intro w hSw
   have cq := hSw.1.cell 0
   simp at cq
   go_simp
  (try simp only [Act.put, sq])
  refine tH (i := 1) (v := ?_) rfl ?_ ⟨PX.out, NB.out⟩ ?_
  rotate_left
  ·intro w hSw
   go_simp
   try (with_reducible rfl)
  (try simp only [Act.put, sq])
  refine tH (i := 2) (v := ?_) rfl ?_ ⟨PX.out, NB.out⟩ ?_
  rotate_left
  ·intro w hSw
   go_simp
   try (with_reducible rfl)
  (try simp only [Act.put, sq])
  refine tH (i := 3) (v := ?_) rfl ?_ ⟨PX.out, NB.out⟩ ?_
  rotate_left
  ·intro w hSw
   go_simp
   try (with_reducible rfl)
  (try simp only [Act.put, sq])
  refine tH (i := 4) (v := .int .i64 nu) rfl ?_ ⟨PX.out, NB.out⟩ ?_
  ·intro w hSw
   have cq := hSw.2.cell 1
   simp [nc] at cq
   go_simp
  (try simp only [Act.put, sq])
  refine rdH 5 rfl fun K hK => ?_
  go_simp
  refine (HQA.out _ (HE.out.below HU.out h7)).mono ?_
  rintro e w1 ⟨rfl, hq⟩
  replace WT := hid (WT.out.below hq)
  replace PX := bl PX hq
  replace NB := bl NB hq
  replace HU := hid (HU.out.trans (hq.mono hB0))
  replace HS := hid (HS.out.trans (Stays.below hq))
  replace hB0 := Nat.le_trans hB0 hq.size
  clear hq
  refine hK.out _ _ ⟨PX.out, NB.out⟩ (fun hHeld => ?_)
  clear hK hHeld K
  (try simp only [Act.put, sq])
  refine rdH 6 rfl fun K hK => ?_
  go_simp
  refine (wstr B wb l (Lib.itoa nu) _ WT.out (by (try simp only [ln] at hl); (try simp only [ln]); omega) hB0).mono ?_
  rintro e w2 ⟨⟨v, rfl⟩, hw, hb, hs⟩
  replace PX := st hs PX HPB
  replace NB := st hs NB HNENB
  refine hK.out _ _ ⟨PX.out, NB.out⟩ (fun hHeld => ?_)
  clear hK hHeld K
  (try simp only [Act.put, sq])
  refine wpAnyH_done (by kernel_rfl) ?_ _
  go_wp2
  go_end0
  exact ⟨rfl, hw, HU.out.trans hb, HS.out.trans hs⟩
 by_cases y2 : k = 2
 ·subst y2
  rw [wr_fst2] at hl
  have hts : (byt t).size ≤ 1048576 := by rw [byt_size]; simp only [Wri.wg] at hM; omega
  have HQA := hid (fun W => Jl.quote_any (byt t) W hts)
  have HQE : Hid ((⟨(Lexy.quote (byt t).data.toList).toArray⟩ : ByteArray) = byt (Lexy.quote t)) := hid (by simp [byt])
  go_enter Tryz.func96, Tryz.ntmps96
  go_upto_region 1 with fail
  refine gen_world (F := fun W => Box W w.heap.size 79 #[.pointer (some ⟨wb, 0, none⟩)] ∧ Box W (w.heap.size + 1) 24 (nc 2 nu t (.slice A kl.length cap)) ∧ Below w.heap.size w W) ⟨(Box.new w _ _).alloc _, by have := Box.new (w.alloc (.cells #[.pointer (some ⟨wb, 0, none⟩)] 79 (0, 0))) 24 (nc 2 nu t (.slice A kl.length cap)); simpa using this, (below1 w _).alloc (by simp) _⟩ ?_
  rintro W0 ⟨p0, b0, hU⟩
  have PX := hid p0
  have NB := hid b0
  have WT := hid (hW.below hU)
  have HU : Hid (Below B w W0) := hid (hU.mono hBw)
  have HS : Hid (Stays wb w W0) := hid (Stays.below hU)
  have hB0 : B ≤ W0.heap.size := Nat.le_trans hBw hU.size
  have HPB : Hid (w.heap.size ≠ wb) := hid (by omega)
  have HNENB : Hid (w.heap.size + 1 ≠ wb) := hid (by omega)
  clear p0 b0 hU
  have c0 := NB.out.cell 0
  simp [nc] at c0
  go_upto_region 5 with fail
  clear c0
  refine wp_region_held_drew (S := fun w' => Box w' w.heap.size 79 #[.pointer (some ⟨wb, 0, none⟩)] ∧ Box w' (w.heap.size + 1) 24 (nc 2 nu t (.slice A kl.length cap))) (by kernel_rfl) ⟨PX.out.drew, NB.out.drew⟩ (fun hHeld => ?_)
  obtain ⟨wd, hwd⟩ : ∃ wd, W0.drew = wd := ⟨_, rfl⟩
  have hdr : Below W0.heap.size W0 wd := hwd ▸ (Below.refl _ W0).drew
  (try rw [hwd] at hHeld)
  (try rw [hwd])
  clear hwd hHeld
  replace WT := hid (WT.out.below hdr)
  replace PX := bl PX hdr
  replace NB := bl NB hdr
  replace HU := hid (HU.out.trans (hdr.mono hB0))
  replace HS := hid (HS.out.trans (Stays.below hdr))
  replace hB0 := Nat.le_trans hB0 hdr.size
  clear hdr
  refine tH (i := 0) (v := .pointer (some ⟨wb, 0, none⟩)) rfl ?_ ⟨PX.out, NB.out⟩ ?_
  ·intro w hSw
   have cq := hSw.1.cell 0
   simp at cq
   go_simp
  (try simp only [Act.put, sq])
  refine tH (i := 1) (v := ?_) rfl ?_ ⟨PX.out, NB.out⟩ ?_
  rotate_left
  ·intro w hSw
   go_simp
   try (with_reducible rfl)
  (try simp only [Act.put, sq])
  refine tH (i := 2) (v := ?_) rfl ?_ ⟨PX.out, NB.out⟩ ?_
  rotate_left
  ·intro w hSw
   go_simp
   try (with_reducible rfl)
  (try simp only [Act.put, sq])
  refine tH (i := 3) (v := ?_) rfl ?_ ⟨PX.out, NB.out⟩ ?_
  rotate_left
  ·intro w hSw
   go_simp
   try (with_reducible rfl)
  (try simp only [Act.put, sq])
  refine tH (i := 4) (v := .string (byt t)) rfl ?_ ⟨PX.out, NB.out⟩ ?_
  ·intro w hSw
   have cq := hSw.2.cell 2
   simp [nc] at cq
   go_simp
  (try simp only [Act.put, sq])
  refine rdH 5 rfl fun K hK => ?_
  go_simp
  refine (HQA.out _).mono ?_
  rintro e w1 ⟨rfl, hq⟩
  rw [HQE.out]
  replace WT := hid (WT.out.below hq)
  replace PX := bl PX hq
  replace NB := bl NB hq
  replace HU := hid (HU.out.trans (hq.mono hB0))
  replace HS := hid (HS.out.trans (Stays.below hq))
  replace hB0 := Nat.le_trans hB0 hq.size
  clear hq
  refine hK.out _ _ ⟨PX.out, NB.out⟩ (fun hHeld => ?_)
  clear hK hHeld K
  (try simp only [Act.put, sq])
  refine rdH 6 rfl fun K hK => ?_
  go_simp
  refine (wstr B wb l (Lexy.quote t) _ WT.out (by (try simp only [ln] at hl); (try simp only [ln]); omega) hB0).mono ?_
  rintro e w2 ⟨⟨v, rfl⟩, hw, hb, hs⟩
  replace PX := st hs PX HPB
  replace NB := st hs NB HNENB
  refine hK.out _ _ ⟨PX.out, NB.out⟩ (fun hHeld => ?_)
  clear hK hHeld K
  (try simp only [Act.put, sq])
  refine wpAnyH_done (by kernel_rfl) ?_ _
  go_wp2
  go_end0
  exact ⟨rfl, hw, HU.out.trans hb, HS.out.trans hs⟩
 by_cases y3 : k = 3
 ·subst y3
  have hnu : nu = 0 ∨ nu = 1 := by have h := (ri_parts hR).2.1; unfold Wri.fields at h; simp at h; omega
  rcases hnu with hnu | hnu
  ·subst hnu
   have hix : ∀ W : World, (Instr.index 140 (Value.agg #[Value.string ⟨#[102, 97, 108, 115, 101]⟩, Value.string ⟨#[116, 114, 117, 101]⟩]) (.int .i64 0)).run Tryz.prog W = .ok (Value.string ⟨#[102, 97, 108, 115, 101]⟩) W := fun W => rfl
   have hl2 : l.length + (Pars.wFalse : List UInt8).length ≤ 70368744177664 := hl
   clear hl
   have hl := hl2
   clear hl2
   go_enter Tryz.func96, Tryz.ntmps96
   go_upto_region 1 with fail
   refine gen_world (F := fun W => Box W w.heap.size 79 #[.pointer (some ⟨wb, 0, none⟩)] ∧ Box W (w.heap.size + 1) 24 (nc 3 0 t (.slice A kl.length cap)) ∧ Below w.heap.size w W) ⟨(Box.new w _ _).alloc _, by have := Box.new (w.alloc (.cells #[.pointer (some ⟨wb, 0, none⟩)] 79 (0, 0))) 24 (nc 3 0 t (.slice A kl.length cap)); simpa using this, (below1 w _).alloc (by simp) _⟩ ?_
   rintro W0 ⟨p0, b0, hU⟩
   have PX := hid p0
   have NB := hid b0
   have WT := hid (hW.below hU)
   have HU : Hid (Below B w W0) := hid (hU.mono hBw)
   have HS : Hid (Stays wb w W0) := hid (Stays.below hU)
   have hB0 : B ≤ W0.heap.size := Nat.le_trans hBw hU.size
   have HPB : Hid (w.heap.size ≠ wb) := hid (by omega)
   have HNENB : Hid (w.heap.size + 1 ≠ wb) := hid (by omega)
   clear p0 b0 hU
   have c0 := NB.out.cell 0
   simp [nc] at c0
   have cp := PX.out.cell 0
   simp at cp
   have c1 := NB.out.cell 1
   simp [nc] at c1
   go_upto_region 7 with fail
   go_wp2
   go_still_tail 7, (by kernel_rfl)
   change wpList _ _ _ _ _ W0.drew
   have hdr : Below W0.heap.size W0 W0.drew := Below.drew (Below.refl _ _)
   have hdz : W0.drew.heap.size = W0.heap.size := rfl
   obtain ⟨wd, hwd⟩ : ∃ wd, W0.drew = wd := ⟨_, rfl⟩
   rw [hwd] at hdr hdz ⊢
   replace WT := hid (WT.out.below hdr)
   replace NB := bl NB hdr
   replace PX := bl PX hdr
   replace HU := hid (HU.out.trans (hdr.mono hB0))
   replace HS := hid (HS.out.trans (Stays.below hdr))
   have hB1 : B ≤ wd.heap.size := by omega
   clear hB0
   have hB0 := hB1
   clear hdr hdz hwd
   clear c0 cp c1
   go_wp2_with fail
   refine (wstr B wb l Pars.wFalse _ WT.out (by (try simp only [ln] at hl); (try simp only [ln]); omega) hB0).mono ?_
   rintro e w2 ⟨⟨v, rfl⟩, hw, hb, hs⟩
   go_wp2
   go_end0
   exact ⟨rfl, hw, HU.out.trans hb, HS.out.trans hs⟩
  ·subst hnu
   have hix : ∀ W : World, (Instr.index 140 (Value.agg #[Value.string ⟨#[102, 97, 108, 115, 101]⟩, Value.string ⟨#[116, 114, 117, 101]⟩]) (.int .i64 1)).run Tryz.prog W = .ok (Value.string ⟨#[116, 114, 117, 101]⟩) W := fun W => rfl
   have hl2 : l.length + (Pars.wTrue : List UInt8).length ≤ 70368744177664 := hl
   clear hl
   have hl := hl2
   clear hl2
   go_enter Tryz.func96, Tryz.ntmps96
   go_upto_region 1 with fail
   refine gen_world (F := fun W => Box W w.heap.size 79 #[.pointer (some ⟨wb, 0, none⟩)] ∧ Box W (w.heap.size + 1) 24 (nc 3 1 t (.slice A kl.length cap)) ∧ Below w.heap.size w W) ⟨(Box.new w _ _).alloc _, by have := Box.new (w.alloc (.cells #[.pointer (some ⟨wb, 0, none⟩)] 79 (0, 0))) 24 (nc 3 1 t (.slice A kl.length cap)); simpa using this, (below1 w _).alloc (by simp) _⟩ ?_
   rintro W0 ⟨p0, b0, hU⟩
   have PX := hid p0
   have NB := hid b0
   have WT := hid (hW.below hU)
   have HU : Hid (Below B w W0) := hid (hU.mono hBw)
   have HS : Hid (Stays wb w W0) := hid (Stays.below hU)
   have hB0 : B ≤ W0.heap.size := Nat.le_trans hBw hU.size
   have HPB : Hid (w.heap.size ≠ wb) := hid (by omega)
   have HNENB : Hid (w.heap.size + 1 ≠ wb) := hid (by omega)
   clear p0 b0 hU
   have c0 := NB.out.cell 0
   simp [nc] at c0
   have cp := PX.out.cell 0
   simp at cp
   have c1 := NB.out.cell 1
   simp [nc] at c1
   go_upto_region 7 with fail
   go_wp2
   go_still_tail 7, (by kernel_rfl)
   change wpList _ _ _ _ _ W0.drew
   have hdr : Below W0.heap.size W0 W0.drew := Below.drew (Below.refl _ _)
   have hdz : W0.drew.heap.size = W0.heap.size := rfl
   obtain ⟨wd, hwd⟩ : ∃ wd, W0.drew = wd := ⟨_, rfl⟩
   rw [hwd] at hdr hdz ⊢
   replace WT := hid (WT.out.below hdr)
   replace NB := bl NB hdr
   replace PX := bl PX hdr
   replace HU := hid (HU.out.trans (hdr.mono hB0))
   replace HS := hid (HS.out.trans (Stays.below hdr))
   have hB1 : B ≤ wd.heap.size := by omega
   clear hB0
   have hB0 := hB1
   clear hdr hdz hwd
   clear c0 cp c1
   go_wp2_with fail
   refine (wstr B wb l Pars.wTrue _ WT.out (by (try simp only [ln] at hl); (try simp only [ln]); omega) hB0).mono ?_
   rintro e w2 ⟨⟨v, rfl⟩, hw, hb, hs⟩
   go_wp2
   go_end0
   exact ⟨rfl, hw, HU.out.trans hb, HS.out.trans hs⟩
 by_cases y4 : k = 4
 ·subst y4
  go_enter Tryz.func96, Tryz.ntmps96
  go_upto_region 1 with fail
  refine gen_world (F := fun W => Box W w.heap.size 79 #[.pointer (some ⟨wb, 0, none⟩)] ∧ Box W (w.heap.size + 1) 24 (nc 4 nu t (.slice A kl.length cap)) ∧ Below w.heap.size w W) ⟨(Box.new w _ _).alloc _, by have := Box.new (w.alloc (.cells #[.pointer (some ⟨wb, 0, none⟩)] 79 (0, 0))) 24 (nc 4 nu t (.slice A kl.length cap)); simpa using this, (below1 w _).alloc (by simp) _⟩ ?_
  rintro W0 ⟨p0, b0, hU⟩
  have PX := hid p0
  have NB := hid b0
  have WT := hid (hW.below hU)
  have HU : Hid (Below B w W0) := hid (hU.mono hBw)
  have HS : Hid (Stays wb w W0) := hid (Stays.below hU)
  have hB0 : B ≤ W0.heap.size := Nat.le_trans hBw hU.size
  have HPB : Hid (w.heap.size ≠ wb) := hid (by omega)
  have HNENB : Hid (w.heap.size + 1 ≠ wb) := hid (by omega)
  clear p0 b0 hU
  have c0 := NB.out.cell 0
  simp [nc] at c0
  have cp := PX.out.cell 0
  simp at cp
  go_wp2_with fail
  refine (wstr B wb l Pars.wNull _ WT.out (by (try simp only [ln] at hl); (try simp only [ln]); omega) hB0).mono ?_
  rintro e w2 ⟨⟨v, rfl⟩, hw, hb, hs⟩
  go_wp2
  go_end0
  exact ⟨rfl, hw, HU.out.trans hb, HS.out.trans hs⟩
 by_cases y5 : k = 5
 ·subst y5
  rw [wr_fst5] at hl
  go_enter Tryz.func96, Tryz.ntmps96
  go_upto_region 1 with fail
  refine gen_world (F := fun W => Box W w.heap.size 79 #[.pointer (some ⟨wb, 0, none⟩)] ∧ Box W (w.heap.size + 1) 24 (nc 5 nu t (.slice A kl.length cap)) ∧ Below w.heap.size w W) ⟨(Box.new w _ _).alloc _, by have := Box.new (w.alloc (.cells #[.pointer (some ⟨wb, 0, none⟩)] 79 (0, 0))) 24 (nc 5 nu t (.slice A kl.length cap)); simpa using this, (below1 w _).alloc (by simp) _⟩ ?_
  rintro W0 ⟨p0, b0, hU⟩
  have PX := hid p0
  have NB := hid b0
  have WT := hid (hW.below hU)
  have HU : Hid (Below B w W0) := hid (hU.mono hBw)
  have HS : Hid (Stays wb w W0) := hid (Stays.below hU)
  have hB0 : B ≤ W0.heap.size := Nat.le_trans hBw hU.size
  have HPB : Hid (w.heap.size ≠ wb) := hid (by omega)
  have HNENB : Hid (w.heap.size + 1 ≠ wb) := hid (by omega)
  clear p0 b0 hU
  have c0 := NB.out.cell 0
  simp [nc] at c0
  have cp := PX.out.cell 0
  simp at cp
  have c2 := NB.out.cell 2
  simp [nc] at c2
  go_upto_region 11 with fail
  go_wp2
  go_still_tail 5, (by kernel_rfl)
  change wpList _ _ _ _ _ W0.drew
  have hdr : Below W0.heap.size W0 W0.drew := Below.drew (Below.refl _ _)
  have hdz : W0.drew.heap.size = W0.heap.size := rfl
  obtain ⟨wd, hwd⟩ : ∃ wd, W0.drew = wd := ⟨_, rfl⟩
  rw [hwd] at hdr hdz ⊢
  replace WT := hid (WT.out.below hdr)
  replace NB := bl NB hdr
  replace PX := bl PX hdr
  replace HU := hid (HU.out.trans (hdr.mono hB0))
  replace HS := hid (HS.out.trans (Stays.below hdr))
  have hB1 : B ≤ wd.heap.size := by omega
  clear hB0
  have hB0 := hB1
  clear hdr hdz hwd
  clear c0 cp c2
  go_wp2_with fail
  refine (wstr B wb l t _ WT.out (by (try simp only [ln] at hl); (try simp only [ln]); omega) hB0).mono ?_
  rintro e w2 ⟨⟨v, rfl⟩, hw, hb, hs⟩
  go_wp2
  go_end0
  exact ⟨rfl, hw, HU.out.trans hb, HS.out.trans hs⟩
 by_cases y6 : k = 6
 ·subst y6
  rw [wr_fst6] at hl
  go_enter Tryz.func96, Tryz.ntmps96
  go_upto_region 1 with fail
  refine gen_world (F := fun W => Box W w.heap.size 79 #[.pointer (some ⟨wb, 0, none⟩)] ∧ Box W (w.heap.size + 1) 24 (nc 6 nu t (.slice A kl.length cap)) ∧ Below w.heap.size w W) ⟨(Box.new w _ _).alloc _, by have := Box.new (w.alloc (.cells #[.pointer (some ⟨wb, 0, none⟩)] 79 (0, 0))) 24 (nc 6 nu t (.slice A kl.length cap)); simpa using this, (below1 w _).alloc (by simp) _⟩ ?_
  rintro W0 ⟨p0, b0, hU⟩
  have PX := hid p0
  have NB := hid b0
  have WT := hid (hW.below hU)
  have HU : Hid (Below B w W0) := hid (hU.mono hBw)
  have HS : Hid (Stays wb w W0) := hid (Stays.below hU)
  have hB0 : B ≤ W0.heap.size := Nat.le_trans hBw hU.size
  have HPB : Hid (w.heap.size ≠ wb) := hid (by omega)
  have HNENB : Hid (w.heap.size + 1 ≠ wb) := hid (by omega)
  clear p0 b0 hU
  have c0 := NB.out.cell 0
  simp [nc] at c0
  have cp := PX.out.cell 0
  simp at cp
  have c3 := NB.out.cell 3
  simp [nc] at c3
  go_wp2_with fail
  refine (list_b (fun x => Wri.wr x (.at (-2))) 32 (fun _ _ => rfl) (B := B) (wb := wb) (pb := 0) (xs := kl) (A := A) (cap := cap) (o := [91]) (c := [93]) (l := l) (fun x hxm xc W l' hnx hWx hBx heX hlx => IH.any (HXW.out x hxm).1 (HXW.out x hxm).2 (ri_kid hR x hxm) hnx hWx hBx h7 heX hlx) (kids_all HK.out HROW.out HU.out) (by omega) WT.out hB0 h7 (HE.out.below HU.out h7) hl).mono ?_
  rintro e w2 ⟨rfl, hw, hb, hs⟩
  go_wp2
  go_end0
  exact ⟨rfl, by rw [wr_fst6]; exact hw, HU.out.trans hb, HS.out.trans hs⟩
 by_cases y7 : k = 7
 ·subst y7
  rw [wr_fst7] at hl
  go_enter Tryz.func96, Tryz.ntmps96
  go_upto_region 1 with fail
  refine gen_world (F := fun W => Box W w.heap.size 79 #[.pointer (some ⟨wb, 0, none⟩)] ∧ Box W (w.heap.size + 1) 24 (nc 7 nu t (.slice A kl.length cap)) ∧ Below w.heap.size w W) ⟨(Box.new w _ _).alloc _, by have := Box.new (w.alloc (.cells #[.pointer (some ⟨wb, 0, none⟩)] 79 (0, 0))) 24 (nc 7 nu t (.slice A kl.length cap)); simpa using this, (below1 w _).alloc (by simp) _⟩ ?_
  rintro W0 ⟨p0, b0, hU⟩
  have PX := hid p0
  have NB := hid b0
  have WT := hid (hW.below hU)
  have HU : Hid (Below B w W0) := hid (hU.mono hBw)
  have HS : Hid (Stays wb w W0) := hid (Stays.below hU)
  have hB0 : B ≤ W0.heap.size := Nat.le_trans hBw hU.size
  have HPB : Hid (w.heap.size ≠ wb) := hid (by omega)
  have HNENB : Hid (w.heap.size + 1 ≠ wb) := hid (by omega)
  clear p0 b0 hU
  have c0 := NB.out.cell 0
  simp [nc] at c0
  have cp := PX.out.cell 0
  simp at cp
  have c3 := NB.out.cell 3
  simp [nc] at c3
  go_wp2_with fail
  refine (list_c (fun x => Wri.wr x .pair) 105 (fun _ _ => rfl) (B := B) (wb := wb) (pb := w.heap.size) (xs := kl) (A := A) (cap := cap) (o := [123]) (c := [125]) (l := l) (fun x hxm xc W l' hnx hWx hBx heX hpx hlx => pair_w IH (Nat.le_succ_of_le (HXW.out x hxm).1) (HXW.out x hxm).2 (ri_kid hR x hxm) (pair_kid hR x hxm) hnx hWx hBx h7 heX hpx HPB.out hlx) (kids_all HK.out HROW.out HU.out) (by omega) WT.out hB0 h7 (HE.out.below HU.out h7) PX.out HPB.out hl).mono ?_
  rintro e w2 ⟨rfl, hw, hb, hs⟩
  go_wp2
  go_end0
  exact ⟨rfl, by rw [wr_fst7]; exact hw, HU.out.trans hb, HS.out.trans hs⟩
 by_cases y9 : k = 9
 ·subst y9
  go_enter Tryz.func96, Tryz.ntmps96
  go_upto_region 1 with fail
  refine gen_world (F := fun W => Box W w.heap.size 79 #[.pointer (some ⟨wb, 0, none⟩)] ∧ Box W (w.heap.size + 1) 24 (nc 9 nu t (.slice A kl.length cap)) ∧ Below w.heap.size w W) ⟨(Box.new w _ _).alloc _, by have := Box.new (w.alloc (.cells #[.pointer (some ⟨wb, 0, none⟩)] 79 (0, 0))) 24 (nc 9 nu t (.slice A kl.length cap)); simpa using this, (below1 w _).alloc (by simp) _⟩ ?_
  rintro W0 ⟨p0, b0, hU⟩
  have PX := hid p0
  have NB := hid b0
  have WT := hid (hW.below hU)
  have HU : Hid (Below B w W0) := hid (hU.mono hBw)
  have HS : Hid (Stays wb w W0) := hid (Stays.below hU)
  have hB0 : B ≤ W0.heap.size := Nat.le_trans hBw hU.size
  have HPB : Hid (w.heap.size ≠ wb) := hid (by omega)
  have HNENB : Hid (w.heap.size + 1 ≠ wb) := hid (by omega)
  clear p0 b0 hU
  have c0 := NB.out.cell 0
  simp [nc] at c0
  have cp := PX.out.cell 0
  simp at cp
  have c1 := NB.out.cell 1
  have c2 := NB.out.cell 2
  have c3 := NB.out.cell 3
  simp [nc] at c1 c2 c3
  go_wp2_with fail
  refine (FN hN hM hR rfl (HN.out.belowB HU.out) WT.out hB0 h7 (HE.out.below HU.out h7) hl).mono ?_
  rintro e w2 ⟨rfl, hw, hb, hs⟩
  go_wp2
  go_end0
  exact ⟨rfl, hw, HU.out.trans hb, HS.out.trans hs⟩
 have n1 : (k == 1) = false := bn y1
 have n2 : (k == 2) = false := bn y2
 have n3 : (k == 3) = false := bn y3
 have n4 : (k == 4) = false := bn y4
 have n5 : (k == 5) = false := bn y5
 have n6 : (k == 6) = false := bn y6
 have n7 : (k == 7) = false := bn y7
 have n9 : (k == 9) = false := bn y9
 have hl0 : Wri.wr (.mk k nu t kl) .fst = [] := by show Wri.wFst k nu t (Wri.wrs kl) = []; unfold Wri.wFst; rw [if_neg y1, if_neg y2, if_neg y3, if_neg y4, if_neg y5, if_neg y6, if_neg y7, if_neg y9]
 go_enter Tryz.func96, Tryz.ntmps96
 go_upto_region 1 with fail
 refine gen_world (F := fun W => Box W w.heap.size 79 #[.pointer (some ⟨wb, 0, none⟩)] ∧ Box W (w.heap.size + 1) 24 (nc k nu t (.slice A kl.length cap)) ∧ Below w.heap.size w W) ⟨(Box.new w _ _).alloc _, by have := Box.new (w.alloc (.cells #[.pointer (some ⟨wb, 0, none⟩)] 79 (0, 0))) 24 (nc k nu t (.slice A kl.length cap)); simpa using this, (below1 w _).alloc (by simp) _⟩ ?_
 rintro W0 ⟨p0, b0, hU⟩
 have PX := hid p0
 have NB := hid b0
 have WT := hid (hW.below hU)
 have HU : Hid (Below B w W0) := hid (hU.mono hBw)
 have HS : Hid (Stays wb w W0) := hid (Stays.below hU)
 have hB0 : B ≤ W0.heap.size := Nat.le_trans hBw hU.size
 have HPB : Hid (w.heap.size ≠ wb) := hid (by omega)
 have HNENB : Hid (w.heap.size + 1 ≠ wb) := hid (by omega)
 clear p0 b0 hU
 have c0 := NB.out.cell 0
 simp [nc] at c0
 go_wp2
 go_end0
 exact ⟨rfl, by rw [hl0]; simpa using WT.out, HU.out, HS.out⟩
end Go.Proofs.YtonjdlialejedaaGreatDoor
