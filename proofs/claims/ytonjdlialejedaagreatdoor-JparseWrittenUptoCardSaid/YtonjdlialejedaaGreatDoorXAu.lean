/-
  Texts that the law leans on: PmF, PmU, PmV. Conditions: as each says.
-/
import Derived.Test.YtonjdlialejedaaGreatDoorXAf
import Derived.Test.YtonjdlialejedaaGreatDoorXAs
import Derived.Recover
import Derived.Test.YtonjdlialejedaaGreatDoorXAa
set_option linter.unusedSimpArgs false
set_option linter.unusedVariables false
namespace Go.Proofs.YtonjdlialejedaaGreatDoor
open Go.Lib (hid)
open Go.RowKit
set_option maxRecDepth 100000 in
set_option maxHeartbeats 4000000 in
theorem expr_step {n : Nat} (h : All n) : ∀ {w : World} {b : Nat} {ts : List KT} {A : Option Addr} {c k : Nat} {fn lp : Bool}, PSt w b ts A c k fn lp → 20 * (ts.length - k) + 12 < n + 1 → Calls Tryz.prog 50 #[.pointer (some ⟨b, 0, none⟩)] w (Got w b ts A c k fn lp (Pars.run (n + 1) .expression fn lp (left ts k))) := by
 intro w b ts A c k fn lp hP hm
 have HR : Hid (Pars.run (n + 1) .expression fn lp (left ts k) = _) := hid (by rw [Pars.run])
 have hbl := hP.box.lt
 have hle := hP.kle
 go_enter Tryz.func50, Tryz.ntmps50
 go_upto_region 1 with fail
 refine gen_world (F := fun W => Box W w.heap.size 24 #[.int .i64 0, .int .i64 0, .string ⟨#[]⟩, .slice none 0 0] ∧ Below w.heap.size w W) ⟨Box.new w _ _, below1 w _⟩ ?_
 rintro W0 ⟨r0, hU⟩
 have RB := hid r0
 have HP := hid (hP.below hU)
 have HU : Hid (Upd w W0 b) := hid (Upd.below hU b)
 have HZ : Hid (w.heap.size < W0.heap.size) := hid r0.lt
 have hz0 := r0.lt
 have HZW : Hid (W0.heap.size ≤ W0.heap.size) := hid (Nat.le_refl _)
 clear r0 hU hP
 go_wp2_with fail
 refine (h.cond HP.out (by omega)).mono ?_
 rintro e w1 (⟨x1, k1, cs1, hr, hk1, hk2, rfl, hn, hx, hu⟩ | ⟨hr, rfl, hu⟩)
 rotate_left
 ·exact ⟨rfl, .inr ⟨HR.out.trans (Pars.and_no hr), rfl, HU.out.trans hu⟩⟩
 have hlt1 := got_lt hr rfl
 replace HR := hid (HR.out.trans (Pars.and_some hr))
 have HN1 : Hid (NodeAt _ (fun g => W0.heap.size ≤ g) x1 cs1) := hid (hn.weak (fun g hg => by have := HZW.out; omega))
 have hcs1 : (Tryz.prog.info? 24).map (·.size) = some cs1.size := by rw [NodeAt.size hn]; exact info_nod
 have h41 : (4 : Nat) = cs1.size := (NodeAt.size hn).symm
 have hone1 := NodeAt.one hn
 have HCS1 := hid hcs1
 have H41 := hid h41
 have HONE1 := hid hone1
 replace RB := bg RB hu
 replace HP := hid (HP.out.upd hx hu (by omega))
 replace HU := hid (HU.out.trans hu)
 replace HZW := hid (Nat.le_trans HZW.out hu.size)
 clear hr hn hx hu hcs1 h41 hone1
 have hle1 := HP.out.kle
 obtain ⟨v1, hlit, hvo⟩ := NodeAt.lit HN1.out
 rw [hlit] at HN1 HCS1 H41 HONE1 ⊢
 have HVO1 := hid hvo
 clear hlit hvo
 go_upto_region 2 with (refine wpList_store_box rfl 24 (.tmp 3) (.tmp 5) rfl w1.heap.size #[.int .i64 x1.kind, .int .i64 x1.num, .string (byt x1.text), v1] rfl rfl 24 _ (Box.new w1 _ _) HCS1.out H41.out HONE1.out ?_; intro w2 hx hv hz; have HZ1 := hid hz; clear hz)
 have hb : Below w1.heap.size w1 w2 := ((Below.refl _ w1).alloc (Nat.le_refl _) _).trans (hv.own (Nat.le_refl _) (by simp))
 have EB1 := hid hx
 have hzE1 := Nat.lt_of_lt_of_le HZ.out HZW.out
 replace RB := bl RB hb
 replace HN1 := hid (HN1.out.below hb)
 replace HP := hid (HP.out.below hb)
 replace HU := hid (HU.out.step hb)
 replace HZW := hid (Nat.le_trans HZW.out hb.size)
 clear hx hv hb
 go_wp2_with fail
 refine (is_any [61] _ b ts A c k1 fn lp HP.out).mono ?_
 rintro e w3 (⟨hi, hk, rfl, hx, hu⟩ | ⟨hi, rfl, hx, hu⟩)
 rotate_left
 ·replace HR := hid (HR.out.trans (Pars.alt_no hi))
  replace RB := bg RB hu
  replace EB1 := bg EB1 hu
  replace HN1 := hid (HN1.out.upd hu (fun g hg => by first | omega | (simp only at hg; omega)))
  replace HP := hid (HP.out.upd hx hu (by omega))
  replace HU := hid (HU.out.trans hu)
  replace HZW := hid (Nat.le_trans HZW.out hu.size)
  clear hi hx hu
  have eb1 := EB1.out
  go_wp2_with (first | (refine wpList_load_row rfl 24 (.tmp 3) rfl w1.heap.size rfl _ #[.int .i64 x1.kind, .int .i64 x1.num, .string (byt x1.text), v1] (0, 0) _ eb1 Tryz.underlying24 rfl HCS1.out ?_) | (refine wpList_store_box rfl 24 (.tmp 2) (.tmp 9) rfl w.heap.size #[.int .i64 x1.kind, .int .i64 x1.num, .string (byt x1.text), v1] rfl rfl 24 _ RB.out HCS1.out H41.out HONE1.out ?_; intro wz hxz huz hzz; have HZZ := hid hzz; clear hzz))
  refine bodyPost_ret (results_box rfl _ _ w.heap.size 24 _ _ rfl hxz Tryz.underlying24 rfl HCS1.out) rfl ?_
  exact .inl ⟨x1, k1, #[.int .i64 x1.kind, .int .i64 x1.num, .string (byt x1.text), v1], HR.out, by omega, HP.out.kle, rfl, (HN1.out.upd huz (fun g hg => by first | omega | (simp only at hg; omega))).weak (fun g hg => by first | omega | (simp only at hg; omega)), Box.grown HP.out.box huz (by intro h; injection h with h; omega), Upd.fresh HU.out huz (Nat.le_refl _)⟩
 replace HR := hid (HR.out.trans (Pars.alt_some hi))
 replace RB := bg RB hu
 replace EB1 := bg EB1 hu
 replace HN1 := hid (HN1.out.upd hu (fun g hg => by first | omega | (simp only at hg; omega)))
 replace HP := hid (HP.out.upd hx hu (by omega))
 replace HU := hid (HU.out.trans hu)
 replace HZW := hid (Nat.le_trans HZW.out hu.size)
 clear hi hx hu
 have e0 := EB1.out.cell 0
 simp at e0
 obtain ⟨KD, hKD⟩ : ∃ q, x1.kind = q := ⟨_, rfl⟩
 rw [hKD] at e0
 have HKD := hid hKD
 clear hKD
 by_cases y1 : KD = 5
 ·replace HR := hid (HR.out.trans (if_pos (.inl (HKD.out.trans y1))))
  have g1 : (KD == 5) = true := by simp [y1]
  clear y1
  go_wp2_with fail
  refine (within_any true _).mono ?_
  rintro e w4 ⟨he, rfl⟩
  subst he
  go_upto_region 5 with fail
  refine wp_region_held_drew (S := fun w' => Box w' (w1.heap.size) 24 #[.int .i64 x1.kind, .int .i64 x1.num, .string (byt x1.text), v1] ∧ True) (by kernel_rfl) ⟨Box.drew EB1.out, trivial⟩ (fun hHeld => ?_)
  obtain ⟨wd, hwd⟩ : ∃ wd, w4.drew = wd := ⟨_, rfl⟩
  have hb : Below w4.heap.size w4 wd := hwd ▸ (Below.refl _ w4).drew
  rw [hwd] at hHeld
  (try rw [hwd])
  clear hwd
  replace RB := bl RB hb
  replace EB1 := bl EB1 hb
  replace HN1 := hid (HN1.out.below hb)
  replace HP := hid (HP.out.below hb)
  replace HU := hid (HU.out.step hb)
  replace HZW := hid (Nat.le_trans HZW.out hb.size)
  clear hb
  refine wpAnyH_take (i := 0) (v := _) rfl (by kernel_rfl) (by kernel_rfl) (by kernel_rfl) (fun _ _ _ h => h) (yields_load_box (by kernel_rfl) 24 (.tmp 3) rfl (w1.heap.size) 24 (#[.int .i64 x1.kind, .int .i64 x1.num, .string (byt x1.text), v1]) _ rfl (fun _ h => h.1) Tryz.underlying24 rfl HCS1.out) (by assumption) ?_
  (try simp only [Act.put, sq])
  refine tH (i := 1) (v := ?_) rfl ?_ (by assumption) ?_
  rotate_left
  ·intro w hSw
   (try dsimp only at hSw)
   go_simp
   try (with_reducible rfl)
  (try simp only [Act.put, sq])
  refine rdH 2 rfl fun K hK => ?_
  go_simp
  refine (h.expr HP.out (by omega)).mono ?_
  rintro e wc (⟨x2, k2, cs2, hr, hk1, hk2, rfl, hn, hx, hu⟩ | ⟨hr, rfl, hu⟩)
  rotate_left
  ·exact ⟨rfl, .inr ⟨HR.out.trans (Pars.and_no hr), rfl, HU.out.trans hu⟩⟩
  have hlt2 := got_lt hr rfl
  replace HR := hid (HR.out.trans (Pars.and_some hr))
  have HN2 : Hid (NodeAt _ (fun g => W0.heap.size ≤ g) x2 cs2) := hid (hn.weak (fun g hg => by have := HZW.out; omega))
  have hcs2 : (Tryz.prog.info? 24).map (·.size) = some cs2.size := by rw [NodeAt.size hn]; exact info_nod
  have h42 : (4 : Nat) = cs2.size := (NodeAt.size hn).symm
  have hone2 := NodeAt.one hn
  have HCS2 := hid hcs2
  have H42 := hid h42
  have HONE2 := hid hone2
  replace RB := bg RB hu
  replace EB1 := bg EB1 hu
  replace HN1 := hid (HN1.out.upd hu (fun g hg => by first | omega | (simp only at hg; omega)))
  replace HP := hid (HP.out.upd hx hu (by omega))
  replace HU := hid (HU.out.trans hu)
  replace HZW := hid (Nat.le_trans HZW.out hu.size)
  clear hr hn hx hu hcs2 h42 hone2
  obtain ⟨v2, hlit, hvo⟩ := NodeAt.lit HN2.out
  rw [hlit] at HN2 HCS2 H42 HONE2 ⊢
  have HVO2 := hid hvo
  clear hlit hvo
  go_wp2_with fail
  refine hK.out _ _ ⟨EB1.out, trivial⟩ (fun hHeld => ?_)
  clear hK K
  (try simp only [Act.put, sq])
  refine rdH 3 rfl fun K hK => ?_
  go_simp
  have bxB := Box.new wc 24 #[.int .i64 x1.kind, .int .i64 x1.num, .string (byt x1.text), v1, .int .i64 x2.kind, .int .i64 x2.num, .string (byt x2.text), v2]
  have hb : Below wc.heap.size wc (wc.alloc (.cells #[.int .i64 x1.kind, .int .i64 x1.num, .string (byt x1.text), v1, .int .i64 x2.kind, .int .i64 x2.num, .string (byt x2.text), v2] 24)) := below1 wc _
  obtain ⟨wb, hwb⟩ : ∃ wb, (wc.alloc (.cells #[.int .i64 x1.kind, .int .i64 x1.num, .string (byt x1.text), v1, .int .i64 x2.kind, .int .i64 x2.num, .string (byt x2.text), v2] 24)) = wb := ⟨_, rfl⟩
  rw [hwb] at bxB hb
  rw [hwb]
  clear hwb
  have hgB : W0.heap.size ≤ wc.heap.size := HZW.out
  replace RB := bl RB hb
  replace EB1 := bl EB1 hb
  replace HN1 := hid (HN1.out.below hb)
  replace HN2 := hid (HN2.out.below hb)
  replace HP := hid (HP.out.below hb)
  replace HU := hid (HU.out.step hb)
  replace HZW := hid (Nat.le_trans HZW.out hb.size)
  have BXB := hid bxB
  refine hK.out _ _ ⟨EB1.out, trivial⟩ (fun hHeld => ?_)
  clear hK K hb bxB
  (try simp only [Act.put, sq])
  refine tH (i := 4) (v := ?_) rfl ?_ (by assumption) ?_
  rotate_left
  ·intro w hSw
   (try dsimp only at hSw)
   go_simp
   try (with_reducible rfl)
  (try simp only [Act.put, sq])
  refine rdH 5 rfl fun K hK => ?_
  refine step_store_box rfl 24 (.tmp 2) (.tmp 28) rfl (w.heap.size) #[.int .i64 19, .int .i64 0, .string ⟨#[]⟩, .slice (some ⟨wc.heap.size, 0, none⟩) 2 2] rfl rfl 24 _ RB.out info_nod rfl (nz_one _ _ _ _ _ _) ?_
  intro wz hxz huz hzz
  have HZZ := hid hzz
  refine hK.out _ _ ⟨Box.grown EB1.out huz (by intro h; injection h with h; omega), trivial⟩ (fun hHeld => ?_)
  clear hK K
  (try simp only [Act.put, sq])
  refine wpAnyH_done (by kernel_rfl) ?_ _
  go_wp2
  refine bodyPost_ret (results_box rfl _ _ w.heap.size 24 _ _ rfl hxz Tryz.underlying24 rfl info_nod) rfl ?_
  have hnb : NodeAt wb (fun g => W0.heap.size ≤ g) (.mk 19 0 [] [x1, x2]) #[.int .i64 19, .int .i64 0, .string ⟨#[]⟩, .slice (some ⟨wc.heap.size, 0, none⟩) 2 2] := NodeAt.build (css := [#[.int .i64 x1.kind, .int .i64 x1.num, .string (byt x1.text), v1], #[.int .i64 x2.kind, .int .i64 x2.num, .string (byt x2.text), v2]]) 19 0 [] BXB.out hgB ⟨HN1.out, HN2.out, trivial⟩
  exact .inl ⟨_, _, _, HR.out, by omega, HP.out.kle, rfl, (hnb.upd huz (fun g hg => by (try simp only at hg); omega)).weak (fun g hg => by (try simp only at hg); omega), Box.grown HP.out.box huz (by intro h; injection h with h; omega), Upd.fresh HU.out huz (Nat.le_refl _)⟩
 have g1 : (KD == 5) = false := bn y1
 by_cases y2 : KD = 12
 ·replace HR := hid (HR.out.trans (if_pos (.inr (.inl (HKD.out.trans y2)))))
  have g2 : (KD == 12) = true := by simp [y2]
  clear y1 y2
  go_wp2_with fail
  refine (within_any true _).mono ?_
  rintro e w4 ⟨he, rfl⟩
  subst he
  go_upto_region 5 with fail
  refine wp_region_held_drew (S := fun w' => Box w' (w1.heap.size) 24 #[.int .i64 x1.kind, .int .i64 x1.num, .string (byt x1.text), v1] ∧ True) (by kernel_rfl) ⟨Box.drew EB1.out, trivial⟩ (fun hHeld => ?_)
  obtain ⟨wd, hwd⟩ : ∃ wd, w4.drew = wd := ⟨_, rfl⟩
  have hb : Below w4.heap.size w4 wd := hwd ▸ (Below.refl _ w4).drew
  rw [hwd] at hHeld
  (try rw [hwd])
  clear hwd
  replace RB := bl RB hb
  replace EB1 := bl EB1 hb
  replace HN1 := hid (HN1.out.below hb)
  replace HP := hid (HP.out.below hb)
  replace HU := hid (HU.out.step hb)
  replace HZW := hid (Nat.le_trans HZW.out hb.size)
  clear hb
  refine wpAnyH_take (i := 0) (v := _) rfl (by kernel_rfl) (by kernel_rfl) (by kernel_rfl) (fun _ _ _ h => h) (yields_load_box (by kernel_rfl) 24 (.tmp 3) rfl (w1.heap.size) 24 (#[.int .i64 x1.kind, .int .i64 x1.num, .string (byt x1.text), v1]) _ rfl (fun _ h => h.1) Tryz.underlying24 rfl HCS1.out) (by assumption) ?_
  (try simp only [Act.put, sq])
  refine tH (i := 1) (v := ?_) rfl ?_ (by assumption) ?_
  rotate_left
  ·intro w hSw
   (try dsimp only at hSw)
   go_simp
   try (with_reducible rfl)
  (try simp only [Act.put, sq])
  refine rdH 2 rfl fun K hK => ?_
  go_simp
  refine (h.expr HP.out (by omega)).mono ?_
  rintro e wc (⟨x2, k2, cs2, hr, hk1, hk2, rfl, hn, hx, hu⟩ | ⟨hr, rfl, hu⟩)
  rotate_left
  ·exact ⟨rfl, .inr ⟨HR.out.trans (Pars.and_no hr), rfl, HU.out.trans hu⟩⟩
  have hlt2 := got_lt hr rfl
  replace HR := hid (HR.out.trans (Pars.and_some hr))
  have HN2 : Hid (NodeAt _ (fun g => W0.heap.size ≤ g) x2 cs2) := hid (hn.weak (fun g hg => by have := HZW.out; omega))
  have hcs2 : (Tryz.prog.info? 24).map (·.size) = some cs2.size := by rw [NodeAt.size hn]; exact info_nod
  have h42 : (4 : Nat) = cs2.size := (NodeAt.size hn).symm
  have hone2 := NodeAt.one hn
  have HCS2 := hid hcs2
  have H42 := hid h42
  have HONE2 := hid hone2
  replace RB := bg RB hu
  replace EB1 := bg EB1 hu
  replace HN1 := hid (HN1.out.upd hu (fun g hg => by first | omega | (simp only at hg; omega)))
  replace HP := hid (HP.out.upd hx hu (by omega))
  replace HU := hid (HU.out.trans hu)
  replace HZW := hid (Nat.le_trans HZW.out hu.size)
  clear hr hn hx hu hcs2 h42 hone2
  obtain ⟨v2, hlit, hvo⟩ := NodeAt.lit HN2.out
  rw [hlit] at HN2 HCS2 H42 HONE2 ⊢
  have HVO2 := hid hvo
  clear hlit hvo
  go_wp2_with fail
  refine hK.out _ _ ⟨EB1.out, trivial⟩ (fun hHeld => ?_)
  clear hK K
  (try simp only [Act.put, sq])
  refine rdH 3 rfl fun K hK => ?_
  go_simp
  have bxB := Box.new wc 24 #[.int .i64 x1.kind, .int .i64 x1.num, .string (byt x1.text), v1, .int .i64 x2.kind, .int .i64 x2.num, .string (byt x2.text), v2]
  have hb : Below wc.heap.size wc (wc.alloc (.cells #[.int .i64 x1.kind, .int .i64 x1.num, .string (byt x1.text), v1, .int .i64 x2.kind, .int .i64 x2.num, .string (byt x2.text), v2] 24)) := below1 wc _
  obtain ⟨wb, hwb⟩ : ∃ wb, (wc.alloc (.cells #[.int .i64 x1.kind, .int .i64 x1.num, .string (byt x1.text), v1, .int .i64 x2.kind, .int .i64 x2.num, .string (byt x2.text), v2] 24)) = wb := ⟨_, rfl⟩
  rw [hwb] at bxB hb
  rw [hwb]
  clear hwb
  have hgB : W0.heap.size ≤ wc.heap.size := HZW.out
  replace RB := bl RB hb
  replace EB1 := bl EB1 hb
  replace HN1 := hid (HN1.out.below hb)
  replace HN2 := hid (HN2.out.below hb)
  replace HP := hid (HP.out.below hb)
  replace HU := hid (HU.out.step hb)
  replace HZW := hid (Nat.le_trans HZW.out hb.size)
  have BXB := hid bxB
  refine hK.out _ _ ⟨EB1.out, trivial⟩ (fun hHeld => ?_)
  clear hK K hb bxB
  (try simp only [Act.put, sq])
  refine tH (i := 4) (v := ?_) rfl ?_ (by assumption) ?_
  rotate_left
  ·intro w hSw
   (try dsimp only at hSw)
   go_simp
   try (with_reducible rfl)
  (try simp only [Act.put, sq])
  refine rdH 5 rfl fun K hK => ?_
  refine step_store_box rfl 24 (.tmp 2) (.tmp 28) rfl (w.heap.size) #[.int .i64 19, .int .i64 0, .string ⟨#[]⟩, .slice (some ⟨wc.heap.size, 0, none⟩) 2 2] rfl rfl 24 _ RB.out info_nod rfl (nz_one _ _ _ _ _ _) ?_
  intro wz hxz huz hzz
  have HZZ := hid hzz
  refine hK.out _ _ ⟨Box.grown EB1.out huz (by intro h; injection h with h; omega), trivial⟩ (fun hHeld => ?_)
  clear hK K
  (try simp only [Act.put, sq])
  refine wpAnyH_done (by kernel_rfl) ?_ _
  go_wp2
  refine bodyPost_ret (results_box rfl _ _ w.heap.size 24 _ _ rfl hxz Tryz.underlying24 rfl info_nod) rfl ?_
  have hnb : NodeAt wb (fun g => W0.heap.size ≤ g) (.mk 19 0 [] [x1, x2]) #[.int .i64 19, .int .i64 0, .string ⟨#[]⟩, .slice (some ⟨wc.heap.size, 0, none⟩) 2 2] := NodeAt.build (css := [#[.int .i64 x1.kind, .int .i64 x1.num, .string (byt x1.text), v1], #[.int .i64 x2.kind, .int .i64 x2.num, .string (byt x2.text), v2]]) 19 0 [] BXB.out hgB ⟨HN1.out, HN2.out, trivial⟩
  exact .inl ⟨_, _, _, HR.out, by omega, HP.out.kle, rfl, (hnb.upd huz (fun g hg => by (try simp only at hg); omega)).weak (fun g hg => by (try simp only at hg); omega), Box.grown HP.out.box huz (by intro h; injection h with h; omega), Upd.fresh HU.out huz (Nat.le_refl _)⟩
 have g2 : (KD == 12) = false := bn y2
 by_cases y3 : KD = 13
 ·replace HR := hid (HR.out.trans (if_pos (.inr (.inr (HKD.out.trans y3)))))
  have g3 : (KD == 13) = true := by simp [y3]
  clear y1 y2 y3
  go_wp2_with fail
  refine (within_any true _).mono ?_
  rintro e w4 ⟨he, rfl⟩
  subst he
  go_upto_region 5 with fail
  refine wp_region_held_drew (S := fun w' => Box w' (w1.heap.size) 24 #[.int .i64 x1.kind, .int .i64 x1.num, .string (byt x1.text), v1] ∧ True) (by kernel_rfl) ⟨Box.drew EB1.out, trivial⟩ (fun hHeld => ?_)
  obtain ⟨wd, hwd⟩ : ∃ wd, w4.drew = wd := ⟨_, rfl⟩
  have hb : Below w4.heap.size w4 wd := hwd ▸ (Below.refl _ w4).drew
  rw [hwd] at hHeld
  (try rw [hwd])
  clear hwd
  replace RB := bl RB hb
  replace EB1 := bl EB1 hb
  replace HN1 := hid (HN1.out.below hb)
  replace HP := hid (HP.out.below hb)
  replace HU := hid (HU.out.step hb)
  replace HZW := hid (Nat.le_trans HZW.out hb.size)
  clear hb
  refine wpAnyH_take (i := 0) (v := _) rfl (by kernel_rfl) (by kernel_rfl) (by kernel_rfl) (fun _ _ _ h => h) (yields_load_box (by kernel_rfl) 24 (.tmp 3) rfl (w1.heap.size) 24 (#[.int .i64 x1.kind, .int .i64 x1.num, .string (byt x1.text), v1]) _ rfl (fun _ h => h.1) Tryz.underlying24 rfl HCS1.out) (by assumption) ?_
  (try simp only [Act.put, sq])
  refine tH (i := 1) (v := ?_) rfl ?_ (by assumption) ?_
  rotate_left
  ·intro w hSw
   (try dsimp only at hSw)
   go_simp
   try (with_reducible rfl)
  (try simp only [Act.put, sq])
  refine rdH 2 rfl fun K hK => ?_
  go_simp
  refine (h.expr HP.out (by omega)).mono ?_
  rintro e wc (⟨x2, k2, cs2, hr, hk1, hk2, rfl, hn, hx, hu⟩ | ⟨hr, rfl, hu⟩)
  rotate_left
  ·exact ⟨rfl, .inr ⟨HR.out.trans (Pars.and_no hr), rfl, HU.out.trans hu⟩⟩
  have hlt2 := got_lt hr rfl
  replace HR := hid (HR.out.trans (Pars.and_some hr))
  have HN2 : Hid (NodeAt _ (fun g => W0.heap.size ≤ g) x2 cs2) := hid (hn.weak (fun g hg => by have := HZW.out; omega))
  have hcs2 : (Tryz.prog.info? 24).map (·.size) = some cs2.size := by rw [NodeAt.size hn]; exact info_nod
  have h42 : (4 : Nat) = cs2.size := (NodeAt.size hn).symm
  have hone2 := NodeAt.one hn
  have HCS2 := hid hcs2
  have H42 := hid h42
  have HONE2 := hid hone2
  replace RB := bg RB hu
  replace EB1 := bg EB1 hu
  replace HN1 := hid (HN1.out.upd hu (fun g hg => by first | omega | (simp only at hg; omega)))
  replace HP := hid (HP.out.upd hx hu (by omega))
  replace HU := hid (HU.out.trans hu)
  replace HZW := hid (Nat.le_trans HZW.out hu.size)
  clear hr hn hx hu hcs2 h42 hone2
  obtain ⟨v2, hlit, hvo⟩ := NodeAt.lit HN2.out
  rw [hlit] at HN2 HCS2 H42 HONE2 ⊢
  have HVO2 := hid hvo
  clear hlit hvo
  go_wp2_with fail
  refine hK.out _ _ ⟨EB1.out, trivial⟩ (fun hHeld => ?_)
  clear hK K
  (try simp only [Act.put, sq])
  refine rdH 3 rfl fun K hK => ?_
  go_simp
  have bxB := Box.new wc 24 #[.int .i64 x1.kind, .int .i64 x1.num, .string (byt x1.text), v1, .int .i64 x2.kind, .int .i64 x2.num, .string (byt x2.text), v2]
  have hb : Below wc.heap.size wc (wc.alloc (.cells #[.int .i64 x1.kind, .int .i64 x1.num, .string (byt x1.text), v1, .int .i64 x2.kind, .int .i64 x2.num, .string (byt x2.text), v2] 24)) := below1 wc _
  obtain ⟨wb, hwb⟩ : ∃ wb, (wc.alloc (.cells #[.int .i64 x1.kind, .int .i64 x1.num, .string (byt x1.text), v1, .int .i64 x2.kind, .int .i64 x2.num, .string (byt x2.text), v2] 24)) = wb := ⟨_, rfl⟩
  rw [hwb] at bxB hb
  rw [hwb]
  clear hwb
  have hgB : W0.heap.size ≤ wc.heap.size := HZW.out
  replace RB := bl RB hb
  replace EB1 := bl EB1 hb
  replace HN1 := hid (HN1.out.below hb)
  replace HN2 := hid (HN2.out.below hb)
  replace HP := hid (HP.out.below hb)
  replace HU := hid (HU.out.step hb)
  replace HZW := hid (Nat.le_trans HZW.out hb.size)
  have BXB := hid bxB
  refine hK.out _ _ ⟨EB1.out, trivial⟩ (fun hHeld => ?_)
  clear hK K hb bxB
  (try simp only [Act.put, sq])
  refine tH (i := 4) (v := ?_) rfl ?_ (by assumption) ?_
  rotate_left
  ·intro w hSw
   (try dsimp only at hSw)
   go_simp
   try (with_reducible rfl)
  (try simp only [Act.put, sq])
  refine rdH 5 rfl fun K hK => ?_
  refine step_store_box rfl 24 (.tmp 2) (.tmp 28) rfl (w.heap.size) #[.int .i64 19, .int .i64 0, .string ⟨#[]⟩, .slice (some ⟨wc.heap.size, 0, none⟩) 2 2] rfl rfl 24 _ RB.out info_nod rfl (nz_one _ _ _ _ _ _) ?_
  intro wz hxz huz hzz
  have HZZ := hid hzz
  refine hK.out _ _ ⟨Box.grown EB1.out huz (by intro h; injection h with h; omega), trivial⟩ (fun hHeld => ?_)
  clear hK K
  (try simp only [Act.put, sq])
  refine wpAnyH_done (by kernel_rfl) ?_ _
  go_wp2
  refine bodyPost_ret (results_box rfl _ _ w.heap.size 24 _ _ rfl hxz Tryz.underlying24 rfl info_nod) rfl ?_
  have hnb : NodeAt wb (fun g => W0.heap.size ≤ g) (.mk 19 0 [] [x1, x2]) #[.int .i64 19, .int .i64 0, .string ⟨#[]⟩, .slice (some ⟨wc.heap.size, 0, none⟩) 2 2] := NodeAt.build (css := [#[.int .i64 x1.kind, .int .i64 x1.num, .string (byt x1.text), v1], #[.int .i64 x2.kind, .int .i64 x2.num, .string (byt x2.text), v2]]) 19 0 [] BXB.out hgB ⟨HN1.out, HN2.out, trivial⟩
  exact .inl ⟨_, _, _, HR.out, by omega, HP.out.kle, rfl, (hnb.upd huz (fun g hg => by (try simp only at hg); omega)).weak (fun g hg => by (try simp only at hg); omega), Box.grown HP.out.box huz (by intro h; injection h with h; omega), Upd.fresh HU.out huz (Nat.le_refl _)⟩
 have g3 : (KD == 13) = false := bn y3
 replace HR := hid (HR.out.trans (if_neg (by rw [HKD.out]; simp only [not_or]; exact ⟨y1, y2, y3⟩)))
 clear y1 y2 y3
 go_wp2_with fail
 refine (within_any false _).mono ?_
 rintro e w4 ⟨he, rfl⟩
 subst he
 exact ⟨rfl, .inr ⟨HR.out, rfl, HU.out⟩⟩
end Go.Proofs.YtonjdlialejedaaGreatDoor
namespace Go.Proofs.YtonjdlialejedaaGreatDoor
open Go.Lib (hid)
open Go.RowKit
theorem all_zero : All 0 := by
 constructor
 all_goals (intros; rename_i hm; exact absurd hm (Nat.not_lt_zero _))
theorem all_le : ∀ n m, m ≤ n → All m
 | 0, m, h => by
  have : m = 0 := by omega
  subst this
  exact all_zero
 | n + 1, m, h => by
  have ih := all_le n
  have hn := ih n (Nat.le_refl n)
  by_cases e : m ≤ n
  ·exact ih m e
  ·have : m = n + 1 := by omega
   subst this
   exact {
    block := block_step ih
    stmt := stmt_step hn
    expr := expr_step hn
    cond := cond_step hn
    un := un_step ih
    first := first_step ih
    inner := inner_step hn
    ifs := ifs_step hn
    loops := loops_step hn
    tries := tries_step hn
    bin := bin_step ih
    body := body_step hn
    func := func_step ih }
theorem all_any (n : Nat) : All n := all_le n n (Nat.le_refl n)
end Go.Proofs.YtonjdlialejedaaGreatDoor
namespace Go.Proofs.YtonjdlialejedaaGreatDoor
open Go.Lib (hid)
open Go.RowKit
set_option maxRecDepth 100000 in
set_option maxHeartbeats 4000000 in
theorem catch_slip (nb kb : Nat) (w : World) (old : Array Value) (ho : old.size = 4) (t : Bool) (hn : Box w nb 24 old) (hk : Box w kb 4 #[.bool t]) (hne : nb ≠ kb) :
  CallsD Tryz.prog 27 #[.pointer (some ⟨nb, 0, none⟩), .pointer (some ⟨kb, 0, none⟩)] (.panicking slipped) w fun e u' w' =>
   e = .returned (.tuple #[]) ∧ u' = .panicking [{ v := SL, recovered := true }] ∧ Box w' nb 24 #[.int .i64 0, .int .i64 0, .string ⟨#[]⟩, .slice none 0 0] ∧ Box w' kb 4 #[.bool false] ∧ ∀ B, B ≤ nb → B ≤ kb → Below B w w' := by
 refine callsD_of_wpS Tryz.func27 rfl fun c₀ cs hu => ?_
 unfold slipped at hu
 apply wpS_seq
 apply wpS_region
 simp [wpOpsS, go_sem, recoverD, hu, Tryz.ntmps27, Exit.thenS]
 refine wpS_of_wp ?_
 change Code.wp _ _ _ { tmps := #[.pointer (some ⟨nb, 0, none⟩), .pointer (some ⟨kb, 0, none⟩), SL, undef, undef, SL, undef, undef, undef, undef, undef, undef, undef, undef, undef, undef, undef], defers := [] } _
 unfold SL
 generalize hQ : (fun e a' w' => bodyPostS _ _ _ _ _ e a' _ w') = Q
 have HQ := hid hQ
 clear hQ
 have hta : ∀ w, (Instr.typeAssert (.iface 72 (.agg #[])) 20 72 true).run Tryz.prog w = .ok (.tuple #[.agg #[], .bool true]) w := fun _ => by kernel_rfl
 have HN := hid (hn.alloc (.cells #[] 72))
 have HK := hid (hk.alloc (.cells #[] 72))
 have hnl := hn.lt
 have hkl := hk.lt
 clear hn hk
 go_wp2_with (refine wpList_store_box rfl 24 (.tmp 0) (.tmp 16) rfl nb #[.int .i64 0, .int .i64 0, .string ⟨#[]⟩, .slice none 0 0] rfl rfl 24 old HN.out info_nod ho (nz_one _ _ _ _ _ _) ?_; intro w2 hx hu hz; have HK2 := hid (Box.grown HK.out hu (by intro h; injection h with h; exact hne h.symm)); have HX := hid hx; have HU := hid hu; have k0 := HK2.out.cell 0; have kf : w2.frozen? ⟨kb, 0, none⟩ = false := HK2.out.frozen 0; simp at k0; clear hx hu hz)
 have HX2 := HX.out.far (p := ⟨kb, 0, none⟩) hne (.bool false)
 have HK3 := HK2.out.set 0 (.bool false)
 rw [← HQ.out]
 refine ⟨rfl, _, rfl, _, results_none rfl _ _ _, rfl, rfl, HX2, HK3, fun B h1 h2 => ?_⟩
 have hb1 : Below w.heap.size w (w.alloc (.cells #[] 72)) := below1 w _
 exact ((hb1.mono (by omega)).trans (HU.out.own h1 (by have := hb1.size; omega))).trans (((Upd.refl w2 kb).set (p := ⟨kb, 0, none⟩) (.inl rfl) (.bool false)).own h2 (by have := HU.out.size; have := hb1.size; omega))
set_option maxRecDepth 100000 in
set_option maxHeartbeats 4000000 in
theorem catch_none (nb kb : Nat) (w : World) :
  CallsD Tryz.prog 27 #[.pointer (some ⟨nb, 0, none⟩), .pointer (some ⟨kb, 0, none⟩)] .returning w fun e u' w' => e = .returned (.tuple #[]) ∧ u' = .returning ∧ w' = w := by
 refine callsD_of_wpS Tryz.func27 rfl fun c₀ cs hu => ?_
 apply wpS_seq
 apply wpS_region
 simp [wpOpsS, go_sem, recoverD, hu, Tryz.ntmps27, Exit.thenS]
 refine wpS_of_wp ?_
 change Code.wp _ _ _ { tmps := #[.pointer (some ⟨nb, 0, none⟩), .pointer (some ⟨kb, 0, none⟩), .nilIface, undef, undef, .nilIface, undef, undef, undef, undef, undef, undef, undef, undef, undef, undef, undef], defers := [] } _
 generalize hQ : (fun e a' w' => bodyPostS _ _ _ _ _ e a' _ w') = Q
 have HQ := hid hQ
 clear hQ
 go_wp2
 rw [← HQ.out]
 refine ⟨rfl, _, ?_, _, results_none rfl _ _ _, rfl, rfl, rfl⟩
 cases c₀
 simp_all
end Go.Proofs.YtonjdlialejedaaGreatDoor
