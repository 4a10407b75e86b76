/-
  Texts that the law leans on: PmL. Conditions: as each says.
-/
import Derived.Test.YtonjdlialejedaaGreatDoorXAj
import Derived.Test.YtonjdlialejedaaGreatDoorXAa
set_option linter.unusedSimpArgs false
set_option linter.unusedVariables false
namespace Go.Proofs.YtonjdlialejedaaGreatDoor
open Go.Lib (hid)
open Go.RowKit
theorem peek_cells (ts : List KT) (k : Nat) : ∃ (tcs : Array Value) (KD : Nat) (TX : ByteArray), (∀ a b : Pars.R, Pars.peek [123] (left ts k) a b = if KD = 4 ∧ TX = ⟨#[123]⟩ then a else b) ∧ tcs[0]? = some (.int .i64 (KD : Int)) ∧ tcs[3]? = some (.string TX) ∧ (5 : Nat) = tcs.size ∧ tcs.all (·.oneCell') = true ∧ here ts k = tcs := by
 refine ⟨here ts k, ?_⟩
 cases ht : ts[k]? with
 | none =>
  refine ⟨0, ⟨#[]⟩, fun a b => ?_, by unfold here; rw [ht]; rfl, by unfold here; rw [ht]; rfl, (ktok_size ts k).symm, ktok_one ts k, rfl⟩
  rw [left_nil (List.getElem?_eq_none_iff.1 ht)]
  simp [Pars.peek]
 | some t =>
  refine ⟨t.1.kind, byt t.1.text, fun a b => ?_, by unfold here; rw [ht]; rfl, by unfold here; rw [ht]; rfl, (ktok_size ts k).symm, ktok_one ts k, rfl⟩
  rw [left_cons ht]
  simp only [Pars.peek]
  have e : (t.1.text = [123]) ↔ (byt t.1.text = ⟨#[123]⟩) := ⟨fun h => by rw [h]; rfl, fun h => byt_inj (h.trans (by rfl : (⟨#[123]⟩ : ByteArray) = byt [123]))⟩
  by_cases h : t.1.kind = 4 ∧ t.1.text = [123]
  ·rw [if_pos h, if_pos ⟨h.1, e.1 h.2⟩]
  ·rw [if_neg h, if_neg (fun q => h ⟨q.1, e.2 q.2⟩)]
set_option maxRecDepth 100000 in
set_option maxHeartbeats 4000000 in
theorem stmt_step {n : Nat} (h : All n) : ∀ {w : World} {b : Nat} {ts : List KT} {A : Option Addr} {c k : Nat} {fn lp : Bool}, PSt w b ts A c k fn lp → 20 * (ts.length - k) + 14 < n + 1 → Calls Tryz.prog 28 #[.pointer (some ⟨b, 0, none⟩)] w (Got w b ts A c k fn lp (Pars.run (n + 1) .statement fn lp (left ts k))) := by
 intro w b ts A c k fn lp hP hm
 obtain ⟨i0, hi0, hi1, hi2, hi3⟩ := info_parts parts_nod
 have HAB := hid hP.old
 have HR : Hid (Pars.run (n + 1) .statement fn lp (left ts k) = _) := hid (by rw [Pars.run])
 have hbl := hP.box.lt
 have hle := hP.kle
 go_enter Tryz.func28, Tryz.ntmps28
 go_upto_region 1 with fail
 refine gen_world (F := fun W => Box W w.heap.size 24 #[.int .i64 0, .int .i64 0, .string ⟨#[]⟩, .slice none 0 0] ∧ Below w.heap.size w W) ⟨Box.new w _ _, below1 w _⟩ ?_
 rintro W0 ⟨r0, hU⟩
 have RB := hid r0
 have HP := hid (hP.below hU)
 have HU : Hid (Upd w W0 b) := hid (Upd.below hU b)
 have HZ : Hid (w.heap.size < W0.heap.size) := hid r0.lt
 have hz0 := r0.lt
 have HZW : Hid (W0.heap.size ≤ W0.heap.size) := hid (Nat.le_refl _)
 clear r0 hU hP
 go_wp2_with fail
 refine (is_any Pars.wLet _ b ts A c (k) fn lp HP.out).mono ?_
 rintro e i1 (⟨hi, hk, rfl, hx, hu⟩ | ⟨hi, rfl, hx, hu⟩)
 ·replace HR := hid (HR.out.trans (Pars.alt_some hi))
  replace RB := bg RB hu
  replace HP := hid (HP.out.upd hx hu (by omega))
  replace HU := hid (HU.out.trans hu)
  replace HZW := hid (Nat.le_trans HZW.out hu.size)
  clear hi hx hu
  have hleA := HP.out.kle
  go_wp2_with fail
  refine (name_any _ b ts A c (k + 1) fn lp HP.out).mono ?_
  rintro e w2 (⟨tn, htn, hk1, hk, rfl, hx, hu⟩ | ⟨hi, rfl, hu⟩)
  rotate_left
  ·exact ⟨rfl, .inr ⟨HR.out.trans (named_no hi), rfl, HU.out.trans hu⟩⟩
  replace HR := hid (HR.out.trans (named_at htn hk1))
  obtain ⟨nm, hnm⟩ : ∃ q, tn.1.text = q := ⟨_, rfl⟩
  rw [hnm] at HR ⊢
  replace RB := bg RB hu
  replace HP := hid (HP.out.upd hx hu (by omega))
  replace HU := hid (HU.out.trans hu)
  replace HZW := hid (Nat.le_trans HZW.out hu.size)
  clear htn hk1 hx hu hnm
  have hleB := HP.out.kle
  go_upto_region 3 with (refine wpList_store_box rfl 24 (.tmp 3) (.tmp 10) rfl w2.heap.size #[.int .i64 20, .int .i64 0, .string (byt nm), .slice none 0 0] rfl rfl 24 _ (Box.new w2 _ _) info_nod rfl (nz_one _ _ _ _ _ _) ?_; intro w3 hx hv hz; have HZO := hid hz; clear hz)
  have hb : Below w2.heap.size w2 w3 := ((Below.refl _ w2).alloc (Nat.le_refl _) _).trans (hv.own (Nat.le_refl _) (by simp))
  have OB := hid hx
  have hzO := Nat.lt_of_lt_of_le HZ.out HZW.out
  have hoB : W0.heap.size ≤ w2.heap.size := HZW.out
  replace RB := bl RB hb
  replace HP := hid (HP.out.below hb)
  replace HU := hid (HU.out.step hb)
  replace HZW := hid (Nat.le_trans HZW.out hb.size)
  clear hx hv hb
  obtain ⟨oa, hoa⟩ : ∃ oa, w2.heap.size = oa := ⟨_, rfl⟩
  rw [hoa] at OB hzO hoB ⊢
  clear hoa
  go_wp2_with fail
  refine (must_any [61] _ b ts A c (k + 1 + 1) fn lp HP.out).mono ?_
  rintro e w4 (⟨hi, hk, rfl, hx, hu⟩ | ⟨hi, rfl, hu⟩)
  rotate_left
  ·exact ⟨rfl, .inr ⟨HR.out.trans (Pars.must_no hi), rfl, HU.out.trans hu⟩⟩
  replace HR := hid (HR.out.trans (Pars.must_some hi))
  replace RB := bg RB hu
  replace OB := bg OB hu
  replace HP := hid (HP.out.upd hx hu (by omega))
  replace HU := hid (HU.out.trans hu)
  replace HZW := hid (Nat.le_trans HZW.out hu.size)
  clear hi hx hu
  have hleC := HP.out.kle
  have hOlt := OB.out.lt
  go_wp2_with fail
  refine (h.expr HP.out (by omega)).mono ?_
  rintro e wx (⟨x1, k1, cs1, hr, hk1, hk2, rfl, hn, hx, hu⟩ | ⟨hr, rfl, hu⟩)
  rotate_left
  ·exact ⟨rfl, .inr ⟨HR.out.trans (Pars.and_no hr), rfl, HU.out.trans hu⟩⟩
  have hlt1 := got_lt hr rfl
  replace HR := hid (HR.out.trans (Pars.and_some hr))
  have HNF0 : Hid (NodeAt wx (fun g => W0.heap.size ≤ g ∧ g ≠ oa) x1 cs1) := hid (hn.weak (fun g hg => by have := HZW.out; omega))
  have HN1 : Hid (NodeAt _ (fun g => W0.heap.size ≤ g) x1 cs1) := hid (hn.weak (fun g hg => by have := HZW.out; omega))
  have hcs1 : (Tryz.prog.info? 24).map (·.size) = some cs1.size := by rw [NodeAt.size hn]; exact info_nod
  have h41 : (4 : Nat) = cs1.size := (NodeAt.size hn).symm
  have hone1 := NodeAt.one hn
  have HCS1 := hid hcs1
  have H41 := hid h41
  have HONE1 := hid hone1
  replace RB := bg RB hu
  replace OB := bg OB hu
  replace HP := hid (HP.out.upd hx hu (by omega))
  replace HU := hid (HU.out.trans hu)
  replace HZW := hid (Nat.le_trans HZW.out hu.size)
  clear hr hn hx hu hcs1 h41 hone1
  have hleX := HP.out.kle
  obtain ⟨v1, hlit, hvo⟩ := NodeAt.lit HN1.out
  rw [hlit] at HNF0 HN1 HCS1 H41 HONE1 ⊢
  have HVO1 := hid hvo
  clear hlit hvo
  have hoX := OB.out.lt
  have hne : oa ≠ wx.heap.size := by omega
  have hne2 : wx.heap.size ≠ oa := fun e => hne e.symm
  have f3 : (wx.alloc (.cells #[.int .i64 x1.kind, .int .i64 x1.num, .string (byt x1.text), v1] 24)).frozen? ⟨oa, 3, none⟩ = false := (OB.out.alloc _).frozen 3
  have c3 := (OB.out.alloc (.cells #[.int .i64 x1.kind, .int .i64 x1.num, .string (byt x1.text), v1] 24)).cell 3
  simp at c3
  go_upto_region 5 with fail
  clear f3 c3
  have bxB := Box.new wx 24 #[.int .i64 x1.kind, .int .i64 x1.num, .string (byt x1.text), v1]
  have hb1 : Below wx.heap.size wx (wx.alloc (.cells #[.int .i64 x1.kind, .int .i64 x1.num, .string (byt x1.text), v1] 24)) := below1 wx _
  have hu1 : Upd (wx.alloc (.cells #[.int .i64 x1.kind, .int .i64 x1.num, .string (byt x1.text), v1] 24)) ((wx.alloc (.cells #[.int .i64 x1.kind, .int .i64 x1.num, .string (byt x1.text), v1] 24)).setCell ⟨oa, 3, none⟩ (.slice (some ⟨wx.heap.size, 0, none⟩) 1 1)) oa := (Upd.refl _ _).set (.inl rfl) _
  have OB8 := (OB.out.alloc (.cells #[.int .i64 x1.kind, .int .i64 x1.num, .string (byt x1.text), v1] 24)).set 3 (.slice (some ⟨wx.heap.size, 0, none⟩) 1 1)
  simp at OB8
  obtain ⟨wy, hwy⟩ : ∃ wy, ((wx.alloc (.cells #[.int .i64 x1.kind, .int .i64 x1.num, .string (byt x1.text), v1] 24)).setCell ⟨oa, 3, none⟩ (.slice (some ⟨wx.heap.size, 0, none⟩) 1 1)) = wy := ⟨_, rfl⟩
  rw [hwy] at hu1 OB8
  rw [World.setCell_alloc_past _ _ _ _ hoX] at hwy
  rw [hwy]
  clear hwy
  have hb : Below w.heap.size wx wy := (hb1.mono (by omega)).trans (hu1.own (by omega) (by have := hb1.size; have := HU.out.size; omega))
  have BXB := Box.grown bxB hu1 (by intro h; injection h with h; omega)
  have HNX : Hid (NodeAt wy (fun g => W0.heap.size ≤ g ∧ g ≠ oa) x1 #[.int .i64 x1.kind, .int .i64 x1.num, .string (byt x1.text), v1]) := hid (((HNF0.out.below hb1)).upd hu1 (fun g hg => hg.2))
  replace RB := hid (Box.grown (RB.out.below hb1 RB.out.lt) hu1 (by intro h; injection h with h; omega))
  replace HP := hid (HP.out.belowB hb (by omega) (fun hn g o e => HAB.out hn g o e))
  replace HU := hid (HU.out.belowB hb (Nat.le_refl _))
  have hgB : W0.heap.size ≤ wx.heap.size := HZW.out
  replace HZW := hid (Nat.le_trans HZW.out hb.size)
  have OB := hid OB8
  have ob := OB.out
  have HNN : Hid (NodeAt wy (fun g => W0.heap.size ≤ g ∧ g ≠ oa) (.mk 20 0 nm [x1]) #[.int .i64 20, .int .i64 0, .string (byt nm), .slice (some ⟨wx.heap.size, 0, none⟩) 1 1]) := hid (NodeAt.build (css := [#[.int .i64 x1.kind, .int .i64 x1.num, .string (byt x1.text), v1]]) 20 0 nm BXB ⟨hgB, by omega⟩ ⟨HNX.out, trivial⟩)
  clear hb1 hu1 OB8 hb bxB BXB
  go_wp2_with (refine wpList_load_row rfl 24 (.tmp 3) rfl oa rfl _ #[.int .i64 20, .int .i64 0, .string (byt nm), .slice (some ⟨wx.heap.size, 0, none⟩) 1 1] (0, 0) _ ob Tryz.underlying24 rfl info_nod ?_)
  refine (ended_any _ b ts A c (k1) fn lp #[.int .i64 20, .int .i64 0, .string (byt nm), .slice (some ⟨wx.heap.size, 0, none⟩) 1 1] HP.out rfl (nz_one _ _ _ _ _ _)).mono ?_
  rintro e we (⟨hi, hk, rfl, hx, hu⟩ | ⟨hi, rfl, hu⟩)
  rotate_left
  ·exact ⟨rfl, .inr ⟨HR.out.trans (Pars.must_no hi), rfl, HU.out.trans hu⟩⟩
  replace HR := hid (HR.out.trans (Pars.must_some hi))
  replace RB := bg RB hu
  replace HNN := hid (HNN.out.upd hu (fun g hg => by first | omega | (simp only at hg; omega)))
  replace HP := hid (HP.out.upd hx hu (by omega))
  replace HU := hid (HU.out.trans hu)
  replace HZW := hid (Nat.le_trans HZW.out hu.size)
  clear hi hx hu
  have hleE := HP.out.kle
  go_wp2_with (refine wpList_store_box rfl 24 (.tmp 2) (.tmp 19) rfl w.heap.size #[.int .i64 20, .int .i64 0, .string (byt nm), .slice (some ⟨wx.heap.size, 0, none⟩) 1 1] rfl rfl 24 _ RB.out info_nod rfl (nz_one _ _ _ _ _ _) ?_; intro wz hxz huz hzz; have HZZ := hid hzz; clear hzz)
  refine bodyPost_ret (results_box rfl _ _ w.heap.size 24 _ _ rfl hxz Tryz.underlying24 rfl info_nod) rfl ?_
  exact .inl ⟨(.mk 20 0 nm [x1]), k1 + 1, #[.int .i64 20, .int .i64 0, .string (byt nm), .slice (some ⟨wx.heap.size, 0, none⟩) 1 1], HR.out, by omega, HP.out.kle, rfl, (HNN.out.upd huz (fun g hg => by first | omega | (simp only at hg; omega))).weak (fun g hg => by first | omega | (simp only at hg; omega)), Box.grown HP.out.box huz (by intro h; injection h with h; omega), Upd.fresh HU.out huz (Nat.le_refl _)⟩
 replace HR := hid (HR.out.trans (Pars.alt_no hi))
 replace RB := bg RB hu
 replace HP := hid (HP.out.upd hx hu (by omega))
 replace HU := hid (HU.out.trans hu)
 replace HZW := hid (Nat.le_trans HZW.out hu.size)
 clear hi hx hu
 go_wp2_with fail
 refine (is_any Pars.wFn _ b ts A c (k) fn lp HP.out).mono ?_
 rintro e i2 (⟨hi, hk, rfl, hx, hu⟩ | ⟨hi, rfl, hx, hu⟩)
 ·replace HR := hid (HR.out.trans (Pars.alt_some hi))
  replace RB := bg RB hu
  replace HP := hid (HP.out.upd hx hu (by omega))
  replace HU := hid (HU.out.trans hu)
  replace HZW := hid (Nat.le_trans HZW.out hu.size)
  clear hi hx hu
  have hleA := HP.out.kle
  go_wp2_with fail
  refine (name_any _ b ts A c (k + 1) fn lp HP.out).mono ?_
  rintro e w2 (⟨tn, htn, hk1, hk, rfl, hx, hu⟩ | ⟨hi, rfl, hu⟩)
  rotate_left
  ·exact ⟨rfl, .inr ⟨HR.out.trans (named_no hi), rfl, HU.out.trans hu⟩⟩
  replace HR := hid (HR.out.trans (named_at htn hk1))
  obtain ⟨nm, hnm⟩ : ∃ q, tn.1.text = q := ⟨_, rfl⟩
  rw [hnm] at HR ⊢
  replace RB := bg RB hu
  replace HP := hid (HP.out.upd hx hu (by omega))
  replace HU := hid (HU.out.trans hu)
  replace HZW := hid (Nat.le_trans HZW.out hu.size)
  clear htn hk1 hx hu hnm
  have hleB := HP.out.kle
  go_wp2_with fail
  refine (h.func nm HP.out (by omega)).mono ?_
  rintro e wx (⟨x1, k1, cs1, hr, hk1, hk2, rfl, hn, hx, hu⟩ | ⟨hr, rfl, hu⟩)
  rotate_left
  ·exact ⟨rfl, .inr ⟨HR.out.trans (Pars.and_no hr), rfl, HU.out.trans hu⟩⟩
  have hlt1 := got_lt hr rfl
  replace HR := hid (HR.out.trans (Pars.and_some hr))
  have HN1 : Hid (NodeAt _ (fun g => W0.heap.size ≤ g) x1 cs1) := hid (hn.weak (fun g hg => by have := HZW.out; omega))
  have hcs1 : (Tryz.prog.info? 24).map (·.size) = some cs1.size := by rw [NodeAt.size hn]; exact info_nod
  have h41 : (4 : Nat) = cs1.size := (NodeAt.size hn).symm
  have hone1 := NodeAt.one hn
  have HCS1 := hid hcs1
  have H41 := hid h41
  have HONE1 := hid hone1
  replace RB := bg RB hu
  replace HP := hid (HP.out.upd hx hu (by omega))
  replace HU := hid (HU.out.trans hu)
  replace HZW := hid (Nat.le_trans HZW.out hu.size)
  clear hr hn hx hu hcs1 h41 hone1
  have hleX := HP.out.kle
  obtain ⟨v1, hlit, hvo⟩ := NodeAt.lit HN1.out
  rw [hlit] at HN1 HCS1 H41 HONE1 ⊢
  have HVO1 := hid hvo
  clear hlit hvo
  have HNF : Hid (w.heap.size < wx.heap.size) := hid (by have := HZ.out; have := HZW.out; omega)
  have RBB := RB.out.alloc (.cells #[.int .i64 x1.kind, .int .i64 x1.num, .string (byt x1.text), v1] 24)
  have hne0 := Nat.ne_of_lt RB.out.lt
  go_wp2_with (refine wpList_store_box rfl 24 (.tmp 2) (.tmp 28) rfl w.heap.size #[.int .i64 21, .int .i64 0, .string ⟨#[]⟩, .slice (some ⟨wx.heap.size, 0, none⟩) 1 1] rfl rfl 24 _ RBB info_nod rfl (nz_one _ _ _ _ _ _) ?_; intro wz hxz huz hzz; have HZZ := hid hzz; clear hzz)
  have bxB := Box.new wx 24 #[.int .i64 x1.kind, .int .i64 x1.num, .string (byt x1.text), v1]
  have hb : Below wx.heap.size wx (wx.alloc (.cells #[.int .i64 x1.kind, .int .i64 x1.num, .string (byt x1.text), v1] 24)) := below1 wx _
  obtain ⟨wb, hwb⟩ : ∃ wb, (wx.alloc (.cells #[.int .i64 x1.kind, .int .i64 x1.num, .string (byt x1.text), v1] 24)) = wb := ⟨_, rfl⟩
  rw [hwb] at bxB hb huz
  clear hwb RBB
  have hgB : W0.heap.size ≤ wx.heap.size := HZW.out
  replace RB := bl RB hb
  replace HN1 := hid (HN1.out.below hb)
  replace HP := hid (HP.out.below hb)
  replace HU := hid (HU.out.step hb)
  replace HZW := hid (Nat.le_trans HZW.out hb.size)
  have HNN : Hid (NodeAt wb (fun g => W0.heap.size ≤ g) (.mk 21 0 [] [x1]) #[.int .i64 21, .int .i64 0, .string ⟨#[]⟩, .slice (some ⟨wx.heap.size, 0, none⟩) 1 1]) := hid (NodeAt.build (css := [#[.int .i64 x1.kind, .int .i64 x1.num, .string (byt x1.text), v1]]) 21 0 [] bxB hgB ⟨HN1.out, trivial⟩)
  clear bxB hb
  refine bodyPost_ret (results_box rfl _ _ w.heap.size 24 _ _ rfl hxz Tryz.underlying24 rfl info_nod) rfl ?_
  exact .inl ⟨(.mk 21 0 [] [x1]), k1, #[.int .i64 21, .int .i64 0, .string ⟨#[]⟩, .slice (some ⟨wx.heap.size, 0, none⟩) 1 1], HR.out, by omega, HP.out.kle, rfl, (HNN.out.upd huz (fun g hg => by first | omega | (simp only at hg; omega))).weak (fun g hg => by first | omega | (simp only at hg; omega)), Box.grown HP.out.box huz (by intro h; injection h with h; omega), Upd.fresh HU.out huz (Nat.le_refl _)⟩
 replace HR := hid (HR.out.trans (Pars.alt_no hi))
 replace RB := bg RB hu
 replace HP := hid (HP.out.upd hx hu (by omega))
 replace HU := hid (HU.out.trans hu)
 replace HZW := hid (Nat.le_trans HZW.out hu.size)
 clear hi hx hu
 go_wp2_with fail
 refine (is_any Pars.wIf _ b ts A c (k) fn lp HP.out).mono ?_
 rintro e i3 (⟨hi, hk, rfl, hx, hu⟩ | ⟨hi, rfl, hx, hu⟩)
 ·replace HR := hid (HR.out.trans (Pars.alt_some hi))
  replace RB := bg RB hu
  replace HP := hid (HP.out.upd hx hu (by omega))
  replace HU := hid (HU.out.trans hu)
  replace HZW := hid (Nat.le_trans HZW.out hu.size)
  clear hi hx hu
  have hleA := HP.out.kle
  go_wp2_with fail
  refine (h.ifs HP.out (by omega)).mono ?_
  rintro e wd (⟨x1, k1, cs1, hr, hk1, hk2, rfl, hn, hx, hu⟩ | ⟨hr, rfl, hu⟩)
  rotate_left
  ·exact ⟨rfl, .inr ⟨HR.out.trans hr, rfl, HU.out.trans hu⟩⟩
  replace HR := hid (HR.out.trans hr)
  have HN1 : Hid (NodeAt _ (fun g => W0.heap.size ≤ g) x1 cs1) := hid (hn.weak (fun g hg => by have := HZW.out; omega))
  have hcs1 : (Tryz.prog.info? 24).map (·.size) = some cs1.size := by rw [NodeAt.size hn]; exact info_nod
  have h41 : (4 : Nat) = cs1.size := (NodeAt.size hn).symm
  have hone1 := NodeAt.one hn
  have HCS1 := hid hcs1
  have H41 := hid h41
  have HONE1 := hid hone1
  replace RB := bg RB hu
  replace HP := hid (HP.out.upd hx hu (by omega))
  replace HU := hid (HU.out.trans hu)
  replace HZW := hid (Nat.le_trans HZW.out hu.size)
  clear hr hn hx hu hcs1 h41 hone1
  go_wp2_with (refine wpList_store_box rfl 24 (.tmp 2) (.tmp 33) rfl w.heap.size cs1 rfl rfl 24 _ RB.out HCS1.out H41.out HONE1.out ?_; intro wz hxz huz hzz; have HZZ := hid hzz; clear hzz)
  refine bodyPost_ret (results_box rfl _ _ w.heap.size 24 _ _ rfl hxz Tryz.underlying24 rfl HCS1.out) rfl ?_
  exact .inl ⟨x1, k1, cs1, HR.out, by omega, HP.out.kle, rfl, (HN1.out.upd huz (fun g hg => by first | omega | (simp only at hg; omega))).weak (fun g hg => by first | omega | (simp only at hg; omega)), Box.grown HP.out.box huz (by intro h; injection h with h; omega), Upd.fresh HU.out huz (Nat.le_refl _)⟩
 replace HR := hid (HR.out.trans (Pars.alt_no hi))
 replace RB := bg RB hu
 replace HP := hid (HP.out.upd hx hu (by omega))
 replace HU := hid (HU.out.trans hu)
 replace HZW := hid (Nat.le_trans HZW.out hu.size)
 clear hi hx hu
 go_wp2_with fail
 refine (is_any Pars.wWhile _ b ts A c (k) fn lp HP.out).mono ?_
 rintro e i4 (⟨hi, hk, rfl, hx, hu⟩ | ⟨hi, rfl, hx, hu⟩)
 ·replace HR := hid (HR.out.trans (Pars.alt_some hi))
  replace RB := bg RB hu
  replace HP := hid (HP.out.upd hx hu (by omega))
  replace HU := hid (HU.out.trans hu)
  replace HZW := hid (Nat.le_trans HZW.out hu.size)
  clear hi hx hu
  have hleA := HP.out.kle
  go_wp2_with fail
  refine (h.inner HP.out (by omega)).mono ?_
  rintro e w2 (⟨x1, k1, cs1, hr, hk1, hk2, rfl, hn, hx, hu⟩ | ⟨hr, rfl, hu⟩)
  rotate_left
  ·exact ⟨rfl, .inr ⟨HR.out.trans (Pars.and_no hr), rfl, HU.out.trans hu⟩⟩
  have hlt1 := got_lt hr rfl
  replace HR := hid (HR.out.trans (Pars.and_some hr))
  have HN1 : Hid (NodeAt _ (fun g => W0.heap.size ≤ g) x1 cs1) := hid (hn.weak (fun g hg => by have := HZW.out; omega))
  have hcs1 : (Tryz.prog.info? 24).map (·.size) = some cs1.size := by rw [NodeAt.size hn]; exact info_nod
  have h41 : (4 : Nat) = cs1.size := (NodeAt.size hn).symm
  have hone1 := NodeAt.one hn
  have HCS1 := hid hcs1
  have H41 := hid h41
  have HONE1 := hid hone1
  replace RB := bg RB hu
  replace HP := hid (HP.out.upd hx hu (by omega))
  replace HU := hid (HU.out.trans hu)
  replace HZW := hid (Nat.le_trans HZW.out hu.size)
  clear hr hn hx hu hcs1 h41 hone1
  have hleB := HP.out.kle
  obtain ⟨v1, hlit, hvo⟩ := NodeAt.lit HN1.out
  rw [hlit] at HN1 HCS1 H41 HONE1 ⊢
  have HVO1 := hid hvo
  clear hlit hvo
  go_wp2_with fail
  refine (h.body false HP.out (by omega)).mono ?_
  rintro e wx (⟨x2, k2, cs2, hr, hk1, hk2, rfl, hn, hx, hu⟩ | ⟨hr, rfl, hu⟩)
  rotate_left
  ·exact ⟨rfl, .inr ⟨HR.out.trans (Pars.and_no hr), rfl, HU.out.trans hu⟩⟩
  have hlt2 := got_lt hr rfl
  replace HR := hid (HR.out.trans (Pars.and_some hr))
  have HN2 : Hid (NodeAt _ (fun g => W0.heap.size ≤ g) x2 cs2) := hid (hn.weak (fun g hg => by have := HZW.out; omega))
  have hcs2 : (Tryz.prog.info? 24).map (·.size) = some cs2.size := by rw [NodeAt.size hn]; exact info_nod
  have h42 : (4 : Nat) = cs2.size := (NodeAt.size hn).symm
  have hone2 := NodeAt.one hn
  have HCS2 := hid hcs2
  have H42 := hid h42
  have HONE2 := hid hone2
  replace RB := bg RB hu
  replace HN1 := hid (HN1.out.upd hu (fun g hg => by first | omega | (simp only at hg; omega)))
  replace HP := hid (HP.out.upd hx hu (by omega))
  replace HU := hid (HU.out.trans hu)
  replace HZW := hid (Nat.le_trans HZW.out hu.size)
  clear hr hn hx hu hcs2 h42 hone2
  have hleX := HP.out.kle
  obtain ⟨v2, hlit, hvo⟩ := NodeAt.lit HN2.out
  rw [hlit] at HN2 HCS2 H42 HONE2 ⊢
  have HVO2 := hid hvo
  clear hlit hvo
  have RBB := RB.out.alloc (.cells #[.int .i64 x1.kind, .int .i64 x1.num, .string (byt x1.text), v1, .int .i64 x2.kind, .int .i64 x2.num, .string (byt x2.text), v2] 24)
  have hne0 := Nat.ne_of_lt RB.out.lt
  go_wp2_with (refine wpList_store_box rfl 24 (.tmp 2) (.tmp 42) rfl w.heap.size #[.int .i64 23, .int .i64 0, .string ⟨#[]⟩, .slice (some ⟨wx.heap.size, 0, none⟩) 2 2] rfl rfl 24 _ RBB info_nod rfl (nz_one _ _ _ _ _ _) ?_; intro wz hxz huz hzz; have HZZ := hid hzz; clear hzz)
  have bxB := Box.new wx 24 #[.int .i64 x1.kind, .int .i64 x1.num, .string (byt x1.text), v1, .int .i64 x2.kind, .int .i64 x2.num, .string (byt x2.text), v2]
  have hb : Below wx.heap.size wx (wx.alloc (.cells #[.int .i64 x1.kind, .int .i64 x1.num, .string (byt x1.text), v1, .int .i64 x2.kind, .int .i64 x2.num, .string (byt x2.text), v2] 24)) := below1 wx _
  obtain ⟨wb, hwb⟩ : ∃ wb, (wx.alloc (.cells #[.int .i64 x1.kind, .int .i64 x1.num, .string (byt x1.text), v1, .int .i64 x2.kind, .int .i64 x2.num, .string (byt x2.text), v2] 24)) = wb := ⟨_, rfl⟩
  rw [hwb] at bxB hb huz
  clear hwb RBB
  have hgB : W0.heap.size ≤ wx.heap.size := HZW.out
  replace RB := bl RB hb
  replace HN1 := hid (HN1.out.below hb)
  replace HN2 := hid (HN2.out.below hb)
  replace HP := hid (HP.out.below hb)
  replace HU := hid (HU.out.step hb)
  replace HZW := hid (Nat.le_trans HZW.out hb.size)
  have HNN : Hid (NodeAt wb (fun g => W0.heap.size ≤ g) (.mk 23 0 [] [x1, x2]) #[.int .i64 23, .int .i64 0, .string ⟨#[]⟩, .slice (some ⟨wx.heap.size, 0, none⟩) 2 2]) := hid (NodeAt.build (css := [#[.int .i64 x1.kind, .int .i64 x1.num, .string (byt x1.text), v1], #[.int .i64 x2.kind, .int .i64 x2.num, .string (byt x2.text), v2]]) 23 0 [] bxB hgB ⟨HN1.out, HN2.out, trivial⟩)
  clear bxB hb
  refine bodyPost_ret (results_box rfl _ _ w.heap.size 24 _ _ rfl hxz Tryz.underlying24 rfl info_nod) rfl ?_
  exact .inl ⟨(.mk 23 0 [] [x1, x2]), k2, #[.int .i64 23, .int .i64 0, .string ⟨#[]⟩, .slice (some ⟨wx.heap.size, 0, none⟩) 2 2], HR.out, by omega, HP.out.kle, rfl, (HNN.out.upd huz (fun g hg => by first | omega | (simp only at hg; omega))).weak (fun g hg => by first | omega | (simp only at hg; omega)), Box.grown HP.out.box huz (by intro h; injection h with h; omega), Upd.fresh HU.out huz (Nat.le_refl _)⟩
 replace HR := hid (HR.out.trans (Pars.alt_no hi))
 replace RB := bg RB hu
 replace HP := hid (HP.out.upd hx hu (by omega))
 replace HU := hid (HU.out.trans hu)
 replace HZW := hid (Nat.le_trans HZW.out hu.size)
 clear hi hx hu
 go_wp2_with fail
 refine (is_any Pars.wFor _ b ts A c (k) fn lp HP.out).mono ?_
 rintro e i5 (⟨hi, hk, rfl, hx, hu⟩ | ⟨hi, rfl, hx, hu⟩)
 ·replace HR := hid (HR.out.trans (Pars.alt_some hi))
  replace RB := bg RB hu
  replace HP := hid (HP.out.upd hx hu (by omega))
  replace HU := hid (HU.out.trans hu)
  replace HZW := hid (Nat.le_trans HZW.out hu.size)
  clear hi hx hu
  have hleA := HP.out.kle
  go_wp2_with fail
  refine (h.loops HP.out (by omega)).mono ?_
  rintro e wd (⟨x1, k1, cs1, hr, hk1, hk2, rfl, hn, hx, hu⟩ | ⟨hr, rfl, hu⟩)
  rotate_left
  ·exact ⟨rfl, .inr ⟨HR.out.trans hr, rfl, HU.out.trans hu⟩⟩
  replace HR := hid (HR.out.trans hr)
  have HN1 : Hid (NodeAt _ (fun g => W0.heap.size ≤ g) x1 cs1) := hid (hn.weak (fun g hg => by have := HZW.out; omega))
  have hcs1 : (Tryz.prog.info? 24).map (·.size) = some cs1.size := by rw [NodeAt.size hn]; exact info_nod
  have h41 : (4 : Nat) = cs1.size := (NodeAt.size hn).symm
  have hone1 := NodeAt.one hn
  have HCS1 := hid hcs1
  have H41 := hid h41
  have HONE1 := hid hone1
  replace RB := bg RB hu
  replace HP := hid (HP.out.upd hx hu (by omega))
  replace HU := hid (HU.out.trans hu)
  replace HZW := hid (Nat.le_trans HZW.out hu.size)
  clear hr hn hx hu hcs1 h41 hone1
  go_wp2_with (refine wpList_store_box rfl 24 (.tmp 2) (.tmp 47) rfl w.heap.size cs1 rfl rfl 24 _ RB.out HCS1.out H41.out HONE1.out ?_; intro wz hxz huz hzz; have HZZ := hid hzz; clear hzz)
  refine bodyPost_ret (results_box rfl _ _ w.heap.size 24 _ _ rfl hxz Tryz.underlying24 rfl HCS1.out) rfl ?_
  exact .inl ⟨x1, k1, cs1, HR.out, by omega, HP.out.kle, rfl, (HN1.out.upd huz (fun g hg => by first | omega | (simp only at hg; omega))).weak (fun g hg => by first | omega | (simp only at hg; omega)), Box.grown HP.out.box huz (by intro h; injection h with h; omega), Upd.fresh HU.out huz (Nat.le_refl _)⟩
 replace HR := hid (HR.out.trans (Pars.alt_no hi))
 replace RB := bg RB hu
 replace HP := hid (HP.out.upd hx hu (by omega))
 replace HU := hid (HU.out.trans hu)
 replace HZW := hid (Nat.le_trans HZW.out hu.size)
 clear hi hx hu
 go_wp2_with fail
 refine (is_any Pars.wReturn _ b ts A c (k) fn lp HP.out).mono ?_
 rintro e i6 (⟨hi, hk, rfl, hx, hu⟩ | ⟨hi, rfl, hx, hu⟩)
 ·replace HR := hid (HR.out.trans (Pars.alt_some hi))
  replace RB := bg RB hu
  replace HP := hid (HP.out.upd hx hu (by omega))
  replace HU := hid (HU.out.trans hu)
  replace HZW := hid (Nat.le_trans HZW.out hu.size)
  clear hi hx hu
  have hleA := HP.out.kle
  have cw := HP.out.box.cell 2
  simp [pc] at cw
  cases fn with
  | false =>
   go_wp2_with fail
   refine (within_any _ _).mono ?_
   rintro e wi ⟨he, rfl⟩
   simp only [Bool.false_eq_true, if_false] at he
   subst he
   exact ⟨rfl, .inr ⟨HR.out.trans (if_pos trivial), rfl, HU.out⟩⟩
  | true =>
   go_wp2_with fail
   refine (within_any _ _).mono ?_
   rintro e wi ⟨he, rfl⟩
   simp only [if_true] at he
   subst he
   replace HR := hid (HR.out.trans (if_neg (by simp)))
   clear cw
   go_wp2_with fail
   refine (is_any [59] _ b ts A c (k + 1) true lp HP.out).mono ?_
   rintro e w3 (⟨hi, hk, rfl, hx, hu⟩ | ⟨hi, rfl, hx, hu⟩)
   ·replace HR := hid (HR.out.trans (Pars.alt_some hi))
    replace RB := bg RB hu
    replace HP := hid (HP.out.upd hx hu (by omega))
    replace HU := hid (HU.out.trans hu)
    replace HZW := hid (Nat.le_trans HZW.out hu.size)
    clear hi hx hu
    have hleY := HP.out.kle
    have HNN : Hid (NodeAt w3 (fun g => W0.heap.size ≤ g) (.mk 25 0 [] []) #[.int .i64 25, .int .i64 0, .string ⟨#[]⟩, .slice none 0 0]) := hid (NodeAt.leaf w3 _ 25 0 [])
    go_wp2_with (refine wpList_store_box rfl 24 (.tmp 2) (.tmp 58) rfl w.heap.size #[.int .i64 25, .int .i64 0, .string ⟨#[]⟩, .slice none 0 0] rfl rfl 24 _ RB.out info_nod rfl (nz_one _ _ _ _ _ _) ?_; intro wz hxz huz hzz; have HZZ := hid hzz; clear hzz)
    refine bodyPost_ret (results_box rfl _ _ w.heap.size 24 _ _ rfl hxz Tryz.underlying24 rfl info_nod) rfl ?_
    exact .inl ⟨(.mk 25 0 [] []), k + 1 + 1, #[.int .i64 25, .int .i64 0, .string ⟨#[]⟩, .slice none 0 0], HR.out, by omega, HP.out.kle, rfl, (HNN.out.upd huz (fun g hg => by first | omega | (simp only at hg; omega))).weak (fun g hg => by first | omega | (simp only at hg; omega)), Box.grown HP.out.box huz (by intro h; injection h with h; omega), Upd.fresh HU.out huz (Nat.le_refl _)⟩
   replace HR := hid (HR.out.trans (Pars.alt_no hi))
   replace RB := bg RB hu
   replace HP := hid (HP.out.upd hx hu (by omega))
   replace HU := hid (HU.out.trans hu)
   replace HZW := hid (Nat.le_trans HZW.out hu.size)
   clear hi hx hu
   go_wp2_with fail
   refine (h.expr HP.out (by omega)).mono ?_
   rintro e wx (⟨x1, k1, cs1, hr, hk1, hk2, rfl, hn, hx, hu⟩ | ⟨hr, rfl, hu⟩)
   rotate_left
   ·exact ⟨rfl, .inr ⟨HR.out.trans (Pars.and_no hr), rfl, HU.out.trans hu⟩⟩
   have hlt1 := got_lt hr rfl
   replace HR := hid (HR.out.trans (Pars.and_some hr))
   have HN1 : Hid (NodeAt _ (fun g => W0.heap.size ≤ g) x1 cs1) := hid (hn.weak (fun g hg => by have := HZW.out; omega))
   have hcs1 : (Tryz.prog.info? 24).map (·.size) = some cs1.size := by rw [NodeAt.size hn]; exact info_nod
   have h41 : (4 : Nat) = cs1.size := (NodeAt.size hn).symm
   have hone1 := NodeAt.one hn
   have HCS1 := hid hcs1
   have H41 := hid h41
   have HONE1 := hid hone1
   replace RB := bg RB hu
   replace HP := hid (HP.out.upd hx hu (by omega))
   replace HU := hid (HU.out.trans hu)
   replace HZW := hid (Nat.le_trans HZW.out hu.size)
   clear hr hn hx hu hcs1 h41 hone1
   have hleX := HP.out.kle
   obtain ⟨v1, hlit, hvo⟩ := NodeAt.lit HN1.out
   rw [hlit] at HN1 HCS1 H41 HONE1 ⊢
   have HVO1 := hid hvo
   clear hlit hvo
   go_wp2_with fail
   have bxB := Box.new wx 24 #[.int .i64 x1.kind, .int .i64 x1.num, .string (byt x1.text), v1]
   have hb : Below wx.heap.size wx (wx.alloc (.cells #[.int .i64 x1.kind, .int .i64 x1.num, .string (byt x1.text), v1] 24)) := below1 wx _
   obtain ⟨wb, hwb⟩ : ∃ wb, (wx.alloc (.cells #[.int .i64 x1.kind, .int .i64 x1.num, .string (byt x1.text), v1] 24)) = wb := ⟨_, rfl⟩
   rw [hwb] at bxB hb
   rw [hwb]
   clear hwb
   have hgB : W0.heap.size ≤ wx.heap.size := HZW.out
   replace RB := bl RB hb
   replace HN1 := hid (HN1.out.below hb)
   replace HP := hid (HP.out.below hb)
   replace HU := hid (HU.out.step hb)
   replace HZW := hid (Nat.le_trans HZW.out hb.size)
   have HNN : Hid (NodeAt wb (fun g => W0.heap.size ≤ g) (.mk 25 0 [] [x1]) #[.int .i64 25, .int .i64 0, .string ⟨#[]⟩, .slice (some ⟨wx.heap.size, 0, none⟩) 1 1]) := hid (NodeAt.build (css := [#[.int .i64 x1.kind, .int .i64 x1.num, .string (byt x1.text), v1]]) 25 0 [] bxB hgB ⟨HN1.out, trivial⟩)
   clear bxB hb
   refine (ended_any _ b ts A c (k1) true lp #[.int .i64 25, .int .i64 0, .string ⟨#[]⟩, .slice (some ⟨wx.heap.size, 0, none⟩) 1 1] HP.out rfl (nz_one _ _ _ _ _ _)).mono ?_
   rintro e we (⟨hi, hk, rfl, hx, hu⟩ | ⟨hi, rfl, hu⟩)
   rotate_left
   ·exact ⟨rfl, .inr ⟨HR.out.trans (Pars.must_no hi), rfl, HU.out.trans hu⟩⟩
   replace HR := hid (HR.out.trans (Pars.must_some hi))
   replace RB := bg RB hu
   replace HNN := hid (HNN.out.upd hu (fun g hg => by first | omega | (simp only at hg; omega)))
   replace HP := hid (HP.out.upd hx hu (by omega))
   replace HU := hid (HU.out.trans hu)
   replace HZW := hid (Nat.le_trans HZW.out hu.size)
   clear hi hx hu
   have hleE := HP.out.kle
   go_wp2_with (refine wpList_store_box rfl 24 (.tmp 2) (.tmp 64) rfl w.heap.size #[.int .i64 25, .int .i64 0, .string ⟨#[]⟩, .slice (some ⟨wx.heap.size, 0, none⟩) 1 1] rfl rfl 24 _ RB.out info_nod rfl (nz_one _ _ _ _ _ _) ?_; intro wz hxz huz hzz; have HZZ := hid hzz; clear hzz)
   refine bodyPost_ret (results_box rfl _ _ w.heap.size 24 _ _ rfl hxz Tryz.underlying24 rfl info_nod) rfl ?_
   exact .inl ⟨(.mk 25 0 [] [x1]), k1 + 1, #[.int .i64 25, .int .i64 0, .string ⟨#[]⟩, .slice (some ⟨wx.heap.size, 0, none⟩) 1 1], HR.out, by omega, HP.out.kle, rfl, (HNN.out.upd huz (fun g hg => by first | omega | (simp only at hg; omega))).weak (fun g hg => by first | omega | (simp only at hg; omega)), Box.grown HP.out.box huz (by intro h; injection h with h; omega), Upd.fresh HU.out huz (Nat.le_refl _)⟩
 replace HR := hid (HR.out.trans (Pars.alt_no hi))
 replace RB := bg RB hu
 replace HP := hid (HP.out.upd hx hu (by omega))
 replace HU := hid (HU.out.trans hu)
 replace HZW := hid (Nat.le_trans HZW.out hu.size)
 clear hi hx hu
 go_wp2_with fail
 refine (is_any Pars.wBreak _ b ts A c (k) fn lp HP.out).mono ?_
 rintro e i7 (⟨hi, hk, rfl, hx, hu⟩ | ⟨hi, rfl, hx, hu⟩)
 ·replace HR := hid (HR.out.trans (Pars.alt_some hi))
  replace RB := bg RB hu
  replace HP := hid (HP.out.upd hx hu (by omega))
  replace HU := hid (HU.out.trans hu)
  replace HZW := hid (Nat.le_trans HZW.out hu.size)
  clear hi hx hu
  have hleA := HP.out.kle
  have cw := HP.out.box.cell 3
  simp [pc] at cw
  cases lp with
  | false =>
   go_wp2_with fail
   refine (within_any _ _).mono ?_
   rintro e wi ⟨he, rfl⟩
   simp only [Bool.false_eq_true, if_false] at he
   subst he
   exact ⟨rfl, .inr ⟨HR.out.trans (if_pos trivial), rfl, HU.out⟩⟩
  | true =>
   go_wp2_with fail
   refine (within_any _ _).mono ?_
   rintro e wi ⟨he, rfl⟩
   simp only [if_true] at he
   subst he
   replace HR := hid (HR.out.trans (if_neg (by simp)))
   clear cw
   go_wp2_with fail
   have HNN : Hid (NodeAt wi (fun g => W0.heap.size ≤ g) (.mk 26 0 [] []) #[.int .i64 26, .int .i64 0, .string ⟨#[]⟩, .slice none 0 0]) := hid (NodeAt.leaf wi _ 26 0 [])
   refine (ended_any _ b ts A c (k + 1) fn true #[.int .i64 26, .int .i64 0, .string ⟨#[]⟩, .slice none 0 0] HP.out rfl (nz_one _ _ _ _ _ _)).mono ?_
   rintro e we (⟨hi, hk, rfl, hx, hu⟩ | ⟨hi, rfl, hu⟩)
   rotate_left
   ·exact ⟨rfl, .inr ⟨HR.out.trans (Pars.must_no hi), rfl, HU.out.trans hu⟩⟩
   replace HR := hid (HR.out.trans (Pars.must_some hi))
   replace RB := bg RB hu
   replace HNN := hid (HNN.out.upd hu (fun g hg => by first | omega | (simp only at hg; omega)))
   replace HP := hid (HP.out.upd hx hu (by omega))
   replace HU := hid (HU.out.trans hu)
   replace HZW := hid (Nat.le_trans HZW.out hu.size)
   clear hi hx hu
   have hleE := HP.out.kle
   go_wp2_with (refine wpList_store_box rfl 24 (.tmp 2) (.tmp 75) rfl w.heap.size #[.int .i64 26, .int .i64 0, .string ⟨#[]⟩, .slice none 0 0] rfl rfl 24 _ RB.out info_nod rfl (nz_one _ _ _ _ _ _) ?_; intro wz hxz huz hzz; have HZZ := hid hzz; clear hzz)
   refine bodyPost_ret (results_box rfl _ _ w.heap.size 24 _ _ rfl hxz Tryz.underlying24 rfl info_nod) rfl ?_
   exact .inl ⟨(.mk 26 0 [] []), k + 1 + 1, #[.int .i64 26, .int .i64 0, .string ⟨#[]⟩, .slice none 0 0], HR.out, by omega, HP.out.kle, rfl, (HNN.out.upd huz (fun g hg => by first | omega | (simp only at hg; omega))).weak (fun g hg => by first | omega | (simp only at hg; omega)), Box.grown HP.out.box huz (by intro h; injection h with h; omega), Upd.fresh HU.out huz (Nat.le_refl _)⟩
 replace HR := hid (HR.out.trans (Pars.alt_no hi))
 replace RB := bg RB hu
 replace HP := hid (HP.out.upd hx hu (by omega))
 replace HU := hid (HU.out.trans hu)
 replace HZW := hid (Nat.le_trans HZW.out hu.size)
 clear hi hx hu
 go_wp2_with fail
 refine (is_any Pars.wContinue _ b ts A c (k) fn lp HP.out).mono ?_
 rintro e i8 (⟨hi, hk, rfl, hx, hu⟩ | ⟨hi, rfl, hx, hu⟩)
 ·replace HR := hid (HR.out.trans (Pars.alt_some hi))
  replace RB := bg RB hu
  replace HP := hid (HP.out.upd hx hu (by omega))
  replace HU := hid (HU.out.trans hu)
  replace HZW := hid (Nat.le_trans HZW.out hu.size)
  clear hi hx hu
  have hleA := HP.out.kle
  have cw := HP.out.box.cell 3
  simp [pc] at cw
  cases lp with
  | false =>
   go_wp2_with fail
   refine (within_any _ _).mono ?_
   rintro e wi ⟨he, rfl⟩
   simp only [Bool.false_eq_true, if_false] at he
   subst he
   exact ⟨rfl, .inr ⟨HR.out.trans (if_pos trivial), rfl, HU.out⟩⟩
  | true =>
   go_wp2_with fail
   refine (within_any _ _).mono ?_
   rintro e wi ⟨he, rfl⟩
   simp only [if_true] at he
   subst he
   replace HR := hid (HR.out.trans (if_neg (by simp)))
   clear cw
   go_wp2_with fail
   have HNN : Hid (NodeAt wi (fun g => W0.heap.size ≤ g) (.mk 27 0 [] []) #[.int .i64 27, .int .i64 0, .string ⟨#[]⟩, .slice none 0 0]) := hid (NodeAt.leaf wi _ 27 0 [])
   refine (ended_any _ b ts A c (k + 1) fn true #[.int .i64 27, .int .i64 0, .string ⟨#[]⟩, .slice none 0 0] HP.out rfl (nz_one _ _ _ _ _ _)).mono ?_
   rintro e we (⟨hi, hk, rfl, hx, hu⟩ | ⟨hi, rfl, hu⟩)
   rotate_left
   ·exact ⟨rfl, .inr ⟨HR.out.trans (Pars.must_no hi), rfl, HU.out.trans hu⟩⟩
   replace HR := hid (HR.out.trans (Pars.must_some hi))
   replace RB := bg RB hu
   replace HNN := hid (HNN.out.upd hu (fun g hg => by first | omega | (simp only at hg; omega)))
   replace HP := hid (HP.out.upd hx hu (by omega))
   replace HU := hid (HU.out.trans hu)
   replace HZW := hid (Nat.le_trans HZW.out hu.size)
   clear hi hx hu
   have hleE := HP.out.kle
   go_wp2_with (refine wpList_store_box rfl 24 (.tmp 2) (.tmp 86) rfl w.heap.size #[.int .i64 27, .int .i64 0, .string ⟨#[]⟩, .slice none 0 0] rfl rfl 24 _ RB.out info_nod rfl (nz_one _ _ _ _ _ _) ?_; intro wz hxz huz hzz; have HZZ := hid hzz; clear hzz)
   refine bodyPost_ret (results_box rfl _ _ w.heap.size 24 _ _ rfl hxz Tryz.underlying24 rfl info_nod) rfl ?_
   exact .inl ⟨(.mk 27 0 [] []), k + 1 + 1, #[.int .i64 27, .int .i64 0, .string ⟨#[]⟩, .slice none 0 0], HR.out, by omega, HP.out.kle, rfl, (HNN.out.upd huz (fun g hg => by first | omega | (simp only at hg; omega))).weak (fun g hg => by first | omega | (simp only at hg; omega)), Box.grown HP.out.box huz (by intro h; injection h with h; omega), Upd.fresh HU.out huz (Nat.le_refl _)⟩
 replace HR := hid (HR.out.trans (Pars.alt_no hi))
 replace RB := bg RB hu
 replace HP := hid (HP.out.upd hx hu (by omega))
 replace HU := hid (HU.out.trans hu)
 replace HZW := hid (Nat.le_trans HZW.out hu.size)
 clear hi hx hu
 go_wp2_with fail
 refine (is_any Pars.wThrow _ b ts A c (k) fn lp HP.out).mono ?_
 rintro e i9 (⟨hi, hk, rfl, hx, hu⟩ | ⟨hi, rfl, hx, hu⟩)
 ·replace HR := hid (HR.out.trans (Pars.alt_some hi))
  replace RB := bg RB hu
  replace HP := hid (HP.out.upd hx hu (by omega))
  replace HU := hid (HU.out.trans hu)
  replace HZW := hid (Nat.le_trans HZW.out hu.size)
  clear hi hx hu
  have hleA := HP.out.kle
  go_wp2_with fail
  refine (h.expr HP.out (by omega)).mono ?_
  rintro e wx (⟨x1, k1, cs1, hr, hk1, hk2, rfl, hn, hx, hu⟩ | ⟨hr, rfl, hu⟩)
  rotate_left
  ·exact ⟨rfl, .inr ⟨HR.out.trans (Pars.and_no hr), rfl, HU.out.trans hu⟩⟩
  have hlt1 := got_lt hr rfl
  replace HR := hid (HR.out.trans (Pars.and_some hr))
  have HN1 : Hid (NodeAt _ (fun g => W0.heap.size ≤ g) x1 cs1) := hid (hn.weak (fun g hg => by have := HZW.out; omega))
  have hcs1 : (Tryz.prog.info? 24).map (·.size) = some cs1.size := by rw [NodeAt.size hn]; exact info_nod
  have h41 : (4 : Nat) = cs1.size := (NodeAt.size hn).symm
  have hone1 := NodeAt.one hn
  have HCS1 := hid hcs1
  have H41 := hid h41
  have HONE1 := hid hone1
  replace RB := bg RB hu
  replace HP := hid (HP.out.upd hx hu (by omega))
  replace HU := hid (HU.out.trans hu)
  replace HZW := hid (Nat.le_trans HZW.out hu.size)
  clear hr hn hx hu hcs1 h41 hone1
  have hleX := HP.out.kle
  obtain ⟨v1, hlit, hvo⟩ := NodeAt.lit HN1.out
  rw [hlit] at HN1 HCS1 H41 HONE1 ⊢
  have HVO1 := hid hvo
  clear hlit hvo
  go_wp2_with fail
  have bxB := Box.new wx 24 #[.int .i64 x1.kind, .int .i64 x1.num, .string (byt x1.text), v1]
  have hb : Below wx.heap.size wx (wx.alloc (.cells #[.int .i64 x1.kind, .int .i64 x1.num, .string (byt x1.text), v1] 24)) := below1 wx _
  obtain ⟨wb, hwb⟩ : ∃ wb, (wx.alloc (.cells #[.int .i64 x1.kind, .int .i64 x1.num, .string (byt x1.text), v1] 24)) = wb := ⟨_, rfl⟩
  rw [hwb] at bxB hb
  rw [hwb]
  clear hwb
  have hgB : W0.heap.size ≤ wx.heap.size := HZW.out
  replace RB := bl RB hb
  replace HN1 := hid (HN1.out.below hb)
  replace HP := hid (HP.out.below hb)
  replace HU := hid (HU.out.step hb)
  replace HZW := hid (Nat.le_trans HZW.out hb.size)
  have HNN : Hid (NodeAt wb (fun g => W0.heap.size ≤ g) (.mk 28 0 [] [x1]) #[.int .i64 28, .int .i64 0, .string ⟨#[]⟩, .slice (some ⟨wx.heap.size, 0, none⟩) 1 1]) := hid (NodeAt.build (css := [#[.int .i64 x1.kind, .int .i64 x1.num, .string (byt x1.text), v1]]) 28 0 [] bxB hgB ⟨HN1.out, trivial⟩)
  clear bxB hb
  refine (ended_any _ b ts A c (k1) fn lp #[.int .i64 28, .int .i64 0, .string ⟨#[]⟩, .slice (some ⟨wx.heap.size, 0, none⟩) 1 1] HP.out rfl (nz_one _ _ _ _ _ _)).mono ?_
  rintro e we (⟨hi, hk, rfl, hx, hu⟩ | ⟨hi, rfl, hu⟩)
  rotate_left
  ·exact ⟨rfl, .inr ⟨HR.out.trans (Pars.must_no hi), rfl, HU.out.trans hu⟩⟩
  replace HR := hid (HR.out.trans (Pars.must_some hi))
  replace RB := bg RB hu
  replace HNN := hid (HNN.out.upd hu (fun g hg => by first | omega | (simp only at hg; omega)))
  replace HP := hid (HP.out.upd hx hu (by omega))
  replace HU := hid (HU.out.trans hu)
  replace HZW := hid (Nat.le_trans HZW.out hu.size)
  clear hi hx hu
  have hleE := HP.out.kle
  go_wp2_with (refine wpList_store_box rfl 24 (.tmp 2) (.tmp 95) rfl w.heap.size #[.int .i64 28, .int .i64 0, .string ⟨#[]⟩, .slice (some ⟨wx.heap.size, 0, none⟩) 1 1] rfl rfl 24 _ RB.out info_nod rfl (nz_one _ _ _ _ _ _) ?_; intro wz hxz huz hzz; have HZZ := hid hzz; clear hzz)
  refine bodyPost_ret (results_box rfl _ _ w.heap.size 24 _ _ rfl hxz Tryz.underlying24 rfl info_nod) rfl ?_
  exact .inl ⟨(.mk 28 0 [] [x1]), k1 + 1, #[.int .i64 28, .int .i64 0, .string ⟨#[]⟩, .slice (some ⟨wx.heap.size, 0, none⟩) 1 1], HR.out, by omega, HP.out.kle, rfl, (HNN.out.upd huz (fun g hg => by first | omega | (simp only at hg; omega))).weak (fun g hg => by first | omega | (simp only at hg; omega)), Box.grown HP.out.box huz (by intro h; injection h with h; omega), Upd.fresh HU.out huz (Nat.le_refl _)⟩
 replace HR := hid (HR.out.trans (Pars.alt_no hi))
 replace RB := bg RB hu
 replace HP := hid (HP.out.upd hx hu (by omega))
 replace HU := hid (HU.out.trans hu)
 replace HZW := hid (Nat.le_trans HZW.out hu.size)
 clear hi hx hu
 go_wp2_with fail
 refine (is_any Pars.wTry _ b ts A c (k) fn lp HP.out).mono ?_
 rintro e i10 (⟨hi, hk, rfl, hx, hu⟩ | ⟨hi, rfl, hx, hu⟩)
 ·replace HR := hid (HR.out.trans (Pars.alt_some hi))
  replace RB := bg RB hu
  replace HP := hid (HP.out.upd hx hu (by omega))
  replace HU := hid (HU.out.trans hu)
  replace HZW := hid (Nat.le_trans HZW.out hu.size)
  clear hi hx hu
  have hleA := HP.out.kle
  go_wp2_with fail
  refine (h.tries HP.out (by omega)).mono ?_
  rintro e wd (⟨x1, k1, cs1, hr, hk1, hk2, rfl, hn, hx, hu⟩ | ⟨hr, rfl, hu⟩)
  rotate_left
  ·exact ⟨rfl, .inr ⟨HR.out.trans hr, rfl, HU.out.trans hu⟩⟩
  replace HR := hid (HR.out.trans hr)
  have HN1 : Hid (NodeAt _ (fun g => W0.heap.size ≤ g) x1 cs1) := hid (hn.weak (fun g hg => by have := HZW.out; omega))
  have hcs1 : (Tryz.prog.info? 24).map (·.size) = some cs1.size := by rw [NodeAt.size hn]; exact info_nod
  have h41 : (4 : Nat) = cs1.size := (NodeAt.size hn).symm
  have hone1 := NodeAt.one hn
  have HCS1 := hid hcs1
  have H41 := hid h41
  have HONE1 := hid hone1
  replace RB := bg RB hu
  replace HP := hid (HP.out.upd hx hu (by omega))
  replace HU := hid (HU.out.trans hu)
  replace HZW := hid (Nat.le_trans HZW.out hu.size)
  clear hr hn hx hu hcs1 h41 hone1
  go_wp2_with (refine wpList_store_box rfl 24 (.tmp 2) (.tmp 100) rfl w.heap.size cs1 rfl rfl 24 _ RB.out HCS1.out H41.out HONE1.out ?_; intro wz hxz huz hzz; have HZZ := hid hzz; clear hzz)
  refine bodyPost_ret (results_box rfl _ _ w.heap.size 24 _ _ rfl hxz Tryz.underlying24 rfl HCS1.out) rfl ?_
  exact .inl ⟨x1, k1, cs1, HR.out, by omega, HP.out.kle, rfl, (HN1.out.upd huz (fun g hg => by first | omega | (simp only at hg; omega))).weak (fun g hg => by first | omega | (simp only at hg; omega)), Box.grown HP.out.box huz (by intro h; injection h with h; omega), Upd.fresh HU.out huz (Nat.le_refl _)⟩
 replace HR := hid (HR.out.trans (Pars.alt_no hi))
 replace RB := bg RB hu
 replace HP := hid (HP.out.upd hx hu (by omega))
 replace HU := hid (HU.out.trans hu)
 replace HZW := hid (Nat.le_trans HZW.out hu.size)
 clear hi hx hu
 go_wp2_with fail
 refine (peek_any _ b ts A c k fn lp HP.out).mono ?_
 rintro e wp ⟨rfl, hb⟩
 obtain ⟨tcs, KD, TX, HPK, hq0, hq3, hq5, hqo, hqs⟩ := peek_cells ts k
 rw [hqs]
 clear hqs
 have HPK := hid HPK
 have HT5 := hid hq5
 have HTO := hid hqo
 have HTS : Hid ((Tryz.prog.info? 40).map (·.size) = some tcs.size) := hid (by rw [← hq5]; exact info_tok)
 clear hq5 hqo
 replace RB := bl RB hb
 replace HP := hid (HP.out.below hb)
 replace HU := hid (HU.out.step hb)
 replace HZW := hid (Nat.le_trans HZW.out hb.size)
 clear hb
 go_upto_region 30 with (refine wpList_store_box rfl 40 (.tmp 4) (.tmp 102) rfl wp.heap.size tcs rfl rfl 40 _ (Box.new wp _ _) HTS.out HT5.out HTO.out ?_; intro wq hxq huq hzq; have HZQ := hid hzq; clear hzq)
 have hb : Below wp.heap.size wp wq := ((Below.refl _ wp).alloc (Nat.le_refl _) _).trans (huq.own (Nat.le_refl _) (by simp))
 have p0 := (hxq.cell 0).trans hq0
 have p3 := (hxq.cell 3).trans hq3
 clear hq0 hq3
 replace RB := bl RB hb
 replace HP := hid (HP.out.below hb)
 replace HU := hid (HU.out.step hb)
 replace HZW := hid (Nat.le_trans HZW.out hb.size)
 clear hb hxq huq
 by_cases y4 : KD = 4
 ·subst y4
  by_cases yt : TX = ⟨#[123]⟩
  ·subst yt
   replace HR := hid (HR.out.trans (HPK.out _ _ |>.trans (if_pos ⟨rfl, rfl⟩)))
   obtain ⟨q1, q2⟩ := same_yes ⟨#[123]⟩
   go_wp2_with fail
   refine (h.block HP.out (by omega)).mono ?_
   rintro e wd (⟨x1, k1, cs1, hr, hk1, hk2, rfl, hn, hx, hu⟩ | ⟨hr, rfl, hu⟩)
   rotate_left
   ·exact ⟨rfl, .inr ⟨HR.out.trans hr, rfl, HU.out.trans hu⟩⟩
   replace HR := hid (HR.out.trans hr)
   have HN1 : Hid (NodeAt _ (fun g => W0.heap.size ≤ g) x1 cs1) := hid (hn.weak (fun g hg => by have := HZW.out; omega))
   have hcs1 : (Tryz.prog.info? 24).map (·.size) = some cs1.size := by rw [NodeAt.size hn]; exact info_nod
   have h41 : (4 : Nat) = cs1.size := (NodeAt.size hn).symm
   have hone1 := NodeAt.one hn
   have HCS1 := hid hcs1
   have H41 := hid h41
   have HONE1 := hid hone1
   replace RB := bg RB hu
   replace HP := hid (HP.out.upd hx hu (by omega))
   replace HU := hid (HU.out.trans hu)
   replace HZW := hid (Nat.le_trans HZW.out hu.size)
   clear hr hn hx hu hcs1 h41 hone1
   go_wp2_with (refine wpList_store_box rfl 24 (.tmp 2) (.tmp 112) rfl w.heap.size cs1 rfl rfl 24 _ RB.out HCS1.out H41.out HONE1.out ?_; intro wz hxz huz hzz; have HZZ := hid hzz; clear hzz)
   refine bodyPost_ret (results_box rfl _ _ w.heap.size 24 _ _ rfl hxz Tryz.underlying24 rfl HCS1.out) rfl ?_
   exact .inl ⟨x1, k1, cs1, HR.out, by omega, HP.out.kle, rfl, (HN1.out.upd huz (fun g hg => by first | omega | (simp only at hg; omega))).weak (fun g hg => by first | omega | (simp only at hg; omega)), Box.grown HP.out.box huz (by intro h; injection h with h; omega), Upd.fresh HU.out huz (Nat.le_refl _)⟩
  replace HR := hid (HR.out.trans (HPK.out _ _ |>.trans (if_neg (fun h => yt h.2))))
  obtain ⟨q1, q2, q3⟩ := same_no yt
  have q4 := of_decide_eq_false q2
  have q5 : (TX.toList == [123]) = false := by
   have e : (⟨#[123]⟩ : ByteArray).toList = [123] := by simp [ByteArray.toList_eq]
   rw [e] at q1
   exact q1
  clear yt
  go_wp2_with fail
  refine (h.expr HP.out (by omega)).mono ?_
  rintro e wx (⟨x1, k1, cs1, hr, hk1, hk2, rfl, hn, hx, hu⟩ | ⟨hr, rfl, hu⟩)
  rotate_left
  ·exact ⟨rfl, .inr ⟨HR.out.trans (Pars.and_no hr), rfl, HU.out.trans hu⟩⟩
  have hlt1 := got_lt hr rfl
  replace HR := hid (HR.out.trans (Pars.and_some hr))
  have HN1 : Hid (NodeAt _ (fun g => W0.heap.size ≤ g) x1 cs1) := hid (hn.weak (fun g hg => by have := HZW.out; omega))
  have hcs1 : (Tryz.prog.info? 24).map (·.size) = some cs1.size := by rw [NodeAt.size hn]; exact info_nod
  have h41 : (4 : Nat) = cs1.size := (NodeAt.size hn).symm
  have hone1 := NodeAt.one hn
  have HCS1 := hid hcs1
  have H41 := hid h41
  have HONE1 := hid hone1
  replace RB := bg RB hu
  replace HP := hid (HP.out.upd hx hu (by omega))
  replace HU := hid (HU.out.trans hu)
  replace HZW := hid (Nat.le_trans HZW.out hu.size)
  clear hr hn hx hu hcs1 h41 hone1
  have hleX := HP.out.kle
  obtain ⟨v1, hlit, hvo⟩ := NodeAt.lit HN1.out
  rw [hlit] at HN1 HCS1 H41 HONE1 ⊢
  have HVO1 := hid hvo
  clear hlit hvo
  go_wp2_with fail
  have bxB := Box.new wx 24 #[.int .i64 x1.kind, .int .i64 x1.num, .string (byt x1.text), v1]
  have hb : Below wx.heap.size wx (wx.alloc (.cells #[.int .i64 x1.kind, .int .i64 x1.num, .string (byt x1.text), v1] 24)) := below1 wx _
  obtain ⟨wb, hwb⟩ : ∃ wb, (wx.alloc (.cells #[.int .i64 x1.kind, .int .i64 x1.num, .string (byt x1.text), v1] 24)) = wb := ⟨_, rfl⟩
  rw [hwb] at bxB hb
  rw [hwb]
  clear hwb
  have hgB : W0.heap.size ≤ wx.heap.size := HZW.out
  replace RB := bl RB hb
  replace HN1 := hid (HN1.out.below hb)
  replace HP := hid (HP.out.below hb)
  replace HU := hid (HU.out.step hb)
  replace HZW := hid (Nat.le_trans HZW.out hb.size)
  have HNN : Hid (NodeAt wb (fun g => W0.heap.size ≤ g) (.mk 31 0 [] [x1]) #[.int .i64 31, .int .i64 0, .string ⟨#[]⟩, .slice (some ⟨wx.heap.size, 0, none⟩) 1 1]) := hid (NodeAt.build (css := [#[.int .i64 x1.kind, .int .i64 x1.num, .string (byt x1.text), v1]]) 31 0 [] bxB hgB ⟨HN1.out, trivial⟩)
  clear bxB hb
  refine (ended_any _ b ts A c (k1) fn lp #[.int .i64 31, .int .i64 0, .string ⟨#[]⟩, .slice (some ⟨wx.heap.size, 0, none⟩) 1 1] HP.out rfl (nz_one _ _ _ _ _ _)).mono ?_
  rintro e we (⟨hi, hk, rfl, hx, hu⟩ | ⟨hi, rfl, hu⟩)
  rotate_left
  ·exact ⟨rfl, .inr ⟨HR.out.trans (Pars.must_no hi), rfl, HU.out.trans hu⟩⟩
  replace HR := hid (HR.out.trans (Pars.must_some hi))
  replace RB := bg RB hu
  replace HNN := hid (HNN.out.upd hu (fun g hg => by first | omega | (simp only at hg; omega)))
  replace HP := hid (HP.out.upd hx hu (by omega))
  replace HU := hid (HU.out.trans hu)
  replace HZW := hid (Nat.le_trans HZW.out hu.size)
  clear hi hx hu
  have hleE := HP.out.kle
  go_wp2_with (refine wpList_store_box rfl 24 (.tmp 2) (.tmp 118) rfl w.heap.size #[.int .i64 31, .int .i64 0, .string ⟨#[]⟩, .slice (some ⟨wx.heap.size, 0, none⟩) 1 1] rfl rfl 24 _ RB.out info_nod rfl (nz_one _ _ _ _ _ _) ?_; intro wz hxz huz hzz; have HZZ := hid hzz; clear hzz)
  refine bodyPost_ret (results_box rfl _ _ w.heap.size 24 _ _ rfl hxz Tryz.underlying24 rfl info_nod) rfl ?_
  exact .inl ⟨(.mk 31 0 [] [x1]), k1 + 1, #[.int .i64 31, .int .i64 0, .string ⟨#[]⟩, .slice (some ⟨wx.heap.size, 0, none⟩) 1 1], HR.out, by omega, HP.out.kle, rfl, (HNN.out.upd huz (fun g hg => by first | omega | (simp only at hg; omega))).weak (fun g hg => by first | omega | (simp only at hg; omega)), Box.grown HP.out.box huz (by intro h; injection h with h; omega), Upd.fresh HU.out huz (Nat.le_refl _)⟩
 replace HR := hid (HR.out.trans (HPK.out _ _ |>.trans (if_neg (fun h => y4 h.1))))
 have n4 : ((KD : Int) == 4) = false := by rw [beq_eq_false_iff_ne]; omega
 clear y4
 go_wp2_with fail
 refine (h.expr HP.out (by omega)).mono ?_
 rintro e wx (⟨x1, k1, cs1, hr, hk1, hk2, rfl, hn, hx, hu⟩ | ⟨hr, rfl, hu⟩)
 rotate_left
 ·exact ⟨rfl, .inr ⟨HR.out.trans (Pars.and_no hr), rfl, HU.out.trans hu⟩⟩
 have hlt1 := got_lt hr rfl
 replace HR := hid (HR.out.trans (Pars.and_some hr))
 have HN1 : Hid (NodeAt _ (fun g => W0.heap.size ≤ g) x1 cs1) := hid (hn.weak (fun g hg => by have := HZW.out; omega))
 have hcs1 : (Tryz.prog.info? 24).map (·.size) = some cs1.size := by rw [NodeAt.size hn]; exact info_nod
 have h41 : (4 : Nat) = cs1.size := (NodeAt.size hn).symm
 have hone1 := NodeAt.one hn
 have HCS1 := hid hcs1
 have H41 := hid h41
 have HONE1 := hid hone1
 replace RB := bg RB hu
 replace HP := hid (HP.out.upd hx hu (by omega))
 replace HU := hid (HU.out.trans hu)
 replace HZW := hid (Nat.le_trans HZW.out hu.size)
 clear hr hn hx hu hcs1 h41 hone1
 have hleX := HP.out.kle
 obtain ⟨v1, hlit, hvo⟩ := NodeAt.lit HN1.out
 rw [hlit] at HN1 HCS1 H41 HONE1 ⊢
 have HVO1 := hid hvo
 clear hlit hvo
 go_wp2_with fail
 have bxB := Box.new wx 24 #[.int .i64 x1.kind, .int .i64 x1.num, .string (byt x1.text), v1]
 have hb : Below wx.heap.size wx (wx.alloc (.cells #[.int .i64 x1.kind, .int .i64 x1.num, .string (byt x1.text), v1] 24)) := below1 wx _
 obtain ⟨wb, hwb⟩ : ∃ wb, (wx.alloc (.cells #[.int .i64 x1.kind, .int .i64 x1.num, .string (byt x1.text), v1] 24)) = wb := ⟨_, rfl⟩
 rw [hwb] at bxB hb
 rw [hwb]
 clear hwb
 have hgB : W0.heap.size ≤ wx.heap.size := HZW.out
 replace RB := bl RB hb
 replace HN1 := hid (HN1.out.below hb)
 replace HP := hid (HP.out.below hb)
 replace HU := hid (HU.out.step hb)
 replace HZW := hid (Nat.le_trans HZW.out hb.size)
 have HNN : Hid (NodeAt wb (fun g => W0.heap.size ≤ g) (.mk 31 0 [] [x1]) #[.int .i64 31, .int .i64 0, .string ⟨#[]⟩, .slice (some ⟨wx.heap.size, 0, none⟩) 1 1]) := hid (NodeAt.build (css := [#[.int .i64 x1.kind, .int .i64 x1.num, .string (byt x1.text), v1]]) 31 0 [] bxB hgB ⟨HN1.out, trivial⟩)
 clear bxB hb
 refine (ended_any _ b ts A c (k1) fn lp #[.int .i64 31, .int .i64 0, .string ⟨#[]⟩, .slice (some ⟨wx.heap.size, 0, none⟩) 1 1] HP.out rfl (nz_one _ _ _ _ _ _)).mono ?_
 rintro e we (⟨hi, hk, rfl, hx, hu⟩ | ⟨hi, rfl, hu⟩)
 rotate_left
 ·exact ⟨rfl, .inr ⟨HR.out.trans (Pars.must_no hi), rfl, HU.out.trans hu⟩⟩
 replace HR := hid (HR.out.trans (Pars.must_some hi))
 replace RB := bg RB hu
 replace HNN := hid (HNN.out.upd hu (fun g hg => by first | omega | (simp only at hg; omega)))
 replace HP := hid (HP.out.upd hx hu (by omega))
 replace HU := hid (HU.out.trans hu)
 replace HZW := hid (Nat.le_trans HZW.out hu.size)
 clear hi hx hu
 have hleE := HP.out.kle
 go_wp2_with (refine wpList_store_box rfl 24 (.tmp 2) (.tmp 118) rfl w.heap.size #[.int .i64 31, .int .i64 0, .string ⟨#[]⟩, .slice (some ⟨wx.heap.size, 0, none⟩) 1 1] rfl rfl 24 _ RB.out info_nod rfl (nz_one _ _ _ _ _ _) ?_; intro wz hxz huz hzz; have HZZ := hid hzz; clear hzz)
 refine bodyPost_ret (results_box rfl _ _ w.heap.size 24 _ _ rfl hxz Tryz.underlying24 rfl info_nod) rfl ?_
 exact .inl ⟨(.mk 31 0 [] [x1]), k1 + 1, #[.int .i64 31, .int .i64 0, .string ⟨#[]⟩, .slice (some ⟨wx.heap.size, 0, none⟩) 1 1], HR.out, by omega, HP.out.kle, rfl, (HNN.out.upd huz (fun g hg => by first | omega | (simp only at hg; omega))).weak (fun g hg => by first | omega | (simp only at hg; omega)), Box.grown HP.out.box huz (by intro h; injection h with h; omega), Upd.fresh HU.out huz (Nat.le_refl _)⟩
end Go.Proofs.YtonjdlialejedaaGreatDoor
