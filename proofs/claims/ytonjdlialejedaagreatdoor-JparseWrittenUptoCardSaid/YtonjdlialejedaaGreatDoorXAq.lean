/-
  Texts that the law leans on: PmR. Conditions: as each says.
-/
import Derived.Test.YtonjdlialejedaaGreatDoorXAp
import Derived.Test.YtonjdlialejedaaGreatDoorXAa
set_option linter.unusedSimpArgs false
set_option linter.unusedVariables false
namespace Go.Proofs.YtonjdlialejedaaGreatDoor
open Go.Lib (hid)
open Go.RowKit
theorem tok_cells (ts : List KT) (k : Nat) : ∃ (tcs : Array Value) (KD : Nat) (TX : List UInt8) (NU : Int), here ts k = tcs ∧ tcs[0]? = some (.int .i64 (KD : Int)) ∧ tcs[3]? = some (.string (byt TX)) ∧ tcs[4]? = some (.int .i64 NU) ∧ (5 : Nat) = tcs.size ∧ tcs.all (·.oneCell') = true ∧
  (∀ q, q ≠ 0 → KD ≠ q → ∀ (f : Lexy.Tk → List Lexy.Tk → Pars.R) (g : Pars.R), Pars.tok q (left ts k) f g = g) ∧ (∀ q, q ≠ 0 → KD = q → ∃ t : Lexy.Tk, k < ts.length ∧ t.text = TX ∧ (t.num : Int) = NU ∧ ∀ (f : Lexy.Tk → List Lexy.Tk → Pars.R) (g : Pars.R), Pars.tok q (left ts k) f g = f t (left ts (k + 1))) := by
 refine ⟨here ts k, ?_⟩
 cases ht : ts[k]? with
 | none =>
  refine ⟨0, [], 0, rfl, by unfold here; rw [ht]; rfl, by unfold here; rw [ht]; rfl, by unfold here; rw [ht]; rfl, (ktok_size ts k).symm, ktok_one ts k, fun q hq hk f g => ?_, fun q hq hk => absurd hk.symm hq⟩
  rw [left_nil (List.getElem?_eq_none_iff.1 ht)]
  rfl
 | some t =>
  have hk := (List.getElem?_eq_some_iff.1 ht).1
  refine ⟨t.1.kind, t.1.text, t.1.num, rfl, by unfold here; rw [ht]; rfl, by unfold here; rw [ht]; rfl, by unfold here; rw [ht]; rfl, (ktok_size ts k).symm, ktok_one ts k, fun q hq hn f g => ?_, fun q hq he => ⟨t.1, hk, rfl, rfl, fun f g => ?_⟩⟩
  ·rw [left_cons ht]
   simp only [Pars.tok]
   rw [if_neg hn]
  ·rw [left_cons ht]
   simp only [Pars.tok]
   rw [if_pos he]
set_option maxRecDepth 100000 in
set_option maxHeartbeats 4000000 in
theorem first_step {n : Nat} (hall : ∀ m, m ≤ n → All m) : ∀ {w : World} {b : Nat} {ts : List KT} {A : Option Addr} {c k : Nat} {fn lp : Bool}, PSt w b ts A c k fn lp → 20 * (ts.length - k) + 2 < n + 1 → Calls Tryz.prog 106 #[.pointer (some ⟨b, 0, none⟩)] w (Got w b ts A c k fn lp (Pars.run (n + 1) .first fn lp (left ts k))) := by
 have h := hall n (Nat.le_refl _)
 intro w b ts A c k fn lp hP hm
 have HR : Hid (Pars.run (n + 1) .first fn lp (left ts k) = _) := hid (by rw [Pars.run])
 have hbl := hP.box.lt
 have hle := hP.kle
 go_enter Tryz.func106, Tryz.ntmps106
 go_upto_region 1 with fail
 refine gen_world (F := fun W => Box W w.heap.size 74 #[.pointer (some ⟨b, 0, none⟩)] ∧ Box W (w.heap.size + 1) 24 #[.int .i64 0, .int .i64 0, .string ⟨#[]⟩, .slice none 0 0] ∧ Below w.heap.size w W) ⟨(Box.new w _ _).alloc _, new2 w _ _ _, (below1 w _).alloc (by simp) _⟩ ?_
 rintro W0 ⟨p0, r0, hU⟩
 obtain ⟨i0, hi0, hi1, hi2, hi3⟩ := info_parts parts_nod
 have hlen := hP.len
 obtain ⟨pb, hpbe⟩ : ∃ q, w.heap.size = q := ⟨_, rfl⟩
 obtain ⟨B, hBe⟩ : ∃ q, W0.heap.size = q := ⟨_, rfl⟩
 have hpb : pb ≠ b := by omega
 have hrb : pb + 1 ≠ b := by omega
 have hrB : pb + 1 < B := by have := r0.lt; omega
 have hpB : pb < B := by omega
 have hbB : b < B := by omega
 have hwB : w.heap.size ≤ B := by omega
 have hpw : w.heap.size = pb := hpbe
 have HPB := hid hpbe
 have HBE := hid hBe
 rw [hpbe] at p0 r0 ⊢
 clear hpbe hpw
 have PX := hid p0
 have RB := hid r0
 have HP := hid (hP.below hU)
 have HA : Hid (0 < ts.length → ∀ g o, A = some ⟨g, o, none⟩ → g < B) := hid (hBe ▸ HP.out.old)
 have HW : Hid (Upd w W0 b) := hid (Upd.below hU b)
 have HU : Hid (UpdB B W0 W0 b) := hid (UpdB.refl _ _ _)
 have hBw : B ≤ W0.heap.size := Nat.le_of_eq hBe.symm
 clear p0 r0 hU hP hBe
 obtain ⟨tcs, KD, TX, NU, hqs, hq0, hq3, hq4, hq5, hqo, hqn, hqy⟩ := tok_cells ts k
 have px := PX.out.cell 0
 simp at px
 go_wp2_with fail
 clear px
 refine (peek_any _ b ts A c k fn lp HP.out).mono ?_
 rintro e wp ⟨rfl, hb⟩
 rw [hqs]
 clear hqs
 have HQN := hid hqn
 have HQY := hid hqy
 have HT5 := hid hq5
 have HTO := hid hqo
 have HTS : Hid ((Tryz.prog.info? 40).map (·.size) = some tcs.size) := hid (by rw [← hq5]; exact info_tok)
 clear hq5 hqo hqn hqy
 replace PX := bl PX hb
 replace RB := bl RB hb
 replace HP := hid (HP.out.below hb)
 replace HU := hid (HU.out.trans (UpdB.of_below hb hBw))
 replace hBw := Nat.le_trans hBw hb.size
 clear hb
 go_upto_region 2 with (refine wpList_store_box rfl 40 (.tmp 3) (.tmp 7) rfl wp.heap.size tcs rfl rfl 40 _ (Box.new wp _ _) HTS.out HT5.out HTO.out ?_; intro wq hxq huq hzq; have HZQ := hid hzq; clear hzq)
 have hb : Below wp.heap.size wp wq := ((Below.refl _ wp).alloc (Nat.le_refl _) _).trans (huq.own (Nat.le_refl _) (by simp))
 have TB := hid hxq
 have p0 := (hxq.cell 0).trans hq0
 have hbt : b < wp.heap.size := by omega
 replace PX := bl PX hb
 replace RB := bl RB hb
 replace HP := hid (HP.out.below hb)
 replace HU := hid (HU.out.trans (UpdB.of_below hb hBw))
 replace hBw := Nat.le_trans hBw hb.size
 clear hb hxq huq HZQ
 have HQ3 := hid hq3
 have HQ4 := hid hq4
 clear hq0 hq3 hq4
 obtain ⟨tb, htb⟩ : ∃ tb, wp.heap.size = tb := ⟨_, rfl⟩
 rw [htb] at TB p0 hbt ⊢
 clear htb
 by_cases y2 : KD = 2
 ·subst y2
  obtain ⟨tk, hkl, htx, hnu, hall2⟩ := HQY.out 2 (by decide) rfl
  replace HR := hid (HR.out.trans (hall2 _ _))
  (try rw [htx] at HR)
  (try rw [hnu] at HR)
  clear htx hnu hall2
  have kb := HP.out.box.cell 1
  simp [pc] at kb
  have kf : wq.frozen? ⟨b, 1, none⟩ = false := HP.out.box.frozen 1
  have wk : IntKind.i64.wrap ((k : Int) + 1) = (k : Int) + 1 := by rw [IntKind.wrap_i64]; omega
  have px := PX.out.cell 0
  simp at px
  go_upto_region 5 with fail
  clear px kb kf p0
  refine gen_world (F := fun W => Box W b 76 (pc (.slice A ts.length c) (k + 1) fn lp) ∧ Upd wq W b) ⟨HP.out.box.set 1 (.int .i64 ((k : Int) + 1)), (Upd.refl _ b).set (.inl rfl) _⟩ ?_
  rintro wr ⟨hx, hu⟩
  have TB2 : Box wr tb 40 tcs := Box.grown TB.out hu (by intro h; injection h with h; omega)
  have hub := UpdB.of_upd hu hBw
  replace PX := bg PX hu
  replace RB := bg RB hu
  replace HP := hid (HP.out.upd hx hu (by omega))
  replace HU := hid (HU.out.trans hub)
  replace hBw := Nat.le_trans hBw hu.size
  clear hub
  clear hx hu
  have tl := (TB2.cell 4).trans HQ4.out
  clear TB2
  go_wp2_with (refine wpList_store_box rfl 24 (.tmp 2) (.tmp 21) rfl (pb + 1) #[.int .i64 1, .int .i64 NU, .string ⟨#[]⟩, .slice none 0 0] rfl rfl 24 _ RB.out info_nod rfl (nz_one _ _ _ _ _ _) ?_; intro wz hxz huz hzz; have HZZ := hid hzz; clear hzz)
  refine bodyPost_ret (results_box rfl _ _ (pb + 1) 24 _ _ rfl hxz Tryz.underlying24 rfl info_nod) rfl ?_
  exact .inl ⟨.mk 1 NU [] [], k + 1, _, HR.out, by omega, HP.out.kle, rfl, NodeAt.leaf _ _ 1 NU [], Box.grown HP.out.box huz (by intro h; injection h with h; omega), Upd.fresh (HW.out.updB HU.out hwB) huz (by have := HPB.out; omega)⟩
 replace HR := hid (HR.out.trans (HQN.out 2 (by decide) y2 _ _))
 have n2 : ((KD : Int) == 2) = false := by rw [beq_eq_false_iff_ne]; omega
 have m2 : ¬ (KD : Int) = 2 := by omega
 by_cases y3 : KD = 3
 ·subst y3
  obtain ⟨tk, hkl, htx, hnu, hall2⟩ := HQY.out 3 (by decide) rfl
  replace HR := hid (HR.out.trans (hall2 _ _))
  (try rw [htx] at HR)
  (try rw [hnu] at HR)
  clear htx hnu hall2
  have kb := HP.out.box.cell 1
  simp [pc] at kb
  have kf : wq.frozen? ⟨b, 1, none⟩ = false := HP.out.box.frozen 1
  have wk : IntKind.i64.wrap ((k : Int) + 1) = (k : Int) + 1 := by rw [IntKind.wrap_i64]; omega
  have px := PX.out.cell 0
  simp at px
  go_upto_region 8 with fail
  clear px kb kf p0
  refine gen_world (F := fun W => Box W b 76 (pc (.slice A ts.length c) (k + 1) fn lp) ∧ Upd wq W b) ⟨HP.out.box.set 1 (.int .i64 ((k : Int) + 1)), (Upd.refl _ b).set (.inl rfl) _⟩ ?_
  rintro wr ⟨hx, hu⟩
  have TB2 : Box wr tb 40 tcs := Box.grown TB.out hu (by intro h; injection h with h; omega)
  have hub := UpdB.of_upd hu hBw
  replace PX := bg PX hu
  replace RB := bg RB hu
  replace HP := hid (HP.out.upd hx hu (by omega))
  replace HU := hid (HU.out.trans hub)
  replace hBw := Nat.le_trans hBw hu.size
  clear hub
  clear hx hu
  have tl := (TB2.cell 3).trans HQ3.out
  clear TB2
  go_wp2_with (refine wpList_store_box rfl 24 (.tmp 2) (.tmp 33) rfl (pb + 1) #[.int .i64 2, .int .i64 0, .string (byt TX), .slice none 0 0] rfl rfl 24 _ RB.out info_nod rfl (nz_one _ _ _ _ _ _) ?_; intro wz hxz huz hzz; have HZZ := hid hzz; clear hzz)
  refine bodyPost_ret (results_box rfl _ _ (pb + 1) 24 _ _ rfl hxz Tryz.underlying24 rfl info_nod) rfl ?_
  exact .inl ⟨.mk 2 0 TX [], k + 1, _, HR.out, by omega, HP.out.kle, rfl, NodeAt.leaf _ _ 2 0 TX, Box.grown HP.out.box huz (by intro h; injection h with h; omega), Upd.fresh (HW.out.updB HU.out hwB) huz (by have := HPB.out; omega)⟩
 replace HR := hid (HR.out.trans (HQN.out 3 (by decide) y3 _ _))
 have n3 : ((KD : Int) == 3) = false := by rw [beq_eq_false_iff_ne]; omega
 have m3 : ¬ (KD : Int) = 3 := by omega
 by_cases y1 : KD = 1
 ·subst y1
  obtain ⟨tk, hkl, htx, hnu, hall2⟩ := HQY.out 1 (by decide) rfl
  replace HR := hid (HR.out.trans (hall2 _ _))
  (try rw [htx] at HR)
  (try rw [hnu] at HR)
  clear htx hnu hall2
  have kb := HP.out.box.cell 1
  simp [pc] at kb
  have kf : wq.frozen? ⟨b, 1, none⟩ = false := HP.out.box.frozen 1
  have wk : IntKind.i64.wrap ((k : Int) + 1) = (k : Int) + 1 := by rw [IntKind.wrap_i64]; omega
  have px := PX.out.cell 0
  simp at px
  go_upto_region 11 with fail
  clear px kb kf p0
  refine gen_world (F := fun W => Box W b 76 (pc (.slice A ts.length c) (k + 1) fn lp) ∧ Upd wq W b) ⟨HP.out.box.set 1 (.int .i64 ((k : Int) + 1)), (Upd.refl _ b).set (.inl rfl) _⟩ ?_
  rintro wr ⟨hx, hu⟩
  have TB2 : Box wr tb 40 tcs := Box.grown TB.out hu (by intro h; injection h with h; omega)
  have hub := UpdB.of_upd hu hBw
  replace PX := bg PX hu
  replace RB := bg RB hu
  replace HP := hid (HP.out.upd hx hu (by omega))
  replace HU := hid (HU.out.trans hub)
  replace hBw := Nat.le_trans hBw hu.size
  clear hub
  clear hx hu
  have tl := (TB2.cell 3).trans HQ3.out
  clear TB2
  go_wp2_with (refine wpList_store_box rfl 24 (.tmp 2) (.tmp 45) rfl (pb + 1) #[.int .i64 5, .int .i64 0, .string (byt TX), .slice none 0 0] rfl rfl 24 _ RB.out info_nod rfl (nz_one _ _ _ _ _ _) ?_; intro wz hxz huz hzz; have HZZ := hid hzz; clear hzz)
  refine bodyPost_ret (results_box rfl _ _ (pb + 1) 24 _ _ rfl hxz Tryz.underlying24 rfl info_nod) rfl ?_
  exact .inl ⟨.mk 5 0 TX [], k + 1, _, HR.out, by omega, HP.out.kle, rfl, NodeAt.leaf _ _ 5 0 TX, Box.grown HP.out.box huz (by intro h; injection h with h; omega), Upd.fresh (HW.out.updB HU.out hwB) huz (by have := HPB.out; omega)⟩
 replace HR := hid (HR.out.trans (HQN.out 1 (by decide) y1 _ _))
 have n1 : ((KD : Int) == 1) = false := by rw [beq_eq_false_iff_ne]; omega
 have m1 : ¬ (KD : Int) = 1 := by omega
 clear HQN HQY TB HQ3 HQ4 hbt
 have px := PX.out.cell 0
 simp at px
 go_wp2_with fail
 clear px
 refine (is_any Pars.wTrue _ b ts A c (k) fn lp HP.out).mono ?_
 rintro e i1 (⟨hi, hk, rfl, hx, hu⟩ | ⟨hi, rfl, hx, hu⟩)
 ·replace HR := hid (HR.out.trans (Pars.alt_some hi))
  have hub := UpdB.of_upd hu hBw
  replace PX := bg PX hu
  replace RB := bg RB hu
  replace HP := hid (HP.out.upd hx hu (by omega))
  replace HU := hid (HU.out.trans hub)
  replace hBw := Nat.le_trans hBw hu.size
  clear hub
  clear hi hx hu
  have hleA := HP.out.kle
  go_wp2_with (refine wpList_store_box rfl 24 (.tmp 2) (.tmp 49) rfl (pb + 1) #[.int .i64 3, .int .i64 1, .string ⟨#[]⟩, .slice none 0 0] rfl rfl 24 _ RB.out info_nod rfl (nz_one _ _ _ _ _ _) ?_; intro wz hxz huz hzz; have HZZ := hid hzz; clear hzz)
  refine bodyPost_ret (results_box rfl _ _ (pb + 1) 24 _ _ rfl hxz Tryz.underlying24 rfl info_nod) rfl ?_
  exact .inl ⟨.mk 3 1 [] [], k + 1, _, HR.out, by omega, HP.out.kle, rfl, NodeAt.leaf _ _ 3 1 [], Box.grown HP.out.box huz (by intro h; injection h with h; omega), Upd.fresh (HW.out.updB HU.out hwB) huz (by have := HPB.out; omega)⟩
 replace HR := hid (HR.out.trans (Pars.alt_no hi))
 have hub := UpdB.of_upd hu hBw
 replace PX := bg PX hu
 replace RB := bg RB hu
 replace HP := hid (HP.out.upd hx hu (by omega))
 replace HU := hid (HU.out.trans hub)
 replace hBw := Nat.le_trans hBw hu.size
 clear hub
 clear hi hx hu
 have px := PX.out.cell 0
 simp at px
 go_wp2_with fail
 clear px
 refine (is_any Pars.wFalse _ b ts A c (k) fn lp HP.out).mono ?_
 rintro e i2 (⟨hi, hk, rfl, hx, hu⟩ | ⟨hi, rfl, hx, hu⟩)
 ·replace HR := hid (HR.out.trans (Pars.alt_some hi))
  have hub := UpdB.of_upd hu hBw
  replace PX := bg PX hu
  replace RB := bg RB hu
  replace HP := hid (HP.out.upd hx hu (by omega))
  replace HU := hid (HU.out.trans hub)
  replace hBw := Nat.le_trans hBw hu.size
  clear hub
  clear hi hx hu
  have hleA := HP.out.kle
  go_wp2_with (refine wpList_store_box rfl 24 (.tmp 2) (.tmp 53) rfl (pb + 1) #[.int .i64 3, .int .i64 0, .string ⟨#[]⟩, .slice none 0 0] rfl rfl 24 _ RB.out info_nod rfl (nz_one _ _ _ _ _ _) ?_; intro wz hxz huz hzz; have HZZ := hid hzz; clear hzz)
  refine bodyPost_ret (results_box rfl _ _ (pb + 1) 24 _ _ rfl hxz Tryz.underlying24 rfl info_nod) rfl ?_
  exact .inl ⟨.mk 3 0 [] [], k + 1, _, HR.out, by omega, HP.out.kle, rfl, NodeAt.leaf _ _ 3 0 [], Box.grown HP.out.box huz (by intro h; injection h with h; omega), Upd.fresh (HW.out.updB HU.out hwB) huz (by have := HPB.out; omega)⟩
 replace HR := hid (HR.out.trans (Pars.alt_no hi))
 have hub := UpdB.of_upd hu hBw
 replace PX := bg PX hu
 replace RB := bg RB hu
 replace HP := hid (HP.out.upd hx hu (by omega))
 replace HU := hid (HU.out.trans hub)
 replace hBw := Nat.le_trans hBw hu.size
 clear hub
 clear hi hx hu
 have px := PX.out.cell 0
 simp at px
 go_wp2_with fail
 clear px
 refine (is_any Pars.wNull _ b ts A c (k) fn lp HP.out).mono ?_
 rintro e i3 (⟨hi, hk, rfl, hx, hu⟩ | ⟨hi, rfl, hx, hu⟩)
 ·replace HR := hid (HR.out.trans (Pars.alt_some hi))
  have hub := UpdB.of_upd hu hBw
  replace PX := bg PX hu
  replace RB := bg RB hu
  replace HP := hid (HP.out.upd hx hu (by omega))
  replace HU := hid (HU.out.trans hub)
  replace hBw := Nat.le_trans hBw hu.size
  clear hub
  clear hi hx hu
  have hleA := HP.out.kle
  go_wp2_with (refine wpList_store_box rfl 24 (.tmp 2) (.tmp 57) rfl (pb + 1) #[.int .i64 4, .int .i64 0, .string ⟨#[]⟩, .slice none 0 0] rfl rfl 24 _ RB.out info_nod rfl (nz_one _ _ _ _ _ _) ?_; intro wz hxz huz hzz; have HZZ := hid hzz; clear hzz)
  refine bodyPost_ret (results_box rfl _ _ (pb + 1) 24 _ _ rfl hxz Tryz.underlying24 rfl info_nod) rfl ?_
  exact .inl ⟨.mk 4 0 [] [], k + 1, _, HR.out, by omega, HP.out.kle, rfl, NodeAt.leaf _ _ 4 0 [], Box.grown HP.out.box huz (by intro h; injection h with h; omega), Upd.fresh (HW.out.updB HU.out hwB) huz (by have := HPB.out; omega)⟩
 replace HR := hid (HR.out.trans (Pars.alt_no hi))
 have hub := UpdB.of_upd hu hBw
 replace PX := bg PX hu
 replace RB := bg RB hu
 replace HP := hid (HP.out.upd hx hu (by omega))
 replace HU := hid (HU.out.trans hub)
 replace hBw := Nat.le_trans hBw hu.size
 clear hub
 clear hi hx hu
 have px := PX.out.cell 0
 simp at px
 go_wp2_with fail
 clear px
 refine (is_any Pars.wFn _ b ts A c (k) fn lp HP.out).mono ?_
 rintro e i4 (⟨hi, hk, rfl, hx, hu⟩ | ⟨hi, rfl, hx, hu⟩)
 ·replace HR := hid (HR.out.trans (Pars.alt_some hi))
  have hub := UpdB.of_upd hu hBw
  replace PX := bg PX hu
  replace RB := bg RB hu
  replace HP := hid (HP.out.upd hx hu (by omega))
  replace HU := hid (HU.out.trans hub)
  replace hBw := Nat.le_trans hBw hu.size
  clear hub
  clear hi hx hu
  have hleA := HP.out.kle
  have px := PX.out.cell 0
  simp at px
  go_wp2_with fail
  clear px
  refine (h.func [] HP.out (by omega)).mono ?_
  rintro e wd (⟨x1, k1, cs1, hr, hk1, hk2, rfl, hn, hx, hu⟩ | ⟨hr, rfl, hu⟩)
  rotate_left
  ·exact ⟨rfl, .inr ⟨HR.out.trans (hr), rfl, HW.out.updB (HU.out.trans (UpdB.of_upd hu hBw)) hwB⟩⟩
  replace HR := hid (HR.out.trans hr)
  have HN1 : Hid (NodeAt wd (fun g => B ≤ g) x1 cs1) := hid (hn.weak (fun g hg => by omega))
  have hub := UpdB.of_upd hu hBw
  replace PX := bg PX hu
  replace RB := bg RB hu
  replace HP := hid (HP.out.upd hx hu (by omega))
  replace HU := hid (HU.out.trans hub)
  replace hBw := Nat.le_trans hBw hu.size
  clear hub
  clear hr hn hx hu
  obtain ⟨v1, hlit, hvo⟩ := NodeAt.lit HN1.out
  rw [hlit] at HN1 ⊢
  have HVO1 := hid hvo
  clear hlit hvo
  have hleX := HP.out.kle
  go_wp2_with (refine wpList_store_box rfl 24 (.tmp 2) (.tmp 62) rfl (pb + 1) #[.int .i64 x1.kind, .int .i64 x1.num, .string (byt x1.text), v1] rfl rfl 24 _ RB.out info_nod rfl (nc_one _ _ _ HVO1.out) ?_; intro wz hxz huz hzz; have HZZ := hid hzz; clear hzz)
  refine bodyPost_ret (results_box rfl _ _ (pb + 1) 24 _ _ rfl hxz Tryz.underlying24 rfl info_nod) rfl ?_
  exact .inl ⟨x1, k1, _, HR.out, by omega, HP.out.kle, rfl, (HN1.out.upd huz (fun g hg => by have : B ≤ g := hg; omega)).weak (fun g hg => by have : B ≤ g := hg; omega), Box.grown HP.out.box huz (by intro h; injection h with h; omega), Upd.fresh (HW.out.updB HU.out hwB) huz (by have := HPB.out; omega)⟩
 replace HR := hid (HR.out.trans (Pars.alt_no hi))
 have hub := UpdB.of_upd hu hBw
 replace PX := bg PX hu
 replace RB := bg RB hu
 replace HP := hid (HP.out.upd hx hu (by omega))
 replace HU := hid (HU.out.trans hub)
 replace hBw := Nat.le_trans hBw hu.size
 clear hub
 clear hi hx hu
 have px := PX.out.cell 0
 simp at px
 go_wp2_with fail
 clear px
 refine (is_any [91] _ b ts A c (k) fn lp HP.out).mono ?_
 rintro e i5 (⟨hi, hk, rfl, hx, hu⟩ | ⟨hi, rfl, hx, hu⟩)
 ·replace HR := hid (HR.out.trans (Pars.alt_some hi))
  have hub := UpdB.of_upd hu hBw
  replace PX := bg PX hu
  replace RB := bg RB hu
  replace HP := hid (HP.out.upd hx hu (by omega))
  replace HU := hid (HU.out.trans hub)
  replace hBw := Nat.le_trans hBw hu.size
  clear hub
  clear hi hx hu
  have hleA := HP.out.kle
  go_upto_region 22 with (refine wpList_store_box rfl 24 (.tmp 4) (.tmp 66) rfl i5.heap.size #[.int .i64 6, .int .i64 0, .string ⟨#[]⟩, .slice none 0 0] rfl rfl 24 _ (Box.new i5 _ _) info_nod rfl (nc_one _ _ _ rfl) ?_; intro wl hx hv hz; have HZO := hid hz; clear hz)
  have hb : Below i5.heap.size i5 wl := ((Below.refl _ i5).alloc (Nat.le_refl _) _).trans (hv.own (Nat.le_refl _) (by simp))
  have OB : Hid (Box wl i5.heap.size 24 (nc 6 0 [] (.slice none 0 0))) := hid hx
  have hoB : B ≤ i5.heap.size := hBw
  replace PX := bl PX hb
  replace RB := bl RB hb
  replace HP := hid (HP.out.below hb)
  replace HU := hid (HU.out.trans (UpdB.of_below hb hBw))
  replace hBw := Nat.le_trans hBw hb.size
  have KOF := hid (KO.nil wl B i5.heap.size)
  clear hx hv hb HZO
  obtain ⟨oa, hoa⟩ : ∃ oa, i5.heap.size = oa := ⟨_, rfl⟩
  rw [hoa] at OB KOF hoB ⊢
  clear hoa
  (try simp only [Act.put])
  have px := PX.out.cell 0
  simp at px
  go_wp2_with fail
  clear px
  refine (some_any [93] .expression rfl 114 #[.pointer (some ⟨oa, 0, none⟩), .pointer (some ⟨pb, 0, none⟩)] eg_l n B b oa pb ts A c fn lp 6 0 [] (fun q hq => one_list (hall q (by omega)) B b oa pb ts A c fn lp 6 0 [] hbB hpB hpb hoB HA.out) hbB hpB hpb hoB HA.out _ (k + 1) _ [] (by simp) HP.out PX.out OB.out KOF.out hBw (by omega)).mono ?_
  rintro e wm (⟨ll, k1, kvs, hr, hk1, hkl1, hll, rfl, hox, hko, hx, hu⟩ | ⟨hr, rfl, hu⟩)
  rotate_left
  ·exact ⟨rfl, .inr ⟨HR.out.trans (Pars.and_no (some_no hr)), rfl, HW.out.updB (HU.out.trans hu) hwB⟩⟩
  obtain ⟨ys, hy, rfl⟩ := some_yes hr
  replace HR := hid (HR.out.trans (Pars.and_some hy))
  replace HP := hid (HP.out.updB hx hu hkl1 HA.out)
  replace PX := hid (PX.out.updB hu hpB hpb)
  replace RB := hid (RB.out.updB hu hrB hrb)
  replace HU := hid (HU.out.trans hu)
  replace hBw := Nat.le_trans hBw hu.size
  replace OB := hid hox
  replace KOF := hid hko
  clear hr hy hox hko hx hu
  have hleB := HP.out.kle
  rw [List.nil_append] at KOF
  have ob := OB.out
  go_wp2_with (first | (refine wpList_load_row rfl 24 (.tmp 4) rfl (oa) rfl _ (nc 6 0 [] kvs) (0, 0) _ ob Tryz.underlying24 rfl info_nod ?_) | (refine wpList_store_box rfl 24 (.tmp 2) (.tmp 70) rfl (pb + 1) (nc 6 0 [] kvs) rfl rfl 24 _ RB.out info_nod rfl (nc_own _ _ _ KOF.out) ?_; intro wy hxz huz hzz; have HZZ := hid hzz; clear hzz))
  refine bodyPost_ret (results_box rfl _ _ (pb + 1) 24 _ _ rfl hxz Tryz.underlying24 rfl info_nod) rfl ?_
  exact .inl ⟨.mk 6 0 [] (ys.kids), k1, _, HR.out, by omega, HP.out.kle, rfl, ((KOF.out.node 6 0 []).upd huz (fun g hg => by have := hg.1; omega)).weak (fun g hg => by have := hg.1; omega), Box.grown HP.out.box huz (by intro h; injection h with h; omega), Upd.fresh (HW.out.updB HU.out hwB) huz (by have := HPB.out; omega)⟩
 replace HR := hid (HR.out.trans (Pars.alt_no hi))
 have hub := UpdB.of_upd hu hBw
 replace PX := bg PX hu
 replace RB := bg RB hu
 replace HP := hid (HP.out.upd hx hu (by omega))
 replace HU := hid (HU.out.trans hub)
 replace hBw := Nat.le_trans hBw hu.size
 clear hub
 clear hi hx hu
 have px := PX.out.cell 0
 simp at px
 go_wp2_with fail
 clear px
 refine (is_any [123] _ b ts A c (k) fn lp HP.out).mono ?_
 rintro e i6 (⟨hi, hk, rfl, hx, hu⟩ | ⟨hi, rfl, hx, hu⟩)
 ·replace HR := hid (HR.out.trans (Pars.alt_some hi))
  have hub := UpdB.of_upd hu hBw
  replace PX := bg PX hu
  replace RB := bg RB hu
  replace HP := hid (HP.out.upd hx hu (by omega))
  replace HU := hid (HU.out.trans hub)
  replace hBw := Nat.le_trans hBw hu.size
  clear hub
  clear hi hx hu
  have hleA := HP.out.kle
  go_upto_region 26 with (refine wpList_store_box rfl 24 (.tmp 5) (.tmp 74) rfl i6.heap.size #[.int .i64 7, .int .i64 0, .string ⟨#[]⟩, .slice none 0 0] rfl rfl 24 _ (Box.new i6 _ _) info_nod rfl (nc_one _ _ _ rfl) ?_; intro wl hx hv hz; have HZO := hid hz; clear hz)
  have hb : Below i6.heap.size i6 wl := ((Below.refl _ i6).alloc (Nat.le_refl _) _).trans (hv.own (Nat.le_refl _) (by simp))
  have OB : Hid (Box wl i6.heap.size 24 (nc 7 0 [] (.slice none 0 0))) := hid hx
  have hoB : B ≤ i6.heap.size := hBw
  replace PX := bl PX hb
  replace RB := bl RB hb
  replace HP := hid (HP.out.below hb)
  replace HU := hid (HU.out.trans (UpdB.of_below hb hBw))
  replace hBw := Nat.le_trans hBw hb.size
  have KOF := hid (KO.nil wl B i6.heap.size)
  clear hx hv hb HZO
  obtain ⟨oa, hoa⟩ : ∃ oa, i6.heap.size = oa := ⟨_, rfl⟩
  rw [hoa] at OB KOF hoB ⊢
  clear hoa
  (try simp only [Act.put])
  have px := PX.out.cell 0
  simp at px
  go_wp2_with fail
  clear px
  refine (some_any [125] .pair rfl 115 #[.pointer (some ⟨pb, 0, none⟩), .pointer (some ⟨oa, 0, none⟩)] eg_r n B b oa pb ts A c fn lp 7 0 [] (fun q hq => one_pair (fun r hr => hall r (by omega)) B b oa pb ts A c fn lp 7 0 [] hbB hpB hpb hoB HA.out) hbB hpB hpb hoB HA.out _ (k + 1) _ [] (by simp) HP.out PX.out OB.out KOF.out hBw (by omega)).mono ?_
  rintro e wm (⟨ll, k1, kvs, hr, hk1, hkl1, hll, rfl, hox, hko, hx, hu⟩ | ⟨hr, rfl, hu⟩)
  rotate_left
  ·exact ⟨rfl, .inr ⟨HR.out.trans (Pars.and_no (some_no hr)), rfl, HW.out.updB (HU.out.trans hu) hwB⟩⟩
  obtain ⟨ys, hy, rfl⟩ := some_yes hr
  replace HR := hid (HR.out.trans (Pars.and_some hy))
  replace HP := hid (HP.out.updB hx hu hkl1 HA.out)
  replace PX := hid (PX.out.updB hu hpB hpb)
  replace RB := hid (RB.out.updB hu hrB hrb)
  replace HU := hid (HU.out.trans hu)
  replace hBw := Nat.le_trans hBw hu.size
  replace OB := hid hox
  replace KOF := hid hko
  clear hr hy hox hko hx hu
  have hleB := HP.out.kle
  rw [List.nil_append] at KOF
  have ob := OB.out
  go_wp2_with (first | (refine wpList_load_row rfl 24 (.tmp 5) rfl (oa) rfl _ (nc 7 0 [] kvs) (0, 0) _ ob Tryz.underlying24 rfl info_nod ?_) | (refine wpList_store_box rfl 24 (.tmp 2) (.tmp 78) rfl (pb + 1) (nc 7 0 [] kvs) rfl rfl 24 _ RB.out info_nod rfl (nc_own _ _ _ KOF.out) ?_; intro wy hxz huz hzz; have HZZ := hid hzz; clear hzz))
  refine bodyPost_ret (results_box rfl _ _ (pb + 1) 24 _ _ rfl hxz Tryz.underlying24 rfl info_nod) rfl ?_
  exact .inl ⟨.mk 7 0 [] (ys.kids), k1, _, HR.out, by omega, HP.out.kle, rfl, ((KOF.out.node 7 0 []).upd huz (fun g hg => by have := hg.1; omega)).weak (fun g hg => by have := hg.1; omega), Box.grown HP.out.box huz (by intro h; injection h with h; omega), Upd.fresh (HW.out.updB HU.out hwB) huz (by have := HPB.out; omega)⟩
 replace HR := hid (HR.out.trans (Pars.alt_no hi))
 have hub := UpdB.of_upd hu hBw
 replace PX := bg PX hu
 replace RB := bg RB hu
 replace HP := hid (HP.out.upd hx hu (by omega))
 replace HU := hid (HU.out.trans hub)
 replace hBw := Nat.le_trans hBw hu.size
 clear hub
 clear hi hx hu
 have px := PX.out.cell 0
 simp at px
 go_wp2_with fail
 clear px
 refine (h.inner HP.out (by omega)).mono ?_
 rintro e wd (⟨x1, k1, cs1, hr, hk1, hk2, rfl, hn, hx, hu⟩ | ⟨hr, rfl, hu⟩)
 rotate_left
 ·exact ⟨rfl, .inr ⟨HR.out.trans (hr), rfl, HW.out.updB (HU.out.trans (UpdB.of_upd hu hBw)) hwB⟩⟩
 replace HR := hid (HR.out.trans hr)
 have HN1 : Hid (NodeAt wd (fun g => B ≤ g) x1 cs1) := hid (hn.weak (fun g hg => by omega))
 have hub := UpdB.of_upd hu hBw
 replace PX := bg PX hu
 replace RB := bg RB hu
 replace HP := hid (HP.out.upd hx hu (by omega))
 replace HU := hid (HU.out.trans hub)
 replace hBw := Nat.le_trans hBw hu.size
 clear hub
 clear hr hn hx hu
 obtain ⟨v1, hlit, hvo⟩ := NodeAt.lit HN1.out
 rw [hlit] at HN1 ⊢
 have HVO1 := hid hvo
 clear hlit hvo
 have hleX := HP.out.kle
 go_wp2_with (refine wpList_store_box rfl 24 (.tmp 2) (.tmp 80) rfl (pb + 1) #[.int .i64 x1.kind, .int .i64 x1.num, .string (byt x1.text), v1] rfl rfl 24 _ RB.out info_nod rfl (nc_one _ _ _ HVO1.out) ?_; intro wz hxz huz hzz; have HZZ := hid hzz; clear hzz)
 refine bodyPost_ret (results_box rfl _ _ (pb + 1) 24 _ _ rfl hxz Tryz.underlying24 rfl info_nod) rfl ?_
 exact .inl ⟨x1, k1, _, HR.out, by omega, HP.out.kle, rfl, (HN1.out.upd huz (fun g hg => by have : B ≤ g := hg; omega)).weak (fun g hg => by have : B ≤ g := hg; omega), Box.grown HP.out.box huz (by intro h; injection h with h; omega), Upd.fresh (HW.out.updB HU.out hwB) huz (by have := HPB.out; omega)⟩
end Go.Proofs.YtonjdlialejedaaGreatDoor
