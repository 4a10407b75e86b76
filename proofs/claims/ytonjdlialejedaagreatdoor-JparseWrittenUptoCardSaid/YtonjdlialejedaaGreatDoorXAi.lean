/-
  Texts that the law leans on: PmJ. Conditions: as each says.
-/
import Derived.Test.YtonjdlialejedaaGreatDoorXAh
import Derived.Test.YtonjdlialejedaaGreatDoorXAa
set_option linter.unusedSimpArgs false
set_option linter.unusedVariables false
namespace Go.Proofs.YtonjdlialejedaaGreatDoor
open Go.Lib (hid)
open Go.RowKit
set_option maxRecDepth 100000 in
set_option maxHeartbeats 4000000 in
theorem body_step {n : Nat} (h : All n) : ∀ (f : Bool), ∀ {w : World} {b : Nat} {ts : List KT} {A : Option Addr} {c k : Nat} {fn lp : Bool}, PSt w b ts A c k fn lp → 20 * (ts.length - k) + 2 < n + 1 → Calls Tryz.prog 55 #[.pointer (some ⟨b, 0, none⟩), .bool f] w (Got w b ts A c k fn lp (Pars.run (n + 1) (.body f) fn lp (left ts k))) := by
 intro f w b ts A c k fn lp hP hm
 have HR : Hid (Pars.run (n + 1) (.body f) fn lp (left ts k) = _) := hid (by rw [Pars.run])
 have hbl := hP.box.lt
 have hle := hP.kle
 go_enter Tryz.func55, Tryz.ntmps55
 go_upto_region 1 with fail
 refine gen_world (F := fun W => Box W w.heap.size 24 #[.int .i64 0, .int .i64 0, .string ⟨#[]⟩, .slice none 0 0] ∧ Below w.heap.size w W) ⟨Box.new w _ _, below1 w _⟩ ?_
 rintro W0 ⟨r0, hU⟩
 have RB := hid r0
 have HP := hid (hP.below hU)
 have HU : Hid (Upd w W0 b) := hid (Upd.below hU b)
 have HZ : Hid (w.heap.size < W0.heap.size) := hid r0.lt
 have hz0 := r0.lt
 have HZW : Hid (W0.heap.size ≤ W0.heap.size) := hid (Nat.le_refl _)
 clear r0 hU hP
 have c2 := HP.out.box.cell 2
 have c3 := HP.out.box.cell 3
 simp [pc] at c2 c3
 cases fn with
 | false =>
  cases f with
  | false =>
   go_quiet (fail)
   obtain ⟨W1, hW1⟩ : ∃ W1, W0.drewN nq = W1 := ⟨_, rfl⟩
   have hb : Below W0.heap.size W0 W1 := hW1 ▸ below_drewN (Below.refl _ W0) nq
   rw [hW1]
   clear hW1 c2 c3
   replace RB := bl RB hb
   replace HP := hid (HP.out.below hb)
   replace HU := hid (HU.out.step hb)
   replace HZW := hid (Nat.le_trans HZW.out hb.size)
   clear hb
   have c2 := HP.out.box.cell 2
   have c3 := HP.out.box.cell 3
   have f2 := HP.out.box.frozen 2
   have f3 := HP.out.box.frozen 3
   simp [pc] at c2 c3
   go_upto_region 3 with fail
   clear c2 c3 f2 f3
   refine gen_world (F := fun W => Box W b 76 (pc (.slice A ts.length c) (k) false true) ∧ Upd W1 W b) ⟨(HP.out.box.set 2 (.bool false)).set 3 (.bool true), ((Upd.refl _ b).set (.inl rfl) _).set (.inl rfl) _⟩ ?_
   rintro w2 ⟨hx, hu⟩
   replace RB := bg RB hu
   replace HP := hid (HP.out.upd hx hu (by omega))
   replace HU := hid (HU.out.trans hu)
   replace HZW := hid (Nat.le_trans HZW.out hu.size)
   clear hx hu
   go_wp2_with fail
   refine (h.block HP.out (by omega)).mono ?_
   rintro e w3 (⟨x1, k1, cs1, hr, hk1, hk2, rfl, hn, hx, hu⟩ | ⟨hr, rfl, hu⟩)
   rotate_left
   ·exact ⟨rfl, .inr ⟨HR.out.trans hr, rfl, HU.out.trans hu⟩⟩
   have hlt1 := got_lt hr rfl
   replace HR := hid (HR.out.trans hr)
   have HN1 : Hid (NodeAt _ (fun g => W0.heap.size ≤ g) x1 cs1) := hid (hn.weak (fun g hg => by have := HZW.out; omega))
   have hcs1 : (Tryz.prog.info? 24).map (·.size) = some cs1.size := by rw [NodeAt.size hn]; exact info_nod
   have h41 : (4 : Nat) = cs1.size := (NodeAt.size hn).symm
   have hone1 := NodeAt.one hn
   have HCS1 := hid hcs1
   have H41 := hid h41
   have HONE1 := hid hone1
   replace RB := bg RB hu
   replace HP := hid (HP.out.upd hx hu (by omega))
   replace HU := hid (HU.out.trans hu)
   replace HZW := hid (Nat.le_trans HZW.out hu.size)
   clear hr hn hx hu hcs1 h41 hone1
   have hle1 := HP.out.kle
   obtain ⟨v1, hlit, hvo⟩ := NodeAt.lit HN1.out
   rw [hlit] at HN1 HCS1 H41 HONE1 ⊢
   have HVO1 := hid hvo
   clear hlit hvo
   go_upto_region 4 with (refine wpList_store_box rfl 24 (.tmp 7) (.tmp 29) rfl w3.heap.size #[.int .i64 x1.kind, .int .i64 x1.num, .string (byt x1.text), v1] rfl rfl 24 _ (Box.new w3 _ _) HCS1.out H41.out HONE1.out ?_; intro w4 hx hv hz; have HZ1 := hid hz; clear hz)
   have hb : Below w3.heap.size w3 w4 := ((Below.refl _ w3).alloc (Nat.le_refl _) _).trans (hv.own (Nat.le_refl _) (by simp))
   have EB1 := hid hx
   have hzE1 := Nat.lt_of_lt_of_le HZ.out HZW.out
   replace RB := bl RB hb
   replace HN1 := hid (HN1.out.below hb)
   replace HP := hid (HP.out.below hb)
   replace HU := hid (HU.out.step hb)
   replace HZW := hid (Nat.le_trans HZW.out hb.size)
   clear hx hv hb
   have c2 := HP.out.box.cell 2
   have c3 := HP.out.box.cell 3
   have f2 := HP.out.box.frozen 2
   have f3 := HP.out.box.frozen 3
   simp [pc] at c2 c3
   go_upto_region 5 with fail
   clear c2 c3 f2 f3
   refine gen_world (F := fun W => Box W b 76 (pc (.slice A ts.length c) (k1) false lp) ∧ Upd w4 W b) ⟨(HP.out.box.set 2 (.bool false)).set 3 (.bool lp), ((Upd.refl _ b).set (.inl rfl) _).set (.inl rfl) _⟩ ?_
   rintro w5 ⟨hx, hu⟩
   replace RB := bg RB hu
   replace EB1 := bg EB1 hu
   replace HN1 := hid (HN1.out.upd hu (fun g hg => by first | omega | (simp only at hg; omega)))
   replace HP := hid (HP.out.upd hx hu (by omega))
   replace HU := hid (HU.out.trans hu)
   replace HZW := hid (Nat.le_trans HZW.out hu.size)
   clear hx hu
   have eb1 := EB1.out
   go_wp2_with (first | (refine wpList_load_row rfl 24 (.tmp 7) rfl w3.heap.size rfl _ #[.int .i64 x1.kind, .int .i64 x1.num, .string (byt x1.text), v1] (0, 0) _ eb1 Tryz.underlying24 rfl HCS1.out ?_) | (refine wpList_store_box rfl 24 (.tmp 4) (.tmp 38) rfl w.heap.size #[.int .i64 x1.kind, .int .i64 x1.num, .string (byt x1.text), v1] rfl rfl 24 _ RB.out HCS1.out H41.out HONE1.out ?_; intro wz hxz huz hzz; have HZZ := hid hzz; clear hzz))
   refine bodyPost_ret (results_box rfl _ _ w.heap.size 24 _ _ rfl hxz Tryz.underlying24 rfl HCS1.out) rfl ?_
   exact .inl ⟨x1, k1, #[.int .i64 x1.kind, .int .i64 x1.num, .string (byt x1.text), v1], HR.out, by omega, HP.out.kle, rfl, (HN1.out.upd huz (fun g hg => by first | omega | (simp only at hg; omega))).weak (fun g hg => by first | omega | (simp only at hg; omega)), Box.grown HP.out.box huz (by intro h; injection h with h; omega), Upd.fresh HU.out huz (Nat.le_refl _)⟩
  | true =>
   go_quiet (fail)
   obtain ⟨W1, hW1⟩ : ∃ W1, W0.drewN nq = W1 := ⟨_, rfl⟩
   have hb : Below W0.heap.size W0 W1 := hW1 ▸ below_drewN (Below.refl _ W0) nq
   rw [hW1]
   clear hW1 c2 c3
   replace RB := bl RB hb
   replace HP := hid (HP.out.below hb)
   replace HU := hid (HU.out.step hb)
   replace HZW := hid (Nat.le_trans HZW.out hb.size)
   clear hb
   have c2 := HP.out.box.cell 2
   have c3 := HP.out.box.cell 3
   have f2 := HP.out.box.frozen 2
   have f3 := HP.out.box.frozen 3
   simp [pc] at c2 c3
   go_upto_region 3 with fail
   clear c2 c3 f2 f3
   refine gen_world (F := fun W => Box W b 76 (pc (.slice A ts.length c) (k) true false) ∧ Upd W1 W b) ⟨(HP.out.box.set 2 (.bool true)).set 3 (.bool false), ((Upd.refl _ b).set (.inl rfl) _).set (.inl rfl) _⟩ ?_
   rintro w2 ⟨hx, hu⟩
   replace RB := bg RB hu
   replace HP := hid (HP.out.upd hx hu (by omega))
   replace HU := hid (HU.out.trans hu)
   replace HZW := hid (Nat.le_trans HZW.out hu.size)
   clear hx hu
   go_wp2_with fail
   refine (h.block HP.out (by omega)).mono ?_
   rintro e w3 (⟨x1, k1, cs1, hr, hk1, hk2, rfl, hn, hx, hu⟩ | ⟨hr, rfl, hu⟩)
   rotate_left
   ·exact ⟨rfl, .inr ⟨HR.out.trans hr, rfl, HU.out.trans hu⟩⟩
   have hlt1 := got_lt hr rfl
   replace HR := hid (HR.out.trans hr)
   have HN1 : Hid (NodeAt _ (fun g => W0.heap.size ≤ g) x1 cs1) := hid (hn.weak (fun g hg => by have := HZW.out; omega))
   have hcs1 : (Tryz.prog.info? 24).map (·.size) = some cs1.size := by rw [NodeAt.size hn]; exact info_nod
   have h41 : (4 : Nat) = cs1.size := (NodeAt.size hn).symm
   have hone1 := NodeAt.one hn
   have HCS1 := hid hcs1
   have H41 := hid h41
   have HONE1 := hid hone1
   replace RB := bg RB hu
   replace HP := hid (HP.out.upd hx hu (by omega))
   replace HU := hid (HU.out.trans hu)
   replace HZW := hid (Nat.le_trans HZW.out hu.size)
   clear hr hn hx hu hcs1 h41 hone1
   have hle1 := HP.out.kle
   obtain ⟨v1, hlit, hvo⟩ := NodeAt.lit HN1.out
   rw [hlit] at HN1 HCS1 H41 HONE1 ⊢
   have HVO1 := hid hvo
   clear hlit hvo
   go_upto_region 4 with (refine wpList_store_box rfl 24 (.tmp 7) (.tmp 29) rfl w3.heap.size #[.int .i64 x1.kind, .int .i64 x1.num, .string (byt x1.text), v1] rfl rfl 24 _ (Box.new w3 _ _) HCS1.out H41.out HONE1.out ?_; intro w4 hx hv hz; have HZ1 := hid hz; clear hz)
   have hb : Below w3.heap.size w3 w4 := ((Below.refl _ w3).alloc (Nat.le_refl _) _).trans (hv.own (Nat.le_refl _) (by simp))
   have EB1 := hid hx
   have hzE1 := Nat.lt_of_lt_of_le HZ.out HZW.out
   replace RB := bl RB hb
   replace HN1 := hid (HN1.out.below hb)
   replace HP := hid (HP.out.below hb)
   replace HU := hid (HU.out.step hb)
   replace HZW := hid (Nat.le_trans HZW.out hb.size)
   clear hx hv hb
   have c2 := HP.out.box.cell 2
   have c3 := HP.out.box.cell 3
   have f2 := HP.out.box.frozen 2
   have f3 := HP.out.box.frozen 3
   simp [pc] at c2 c3
   go_upto_region 5 with fail
   clear c2 c3 f2 f3
   refine gen_world (F := fun W => Box W b 76 (pc (.slice A ts.length c) (k1) false lp) ∧ Upd w4 W b) ⟨(HP.out.box.set 2 (.bool false)).set 3 (.bool lp), ((Upd.refl _ b).set (.inl rfl) _).set (.inl rfl) _⟩ ?_
   rintro w5 ⟨hx, hu⟩
   replace RB := bg RB hu
   replace EB1 := bg EB1 hu
   replace HN1 := hid (HN1.out.upd hu (fun g hg => by first | omega | (simp only at hg; omega)))
   replace HP := hid (HP.out.upd hx hu (by omega))
   replace HU := hid (HU.out.trans hu)
   replace HZW := hid (Nat.le_trans HZW.out hu.size)
   clear hx hu
   have eb1 := EB1.out
   go_wp2_with (first | (refine wpList_load_row rfl 24 (.tmp 7) rfl w3.heap.size rfl _ #[.int .i64 x1.kind, .int .i64 x1.num, .string (byt x1.text), v1] (0, 0) _ eb1 Tryz.underlying24 rfl HCS1.out ?_) | (refine wpList_store_box rfl 24 (.tmp 4) (.tmp 38) rfl w.heap.size #[.int .i64 x1.kind, .int .i64 x1.num, .string (byt x1.text), v1] rfl rfl 24 _ RB.out HCS1.out H41.out HONE1.out ?_; intro wz hxz huz hzz; have HZZ := hid hzz; clear hzz))
   refine bodyPost_ret (results_box rfl _ _ w.heap.size 24 _ _ rfl hxz Tryz.underlying24 rfl HCS1.out) rfl ?_
   exact .inl ⟨x1, k1, #[.int .i64 x1.kind, .int .i64 x1.num, .string (byt x1.text), v1], HR.out, by omega, HP.out.kle, rfl, (HN1.out.upd huz (fun g hg => by first | omega | (simp only at hg; omega))).weak (fun g hg => by first | omega | (simp only at hg; omega)), Box.grown HP.out.box huz (by intro h; injection h with h; omega), Upd.fresh HU.out huz (Nat.le_refl _)⟩
 | true =>
  cases f with
  | false =>
   go_quiet (fail)
   obtain ⟨W1, hW1⟩ : ∃ W1, W0.drewN nq = W1 := ⟨_, rfl⟩
   have hb : Below W0.heap.size W0 W1 := hW1 ▸ below_drewN (Below.refl _ W0) nq
   rw [hW1]
   clear hW1 c2 c3
   replace RB := bl RB hb
   replace HP := hid (HP.out.below hb)
   replace HU := hid (HU.out.step hb)
   replace HZW := hid (Nat.le_trans HZW.out hb.size)
   clear hb
   have c2 := HP.out.box.cell 2
   have c3 := HP.out.box.cell 3
   have f2 := HP.out.box.frozen 2
   have f3 := HP.out.box.frozen 3
   simp [pc] at c2 c3
   go_upto_region 3 with fail
   clear c2 c3 f2 f3
   refine gen_world (F := fun W => Box W b 76 (pc (.slice A ts.length c) (k) true true) ∧ Upd W1 W b) ⟨(HP.out.box.set 2 (.bool true)).set 3 (.bool true), ((Upd.refl _ b).set (.inl rfl) _).set (.inl rfl) _⟩ ?_
   rintro w2 ⟨hx, hu⟩
   replace RB := bg RB hu
   replace HP := hid (HP.out.upd hx hu (by omega))
   replace HU := hid (HU.out.trans hu)
   replace HZW := hid (Nat.le_trans HZW.out hu.size)
   clear hx hu
   go_wp2_with fail
   refine (h.block HP.out (by omega)).mono ?_
   rintro e w3 (⟨x1, k1, cs1, hr, hk1, hk2, rfl, hn, hx, hu⟩ | ⟨hr, rfl, hu⟩)
   rotate_left
   ·exact ⟨rfl, .inr ⟨HR.out.trans hr, rfl, HU.out.trans hu⟩⟩
   have hlt1 := got_lt hr rfl
   replace HR := hid (HR.out.trans hr)
   have HN1 : Hid (NodeAt _ (fun g => W0.heap.size ≤ g) x1 cs1) := hid (hn.weak (fun g hg => by have := HZW.out; omega))
   have hcs1 : (Tryz.prog.info? 24).map (·.size) = some cs1.size := by rw [NodeAt.size hn]; exact info_nod
   have h41 : (4 : Nat) = cs1.size := (NodeAt.size hn).symm
   have hone1 := NodeAt.one hn
   have HCS1 := hid hcs1
   have H41 := hid h41
   have HONE1 := hid hone1
   replace RB := bg RB hu
   replace HP := hid (HP.out.upd hx hu (by omega))
   replace HU := hid (HU.out.trans hu)
   replace HZW := hid (Nat.le_trans HZW.out hu.size)
   clear hr hn hx hu hcs1 h41 hone1
   have hle1 := HP.out.kle
   obtain ⟨v1, hlit, hvo⟩ := NodeAt.lit HN1.out
   rw [hlit] at HN1 HCS1 H41 HONE1 ⊢
   have HVO1 := hid hvo
   clear hlit hvo
   go_upto_region 4 with (refine wpList_store_box rfl 24 (.tmp 7) (.tmp 29) rfl w3.heap.size #[.int .i64 x1.kind, .int .i64 x1.num, .string (byt x1.text), v1] rfl rfl 24 _ (Box.new w3 _ _) HCS1.out H41.out HONE1.out ?_; intro w4 hx hv hz; have HZ1 := hid hz; clear hz)
   have hb : Below w3.heap.size w3 w4 := ((Below.refl _ w3).alloc (Nat.le_refl _) _).trans (hv.own (Nat.le_refl _) (by simp))
   have EB1 := hid hx
   have hzE1 := Nat.lt_of_lt_of_le HZ.out HZW.out
   replace RB := bl RB hb
   replace HN1 := hid (HN1.out.below hb)
   replace HP := hid (HP.out.below hb)
   replace HU := hid (HU.out.step hb)
   replace HZW := hid (Nat.le_trans HZW.out hb.size)
   clear hx hv hb
   have c2 := HP.out.box.cell 2
   have c3 := HP.out.box.cell 3
   have f2 := HP.out.box.frozen 2
   have f3 := HP.out.box.frozen 3
   simp [pc] at c2 c3
   go_upto_region 5 with fail
   clear c2 c3 f2 f3
   refine gen_world (F := fun W => Box W b 76 (pc (.slice A ts.length c) (k1) true lp) ∧ Upd w4 W b) ⟨(HP.out.box.set 2 (.bool true)).set 3 (.bool lp), ((Upd.refl _ b).set (.inl rfl) _).set (.inl rfl) _⟩ ?_
   rintro w5 ⟨hx, hu⟩
   replace RB := bg RB hu
   replace EB1 := bg EB1 hu
   replace HN1 := hid (HN1.out.upd hu (fun g hg => by first | omega | (simp only at hg; omega)))
   replace HP := hid (HP.out.upd hx hu (by omega))
   replace HU := hid (HU.out.trans hu)
   replace HZW := hid (Nat.le_trans HZW.out hu.size)
   clear hx hu
   have eb1 := EB1.out
   go_wp2_with (first | (refine wpList_load_row rfl 24 (.tmp 7) rfl w3.heap.size rfl _ #[.int .i64 x1.kind, .int .i64 x1.num, .string (byt x1.text), v1] (0, 0) _ eb1 Tryz.underlying24 rfl HCS1.out ?_) | (refine wpList_store_box rfl 24 (.tmp 4) (.tmp 38) rfl w.heap.size #[.int .i64 x1.kind, .int .i64 x1.num, .string (byt x1.text), v1] rfl rfl 24 _ RB.out HCS1.out H41.out HONE1.out ?_; intro wz hxz huz hzz; have HZZ := hid hzz; clear hzz))
   refine bodyPost_ret (results_box rfl _ _ w.heap.size 24 _ _ rfl hxz Tryz.underlying24 rfl HCS1.out) rfl ?_
   exact .inl ⟨x1, k1, #[.int .i64 x1.kind, .int .i64 x1.num, .string (byt x1.text), v1], HR.out, by omega, HP.out.kle, rfl, (HN1.out.upd huz (fun g hg => by first | omega | (simp only at hg; omega))).weak (fun g hg => by first | omega | (simp only at hg; omega)), Box.grown HP.out.box huz (by intro h; injection h with h; omega), Upd.fresh HU.out huz (Nat.le_refl _)⟩
  | true =>
   go_quiet (fail)
   obtain ⟨W1, hW1⟩ : ∃ W1, W0.drewN nq = W1 := ⟨_, rfl⟩
   have hb : Below W0.heap.size W0 W1 := hW1 ▸ below_drewN (Below.refl _ W0) nq
   rw [hW1]
   clear hW1 c2 c3
   replace RB := bl RB hb
   replace HP := hid (HP.out.below hb)
   replace HU := hid (HU.out.step hb)
   replace HZW := hid (Nat.le_trans HZW.out hb.size)
   clear hb
   have c2 := HP.out.box.cell 2
   have c3 := HP.out.box.cell 3
   have f2 := HP.out.box.frozen 2
   have f3 := HP.out.box.frozen 3
   simp [pc] at c2 c3
   go_upto_region 3 with fail
   clear c2 c3 f2 f3
   refine gen_world (F := fun W => Box W b 76 (pc (.slice A ts.length c) (k) true false) ∧ Upd W1 W b) ⟨(HP.out.box.set 2 (.bool true)).set 3 (.bool false), ((Upd.refl _ b).set (.inl rfl) _).set (.inl rfl) _⟩ ?_
   rintro w2 ⟨hx, hu⟩
   replace RB := bg RB hu
   replace HP := hid (HP.out.upd hx hu (by omega))
   replace HU := hid (HU.out.trans hu)
   replace HZW := hid (Nat.le_trans HZW.out hu.size)
   clear hx hu
   go_wp2_with fail
   refine (h.block HP.out (by omega)).mono ?_
   rintro e w3 (⟨x1, k1, cs1, hr, hk1, hk2, rfl, hn, hx, hu⟩ | ⟨hr, rfl, hu⟩)
   rotate_left
   ·exact ⟨rfl, .inr ⟨HR.out.trans hr, rfl, HU.out.trans hu⟩⟩
   have hlt1 := got_lt hr rfl
   replace HR := hid (HR.out.trans hr)
   have HN1 : Hid (NodeAt _ (fun g => W0.heap.size ≤ g) x1 cs1) := hid (hn.weak (fun g hg => by have := HZW.out; omega))
   have hcs1 : (Tryz.prog.info? 24).map (·.size) = some cs1.size := by rw [NodeAt.size hn]; exact info_nod
   have h41 : (4 : Nat) = cs1.size := (NodeAt.size hn).symm
   have hone1 := NodeAt.one hn
   have HCS1 := hid hcs1
   have H41 := hid h41
   have HONE1 := hid hone1
   replace RB := bg RB hu
   replace HP := hid (HP.out.upd hx hu (by omega))
   replace HU := hid (HU.out.trans hu)
   replace HZW := hid (Nat.le_trans HZW.out hu.size)
   clear hr hn hx hu hcs1 h41 hone1
   have hle1 := HP.out.kle
   obtain ⟨v1, hlit, hvo⟩ := NodeAt.lit HN1.out
   rw [hlit] at HN1 HCS1 H41 HONE1 ⊢
   have HVO1 := hid hvo
   clear hlit hvo
   go_upto_region 4 with (refine wpList_store_box rfl 24 (.tmp 7) (.tmp 29) rfl w3.heap.size #[.int .i64 x1.kind, .int .i64 x1.num, .string (byt x1.text), v1] rfl rfl 24 _ (Box.new w3 _ _) HCS1.out H41.out HONE1.out ?_; intro w4 hx hv hz; have HZ1 := hid hz; clear hz)
   have hb : Below w3.heap.size w3 w4 := ((Below.refl _ w3).alloc (Nat.le_refl _) _).trans (hv.own (Nat.le_refl _) (by simp))
   have EB1 := hid hx
   have hzE1 := Nat.lt_of_lt_of_le HZ.out HZW.out
   replace RB := bl RB hb
   replace HN1 := hid (HN1.out.below hb)
   replace HP := hid (HP.out.below hb)
   replace HU := hid (HU.out.step hb)
   replace HZW := hid (Nat.le_trans HZW.out hb.size)
   clear hx hv hb
   have c2 := HP.out.box.cell 2
   have c3 := HP.out.box.cell 3
   have f2 := HP.out.box.frozen 2
   have f3 := HP.out.box.frozen 3
   simp [pc] at c2 c3
   go_upto_region 5 with fail
   clear c2 c3 f2 f3
   refine gen_world (F := fun W => Box W b 76 (pc (.slice A ts.length c) (k1) true lp) ∧ Upd w4 W b) ⟨(HP.out.box.set 2 (.bool true)).set 3 (.bool lp), ((Upd.refl _ b).set (.inl rfl) _).set (.inl rfl) _⟩ ?_
   rintro w5 ⟨hx, hu⟩
   replace RB := bg RB hu
   replace EB1 := bg EB1 hu
   replace HN1 := hid (HN1.out.upd hu (fun g hg => by first | omega | (simp only at hg; omega)))
   replace HP := hid (HP.out.upd hx hu (by omega))
   replace HU := hid (HU.out.trans hu)
   replace HZW := hid (Nat.le_trans HZW.out hu.size)
   clear hx hu
   have eb1 := EB1.out
   go_wp2_with (first | (refine wpList_load_row rfl 24 (.tmp 7) rfl w3.heap.size rfl _ #[.int .i64 x1.kind, .int .i64 x1.num, .string (byt x1.text), v1] (0, 0) _ eb1 Tryz.underlying24 rfl HCS1.out ?_) | (refine wpList_store_box rfl 24 (.tmp 4) (.tmp 38) rfl w.heap.size #[.int .i64 x1.kind, .int .i64 x1.num, .string (byt x1.text), v1] rfl rfl 24 _ RB.out HCS1.out H41.out HONE1.out ?_; intro wz hxz huz hzz; have HZZ := hid hzz; clear hzz))
   refine bodyPost_ret (results_box rfl _ _ w.heap.size 24 _ _ rfl hxz Tryz.underlying24 rfl HCS1.out) rfl ?_
   exact .inl ⟨x1, k1, #[.int .i64 x1.kind, .int .i64 x1.num, .string (byt x1.text), v1], HR.out, by omega, HP.out.kle, rfl, (HN1.out.upd huz (fun g hg => by first | omega | (simp only at hg; omega))).weak (fun g hg => by first | omega | (simp only at hg; omega)), Box.grown HP.out.box huz (by intro h; injection h with h; omega), Upd.fresh HU.out huz (Nat.le_refl _)⟩
end Go.Proofs.YtonjdlialejedaaGreatDoor
