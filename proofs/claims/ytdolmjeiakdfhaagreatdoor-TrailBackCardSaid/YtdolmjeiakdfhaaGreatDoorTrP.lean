/-
  TrailBack returns true. Conditions: the trail lies in memory; the library's variables hold what they hold.
-/
import Derived.Test.YtdolmjeiakdfhaaGreatDoorTkE
import Derived.Test.YtdolmjeiakdfhaaGreatDoorGrd
import Derived.BigQuiet
import Derived.Deep.RegionHeld3
namespace Go.Proofs.YtdolmjeiakdfhaaGreatDoor
set_option linter.unusedSimpArgs false
set_option linter.unusedVariables false
open Go.RowKit
open Traily (Ent T)

set_option maxRecDepth 100000 in
set_option maxHeartbeats 8000000 in
theorem trailBack_true (t : T) (v : Value) (n m : Int) (w : World) (he : Env w) (hv : TrRd w t v) (hn0 : -9223372036854775808 ≤ n) (hn1 : n ≤ 9223372036854775807) (hm0 : -9223372036854775808 ≤ m) (hm1 : m ≤ 9223372036854775807) :
    Calls Tryz.prog 7 #[.agg (tc v t.at'), .int .i64 n, .int .i64 m] w (BoolOut true w) := by
  have HG : Hid (∀ (t : T) (v : Value) (n : Int) w1, -9223372036854775808 ≤ n → n ≤ 9223372036854775807 → Below w.heap.size w w1 → TrRd w1 t v → Calls Tryz.prog 17 #[.agg (tc v t.at'), .int .i64 n] w1 (GRes (Traily.go t n) w1)) := Lib.hid (fun t v n w1 a b h hv => goC t v n w1 (he.below h) hv a b)
  have HST : Hid (∀ (a : T) (va vb : Value) w1, Below w.heap.size w w1 → TrRd w1 a va → TrRd w1 a vb → a.ents.length ≤ 50 → Calls Tryz.prog 20 #[.agg (tc va a.at'), .agg (tc vb a.at')] w1 (BoolOut true w1)) := Lib.hid (fun a va vb w1 h h1 h2 hl => by have := sametrail_any a a va vb w1 h1 h2 hl hl; rwa [decide_eq_true rfl] at this)
  have HLV : Hid (∀ w1, Below w.heap.size w w1 → Calls Tryz.prog 16 #[] w1 (BoolOut true w1)) := Lib.hid (fun w1 h => trailLives_true w1 (he.below h))
  have HV := Lib.hid hv
  clear he hv
  go_enter Tryz.func7, Tryz.ntmps7
  go_upto_region 1 with (fail)
  refine gen_world (F := fun W => Box W w.heap.size 41 (tc v t.at') ∧ Below w.heap.size w W) ⟨Box.new w _ _, below1 w _⟩ ?_
  rintro W0 ⟨b0, hU⟩
  have HU := Lib.hid hU
  have BX0 := Lib.hid b0
  have RD0 := Lib.hid (HV.out.below hU)
  clear hU b0 HV
  have bx := BX0.out
  go_wp2_with (refine wpList_load_row rfl 41 (.tmp 3) rfl (w.heap.size) rfl _ (tc v t.at') (0, 0) _ bx Tryz.underlying41 rfl info_trl ?_)
  refine (HG.out t v n _ hn0 hn1 HU.out RD0.out).mono ?_
  rintro e w1 ⟨T1, A1, c1, b1, m1, rfl, hT1, hrd1, hb1⟩
  replace HU := Lib.hid (HU.out.trans ((hb1).mono HU.out.size))
  replace BX0 := Lib.hid (BX0.out.below (hb1) BX0.out.lt)
  replace RD0 := Lib.hid (RD0.out.below (hb1))
  have RD1 := Lib.hid hrd1
  clear hb1 hrd1
  clear bx
  go_upto_region 2 with (refine wpList_store_box rfl 41 (.tmp 7) (.tmp 23) rfl w1.heap.size (tc (.slice A1 T1.ents.length c1) T1.at') rfl rfl 41 _ (Box.new w1 _ _) info_trl rfl (tc_one _ _ _ _) ?_; intro x1 hx1 hu1 hz1; have HZ1 := Lib.hid hz1; clear hz1)
  have hs1 : Below w1.heap.size w1 x1 := ((Below.refl _ w1).alloc (Nat.le_refl _) _).trans (hu1.own (Nat.le_refl _) (by simp))
  replace HU := Lib.hid (HU.out.trans ((hs1).mono HU.out.size))
  replace BX0 := Lib.hid (BX0.out.below (hs1) BX0.out.lt)
  replace RD0 := Lib.hid (RD0.out.below (hs1))
  replace RD1 := Lib.hid (RD1.out.below (hs1))
  have BX1 := Lib.hid hx1
  clear hs1 hu1 hx1
  go_wp2_with (fail)
  refine (HLV.out _ HU.out).mono ?_
  rintro e y0 ⟨rfl, hlv⟩
  replace HU := Lib.hid (HU.out.trans ((hlv).mono HU.out.size))
  replace BX0 := Lib.hid (BX0.out.below (hlv) BX0.out.lt)
  replace RD0 := Lib.hid (RD0.out.below (hlv))
  replace RD1 := Lib.hid (RD1.out.below (hlv))
  replace BX1 := Lib.hid (BX1.out.below (hlv) BX1.out.lt)
  clear hlv
  rcases hT1 with ⟨rfl, hr1⟩ | ⟨hm1, _, hE1⟩
  rotate_left
  · have g1 : (m1 != 0) = true := by rw [bne_iff_ne]; exact hm1
    have G1 := Lib.hid hm1
    have a1 := BX1.out.cell 0
    have hl1 : T1.ents.length = 0 := by rw [hE1]; rfl
    simp [tc] at a1
    rw [hl1] at a1
    clear a1
    clear hm1 hl1
    go_wp2_with (fail)
    refine (HLV.out _ HU.out).mono ?_
    rintro e y1 ⟨rfl, hlv⟩
    replace HU := Lib.hid (HU.out.trans ((hlv).mono HU.out.size))
    replace BX0 := Lib.hid (BX0.out.below (hlv) BX0.out.lt)
    replace RD0 := Lib.hid (RD0.out.below (hlv))
    replace RD1 := Lib.hid (RD1.out.below (hlv))
    replace BX1 := Lib.hid (BX1.out.below (hlv) BX1.out.lt)
    clear hlv
    have a1 := BX1.out.cell 0
    have hl1 : T1.ents.length = 0 := by rw [hE1]; rfl
    simp [tc] at a1
    rw [hl1] at a1
    clear hE1 hl1
    go_wp2
    go_ret
    exact ⟨rfl, HU.out⟩
  obtain ⟨hR, hE1, _, hb0, hb1, hR1⟩ := Traily.go_form hr1
  obtain ⟨hbk, hmm⟩ := Traily.back_law hr1
  have HR := Lib.hid hR
  have HR1 := Lib.hid hR1
  have HBK := Lib.hid hbk
  have HMM := Lib.hid hmm
  have hlo := hR.lo
  have hhi := hR.hi
  have hle := hR.len
  have hN0 : -50 ≤ n := by omega
  have hN1 : n ≤ 50 := by omega
  have HN0 := Lib.hid hN0
  have HN1 := Lib.hid hN1
  have wn : IntKind.i64.wrap (-n) = -n := by rw [IntKind.wrap_i64]; omega
  have HLE := Lib.hid hle
  have HL1 : Hid (T1.ents.length ≤ 50) := Lib.hid hR1.len
  have HB0 := Lib.hid hb0
  have HB1 := Lib.hid hb1
  have HE1 := Lib.hid hE1
  have HLO := Lib.hid hlo
  have HHI := Lib.hid hhi
  clear hr1 hbk hmm hR hR1 hb0 hb1 hE1 hlo hhi hle
  have bx1 := BX1.out
  go_wp2_with (refine wpList_load_row rfl 41 (.tmp 7) rfl (w1.heap.size) rfl _ (tc (.slice A1 T1.ents.length c1) T1.at') (0, 0) _ bx1 Tryz.underlying41 rfl info_trl ?_)
  refine (HG.out T1 _ (-n) _ (by omega) (by omega) HU.out RD1.out).mono ?_
  rintro e w2 ⟨T2, A2, c2, b2, m2, rfl, hT2, hrd2, hb2⟩
  replace HU := Lib.hid (HU.out.trans ((hb2).mono HU.out.size))
  replace BX0 := Lib.hid (BX0.out.below (hb2) BX0.out.lt)
  replace RD0 := Lib.hid (RD0.out.below (hb2))
  replace RD1 := Lib.hid (RD1.out.below (hb2))
  replace BX1 := Lib.hid (BX1.out.below (hb2) BX1.out.lt)
  have RD2 := Lib.hid hrd2
  clear hb2 hrd2
  obtain ⟨rfl, hE2, rfl⟩ := gok HBK.out hT2
  have HE2 := Lib.hid hE2
  clear hT2 hE2 HBK bx1
  go_upto_region 5 with (refine wpList_store_box rfl 41 (.tmp 10) (.tmp 44) rfl w2.heap.size (tc (.slice A2 T2.ents.length c2) T2.at') rfl rfl 41 _ (Box.new w2 _ _) info_trl rfl (tc_one _ _ _ _) ?_; intro x2 hx2 hu2 hz2; have HZ2 := Lib.hid hz2; clear hz2)
  have hs2 : Below w2.heap.size w2 x2 := ((Below.refl _ w2).alloc (Nat.le_refl _) _).trans (hu2.own (Nat.le_refl _) (by simp))
  replace HU := Lib.hid (HU.out.trans ((hs2).mono HU.out.size))
  replace BX0 := Lib.hid (BX0.out.below (hs2) BX0.out.lt)
  replace RD0 := Lib.hid (RD0.out.below (hs2))
  replace RD1 := Lib.hid (RD1.out.below (hs2))
  replace BX1 := Lib.hid (BX1.out.below (hs2) BX1.out.lt)
  replace RD2 := Lib.hid (RD2.out.below (hs2))
  have BX2 := Lib.hid hx2
  clear hs2 hu2 hx2
  have hbb : ∀ b : Bool, (b != b) = false := by decide
  have hb1b := hbb b2
  have bx2 := BX2.out
  have bx := BX0.out
  rw [HE2.out] at bx2
  have RD2' : Hid (TrRd x2 t (.slice A2 T2.ents.length c2)) := Lib.hid (by have h := RD2.out; unfold TrRd at h ⊢; rw [← HE2.out]; exact h)
  go_wp2_with (first | (refine wpList_load_row_g (by kernel_rfl) 41 (.tmp 10) rfl (w2.heap.size) rfl 41 (tc (.slice A2 t.ents.length c2) t.at') _ bx2 Tryz.underlying41 rfl info_trl ?_) | (refine wpList_load_row_g (by kernel_rfl) 41 (.tmp 3) rfl (w.heap.size) rfl 41 (tc v t.at') _ bx Tryz.underlying41 rfl info_trl ?_))
  refine (HST.out t _ _ _ HU.out (by have h := RD2'.out; rw [HE2.out] at h; exact h) RD0.out HLE.out).mono ?_
  rintro e y2 ⟨rfl, hy⟩
  clear RD2'
  replace HU := Lib.hid (HU.out.trans ((hy).mono HU.out.size))
  replace BX0 := Lib.hid (BX0.out.below (hy) BX0.out.lt)
  replace RD0 := Lib.hid (RD0.out.below (hy))
  replace RD1 := Lib.hid (RD1.out.below (hy))
  replace BX1 := Lib.hid (BX1.out.below (hy) BX1.out.lt)
  replace RD2 := Lib.hid (RD2.out.below (hy))
  replace BX2 := Lib.hid (BX2.out.below (hy) BX2.out.lt)
  clear hy bx2 bx
  have bx1 := BX1.out
  go_wp2_with (refine wpList_load_row rfl 41 (.tmp 7) rfl (w1.heap.size) rfl _ (tc (.slice A1 T1.ents.length c1) T1.at') (0, 0) _ bx1 Tryz.underlying41 rfl info_trl ?_)
  refine (HG.out T1 _ m _ hm0 hm1 HU.out RD1.out).mono ?_
  rintro e w3 ⟨T3, A3, c3, b3, m3, rfl, hT3, hrd3, hb3⟩
  replace HU := Lib.hid (HU.out.trans ((hb3).mono HU.out.size))
  replace BX0 := Lib.hid (BX0.out.below (hb3) BX0.out.lt)
  replace RD0 := Lib.hid (RD0.out.below (hb3))
  replace RD1 := Lib.hid (RD1.out.below (hb3))
  replace BX1 := Lib.hid (BX1.out.below (hb3) BX1.out.lt)
  replace RD2 := Lib.hid (RD2.out.below (hb3))
  replace BX2 := Lib.hid (BX2.out.below (hb3) BX2.out.lt)
  have RD3 := Lib.hid hrd3
  clear hb3 hrd3
  clear bx1
  go_upto_region 8 with (refine wpList_store_box rfl 41 (.tmp 13) (.tmp 64) rfl w3.heap.size (tc (.slice A3 T3.ents.length c3) T3.at') rfl rfl 41 _ (Box.new w3 _ _) info_trl rfl (tc_one _ _ _ _) ?_; intro x3 hx3 hu3 hz3; have HZ3 := Lib.hid hz3; clear hz3)
  have hs3 : Below w3.heap.size w3 x3 := ((Below.refl _ w3).alloc (Nat.le_refl _) _).trans (hu3.own (Nat.le_refl _) (by simp))
  replace HU := Lib.hid (HU.out.trans ((hs3).mono HU.out.size))
  replace BX0 := Lib.hid (BX0.out.below (hs3) BX0.out.lt)
  replace RD0 := Lib.hid (RD0.out.below (hs3))
  replace RD1 := Lib.hid (RD1.out.below (hs3))
  replace BX1 := Lib.hid (BX1.out.below (hs3) BX1.out.lt)
  replace RD2 := Lib.hid (RD2.out.below (hs3))
  replace BX2 := Lib.hid (BX2.out.below (hs3) BX2.out.lt)
  replace RD3 := Lib.hid (RD3.out.below (hs3))
  have BX3 := Lib.hid hx3
  clear hs3 hu3 hx3
  rcases hT3 with ⟨rfl, hr3⟩ | ⟨hm3, _, _⟩
  rotate_left
  · have g3 : (m3 != 0) = true := by rw [bne_iff_ne]; exact hm3
    have G3 := Lib.hid hm3
    clear hm3
    go_wp2
    go_ret
    exact ⟨rfl, HU.out⟩
  obtain ⟨c', hgo⟩ := HMM.out m T3 b3 hr3
  obtain ⟨_, hE3, _, hd0, hd1, hR3⟩ := Traily.go_form hr3
  have HGO := Lib.hid hgo
  have HR3 := Lib.hid hR3
  have hs0 : -50 ≤ n + m := by have := HE1.out; rw [this] at hd0 hd1; simp only at hd0 hd1; have := HLO.out; have := HHI.out; have := HLE.out; omega
  have hs1 : n + m ≤ 50 := by have := HE1.out; rw [this] at hd0 hd1; simp only at hd0 hd1; have := HLO.out; have := HHI.out; have := HLE.out; omega
  have ws : IntKind.i64.wrap (n + m) = n + m := by rw [IntKind.wrap_i64]; omega
  clear hr3 hgo hE3 hd0 hd1 hR3
  have bx := BX0.out
  go_wp2_with (refine wpList_load_row rfl 41 (.tmp 3) rfl (w.heap.size) rfl _ (tc v t.at') (0, 0) _ bx Tryz.underlying41 rfl info_trl ?_)
  refine (HG.out t v (n + m) _ (by omega) (by omega) HU.out RD0.out).mono ?_
  rintro e w4 ⟨T4, A4, c4, b4, m4, rfl, hT4, hrd4, hb4⟩
  replace HU := Lib.hid (HU.out.trans ((hb4).mono HU.out.size))
  replace BX0 := Lib.hid (BX0.out.below (hb4) BX0.out.lt)
  replace RD0 := Lib.hid (RD0.out.below (hb4))
  replace RD1 := Lib.hid (RD1.out.below (hb4))
  replace BX1 := Lib.hid (BX1.out.below (hb4) BX1.out.lt)
  replace RD2 := Lib.hid (RD2.out.below (hb4))
  replace BX2 := Lib.hid (BX2.out.below (hb4) BX2.out.lt)
  replace RD3 := Lib.hid (RD3.out.below (hb4))
  replace BX3 := Lib.hid (BX3.out.below (hb4) BX3.out.lt)
  have RD4 := Lib.hid hrd4
  clear hb4 hrd4
  clear bx
  obtain ⟨rfl, hE4, _⟩ := gok HGO.out hT4
  have HE4 := Lib.hid hE4
  clear hT4 hE4 HGO
  go_upto_region 11 with (refine wpList_store_box rfl 41 (.tmp 16) (.tmp 75) rfl w4.heap.size (tc (.slice A4 T4.ents.length c4) T4.at') rfl rfl 41 _ (Box.new w4 _ _) info_trl rfl (tc_one _ _ _ _) ?_; intro x4 hx4 hu4 hz4; have HZ4 := Lib.hid hz4; clear hz4)
  have hs4 : Below w4.heap.size w4 x4 := ((Below.refl _ w4).alloc (Nat.le_refl _) _).trans (hu4.own (Nat.le_refl _) (by simp))
  replace HU := Lib.hid (HU.out.trans ((hs4).mono HU.out.size))
  replace BX0 := Lib.hid (BX0.out.below (hs4) BX0.out.lt)
  replace RD0 := Lib.hid (RD0.out.below (hs4))
  replace RD1 := Lib.hid (RD1.out.below (hs4))
  replace BX1 := Lib.hid (BX1.out.below (hs4) BX1.out.lt)
  replace RD2 := Lib.hid (RD2.out.below (hs4))
  replace BX2 := Lib.hid (BX2.out.below (hs4) BX2.out.lt)
  replace RD3 := Lib.hid (RD3.out.below (hs4))
  replace BX3 := Lib.hid (BX3.out.below (hs4) BX3.out.lt)
  replace RD4 := Lib.hid (RD4.out.below (hs4))
  have BX4 := Lib.hid hx4
  clear hs4 hu4 hx4
  have bx4 := BX4.out
  have bx3 := BX3.out
  rw [HE4.out] at bx4
  go_wp2_with (first | (refine wpList_load_row_g (by kernel_rfl) 41 (.tmp 13) rfl (w3.heap.size) rfl 41 (tc (.slice A3 T3.ents.length c3) T3.at') _ bx3 Tryz.underlying41 rfl info_trl ?_) | (refine wpList_load_row_g (by kernel_rfl) 41 (.tmp 16) rfl (w4.heap.size) rfl 41 (tc (.slice A4 T3.ents.length c4) T3.at') _ bx4 Tryz.underlying41 rfl info_trl ?_))
  refine (HST.out T3 _ _ _ HU.out RD3.out (by have h := RD4.out; rw [HE4.out] at h; exact h) HR3.out.len).mono ?_
  rintro e y4 ⟨rfl, hy⟩
  replace HU := Lib.hid (HU.out.trans ((hy).mono HU.out.size))
  replace BX0 := Lib.hid (BX0.out.below (hy) BX0.out.lt)
  replace RD0 := Lib.hid (RD0.out.below (hy))
  replace RD1 := Lib.hid (RD1.out.below (hy))
  replace BX1 := Lib.hid (BX1.out.below (hy) BX1.out.lt)
  replace RD2 := Lib.hid (RD2.out.below (hy))
  replace BX2 := Lib.hid (BX2.out.below (hy) BX2.out.lt)
  replace RD3 := Lib.hid (RD3.out.below (hy))
  replace BX3 := Lib.hid (BX3.out.below (hy) BX3.out.lt)
  replace RD4 := Lib.hid (RD4.out.below (hy))
  replace BX4 := Lib.hid (BX4.out.below (hy) BX4.out.lt)
  clear hy bx3 bx4
  go_wp2
  go_ret
  exact ⟨rfl, HU.out⟩
end Go.Proofs.YtdolmjeiakdfhaaGreatDoor
