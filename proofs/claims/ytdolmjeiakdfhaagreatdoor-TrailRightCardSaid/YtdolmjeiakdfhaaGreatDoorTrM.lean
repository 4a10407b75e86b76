/-
  TrailRight returns true. Conditions: the trail lies in memory; the library's variables hold what they hold.
-/
import Derived.Test.YtdolmjeiakdfhaaGreatDoorTkE
import Derived.Test.YtdolmjeiakdfhaaGreatDoorGrd
import Derived.BigQuiet
import Derived.Deep.RegionHeld3
namespace Go.Proofs.YtdolmjeiakdfhaaGreatDoor
set_option linter.unusedSimpArgs false
set_option linter.unusedVariables false
open Go.RowKit
open Traily (Ent T)

set_option maxRecDepth 100000 in
set_option maxHeartbeats 8000000 in
theorem trailRight_true (t : T) (v : Value) (ref st : List UInt8) (n : Int) (w : World) (he : Env w) (hv : TrRd w t v) (hn0 : -9223372036854775808 ≤ n) (hn1 : n ≤ 9223372036854775807) :
    Calls Tryz.prog 6 #[.agg (tc v t.at'), .string (byt ref), .string (byt st), .int .i64 n] w (BoolOut true w) := by
  have HLO : Hid (∀ w1, Below w.heap.size w w1 → Calls Tryz.prog 14 #[.agg (tc v t.at'), .string (byt ref)] w1 (TRes (Traily.load t ref) w1)) := Lib.hid (fun w1 h => loadC t v ref w1 (he.below h) (hv.below h))
  have HPU : Hid (∀ w1, Below w.heap.size w w1 → Calls Tryz.prog 15 #[.agg (tc v t.at'), .string (byt ref), .string (byt st)] w1 (TRes (Traily.push t ref st) w1)) := Lib.hid (fun w1 h => pushC t v ref st w1 (he.below h) (hv.below h))
  have HRE : Hid (∀ w1, Below w.heap.size w w1 → Calls Tryz.prog 18 #[.agg (tc v t.at'), .string (byt ref), .string (byt st)] w1 (TRes (Traily.replace t ref st) w1)) := Lib.hid (fun w1 h => replC t v ref st w1 (he.below h) (hv.below h))
  have HG : Hid (∀ (t : T) (v : Value) (n : Int) w1, -9223372036854775808 ≤ n → n ≤ 9223372036854775807 → Below w.heap.size w w1 → TrRd w1 t v → Calls Tryz.prog 17 #[.agg (tc v t.at'), .int .i64 n] w1 (GRes (Traily.go t n) w1)) := Lib.hid (fun t v n w1 a b h hv => goC t v n w1 (he.below h) hv a b)
  have HCH : Hid (∀ (t : T) (v : Value) w1, Below w.heap.size w w1 → TrRd w1 t v → Traily.check t = 0 → Calls Tryz.prog 19 #[.agg (tc v t.at')] w1 fun e w' => e = .returned (.int .i64 0) ∧ Below w1.heap.size w1 w') := Lib.hid (fun t v w1 h hv hc => (tcheck_any t v w1 (he.below h) hv).mono fun e w' ⟨h1, h2⟩ => ⟨by rw [h1, hc]; rfl, h2⟩)
  have HLV : Hid (∀ w1, Below w.heap.size w w1 → Calls Tryz.prog 16 #[] w1 (BoolOut true w1)) := Lib.hid (fun w1 h => trailLives_true w1 (he.below h))
  have HV := Lib.hid hv
  obtain ⟨RF, hRF⟩ : ∃ S, byt ref = S := ⟨_, rfl⟩
  rw [hRF]
  (try rw [hRF] at HLO)
  (try rw [hRF] at HPU)
  (try rw [hRF] at HRE)
  clear hRF
  obtain ⟨SS, hSS⟩ : ∃ S, byt st = S := ⟨_, rfl⟩
  rw [hSS]
  (try rw [hSS] at HLO)
  (try rw [hSS] at HPU)
  (try rw [hSS] at HRE)
  clear hSS
  clear he hv
  go_enter Tryz.func6, Tryz.ntmps6
  go_upto_region 1 with (fail)
  refine gen_world (F := fun W => Box W w.heap.size 41 (tc v t.at') ∧ Below w.heap.size w W) ⟨Box.new w _ _, below1 w _⟩ ?_
  rintro W0 ⟨b0, hU⟩
  have HU := Lib.hid hU
  have BX0 := Lib.hid b0
  have RD0 := Lib.hid (HV.out.below hU)
  clear hU b0 HV
  have HLW := Lib.hid (Traily.right_law t ref st n)
  have bx := BX0.out
  go_wp2_with (refine wpList_load_row rfl 41 (.tmp 4) rfl (w.heap.size) rfl _ (tc v t.at') (0, 0) _ bx Tryz.underlying41 rfl info_trl ?_)
  refine (HLO.out _ HU.out).mono ?_
  rintro e w1 ⟨T1, A1, c1, m1, rfl, hT1, hrd1, hb1⟩
  replace HU := Lib.hid (HU.out.trans ((hb1).mono HU.out.size))
  replace BX0 := Lib.hid (BX0.out.below (hb1) BX0.out.lt)
  replace RD0 := Lib.hid (RD0.out.below (hb1))
  have RD1 := Lib.hid hrd1
  clear hb1 hrd1
  clear bx
  have P1 : Hid (m1 = 0 → Traily.check T1 = 0) := Lib.hid (fun h => by rcases hT1 with ⟨_, h2⟩ | ⟨h2, _⟩; exact HLW.out.1 _ h2; exact absurd h h2)
  clear hT1
  go_upto_region 2 with (refine wpList_store_box rfl 41 (.tmp 9) (.tmp 22) rfl w1.heap.size (tc (.slice A1 T1.ents.length c1) T1.at') rfl rfl 41 _ (Box.new w1 _ _) info_trl rfl (tc_one _ _ _ _) ?_; intro x1 hx1 hu1 hz1; have HZ1 := Lib.hid hz1; clear hz1)
  have hs1 : Below w1.heap.size w1 x1 := ((Below.refl _ w1).alloc (Nat.le_refl _) _).trans (hu1.own (Nat.le_refl _) (by simp))
  replace HU := Lib.hid (HU.out.trans ((hs1).mono HU.out.size))
  replace BX0 := Lib.hid (BX0.out.below (hs1) BX0.out.lt)
  replace RD0 := Lib.hid (RD0.out.below (hs1))
  replace RD1 := Lib.hid (RD1.out.below (hs1))
  have BX1 := Lib.hid hx1
  clear hs1 hu1 hx1
  have bx := BX0.out
  go_wp2_with (refine wpList_load_row rfl 41 (.tmp 4) rfl (w.heap.size) rfl _ (tc v t.at') (0, 0) _ bx Tryz.underlying41 rfl info_trl ?_)
  refine (HPU.out _ HU.out).mono ?_
  rintro e w2 ⟨T2, A2, c2, m2, rfl, hT2, hrd2, hb2⟩
  replace HU := Lib.hid (HU.out.trans ((hb2).mono HU.out.size))
  replace BX0 := Lib.hid (BX0.out.below (hb2) BX0.out.lt)
  replace RD0 := Lib.hid (RD0.out.below (hb2))
  replace RD1 := Lib.hid (RD1.out.below (hb2))
  replace BX1 := Lib.hid (BX1.out.below (hb2) BX1.out.lt)
  have RD2 := Lib.hid hrd2
  clear hb2 hrd2
  clear bx
  have P2 : Hid (m2 = 0 → Traily.check T2 = 0) := Lib.hid (fun h => by rcases hT2 with ⟨_, h2⟩ | ⟨h2, _⟩; exact HLW.out.2.1 _ h2; exact absurd h h2)
  clear hT2
  go_upto_region 3 with (refine wpList_store_box rfl 41 (.tmp 11) (.tmp 29) rfl w2.heap.size (tc (.slice A2 T2.ents.length c2) T2.at') rfl rfl 41 _ (Box.new w2 _ _) info_trl rfl (tc_one _ _ _ _) ?_; intro x2 hx2 hu2 hz2; have HZ2 := Lib.hid hz2; clear hz2)
  have hs2 : Below w2.heap.size w2 x2 := ((Below.refl _ w2).alloc (Nat.le_refl _) _).trans (hu2.own (Nat.le_refl _) (by simp))
  replace HU := Lib.hid (HU.out.trans ((hs2).mono HU.out.size))
  replace BX0 := Lib.hid (BX0.out.below (hs2) BX0.out.lt)
  replace RD0 := Lib.hid (RD0.out.below (hs2))
  replace RD1 := Lib.hid (RD1.out.below (hs2))
  replace BX1 := Lib.hid (BX1.out.below (hs2) BX1.out.lt)
  replace RD2 := Lib.hid (RD2.out.below (hs2))
  have BX2 := Lib.hid hx2
  clear hs2 hu2 hx2
  have bx := BX0.out
  go_wp2_with (refine wpList_load_row rfl 41 (.tmp 4) rfl (w.heap.size) rfl _ (tc v t.at') (0, 0) _ bx Tryz.underlying41 rfl info_trl ?_)
  refine (HRE.out _ HU.out).mono ?_
  rintro e w3 ⟨T3, A3, c3, m3, rfl, hT3, hrd3, hb3⟩
  replace HU := Lib.hid (HU.out.trans ((hb3).mono HU.out.size))
  replace BX0 := Lib.hid (BX0.out.below (hb3) BX0.out.lt)
  replace RD0 := Lib.hid (RD0.out.below (hb3))
  replace RD1 := Lib.hid (RD1.out.below (hb3))
  replace BX1 := Lib.hid (BX1.out.below (hb3) BX1.out.lt)
  replace RD2 := Lib.hid (RD2.out.below (hb3))
  replace BX2 := Lib.hid (BX2.out.below (hb3) BX2.out.lt)
  have RD3 := Lib.hid hrd3
  clear hb3 hrd3
  clear bx
  have P3 : Hid (m3 = 0 → Traily.check T3 = 0) := Lib.hid (fun h => by rcases hT3 with ⟨_, h2⟩ | ⟨h2, _⟩; exact HLW.out.2.2.1 _ h2; exact absurd h h2)
  clear hT3
  go_upto_region 4 with (refine wpList_store_box rfl 41 (.tmp 13) (.tmp 36) rfl w3.heap.size (tc (.slice A3 T3.ents.length c3) T3.at') rfl rfl 41 _ (Box.new w3 _ _) info_trl rfl (tc_one _ _ _ _) ?_; intro x3 hx3 hu3 hz3; have HZ3 := Lib.hid hz3; clear hz3)
  have hs3 : Below w3.heap.size w3 x3 := ((Below.refl _ w3).alloc (Nat.le_refl _) _).trans (hu3.own (Nat.le_refl _) (by simp))
  replace HU := Lib.hid (HU.out.trans ((hs3).mono HU.out.size))
  replace BX0 := Lib.hid (BX0.out.below (hs3) BX0.out.lt)
  replace RD0 := Lib.hid (RD0.out.below (hs3))
  replace RD1 := Lib.hid (RD1.out.below (hs3))
  replace BX1 := Lib.hid (BX1.out.below (hs3) BX1.out.lt)
  replace RD2 := Lib.hid (RD2.out.below (hs3))
  replace BX2 := Lib.hid (BX2.out.below (hs3) BX2.out.lt)
  replace RD3 := Lib.hid (RD3.out.below (hs3))
  have BX3 := Lib.hid hx3
  clear hs3 hu3 hx3
  have bx := BX0.out
  go_wp2_with (refine wpList_load_row rfl 41 (.tmp 4) rfl (w.heap.size) rfl _ (tc v t.at') (0, 0) _ bx Tryz.underlying41 rfl info_trl ?_)
  refine (HG.out t v n _ hn0 hn1 HU.out RD0.out).mono ?_
  rintro e w4 ⟨T4, A4, c4, b4, m4, rfl, hT4, hrd4, hb4⟩
  replace HU := Lib.hid (HU.out.trans ((hb4).mono HU.out.size))
  replace BX0 := Lib.hid (BX0.out.below (hb4) BX0.out.lt)
  replace RD0 := Lib.hid (RD0.out.below (hb4))
  replace RD1 := Lib.hid (RD1.out.below (hb4))
  replace BX1 := Lib.hid (BX1.out.below (hb4) BX1.out.lt)
  replace RD2 := Lib.hid (RD2.out.below (hb4))
  replace BX2 := Lib.hid (BX2.out.below (hb4) BX2.out.lt)
  replace RD3 := Lib.hid (RD3.out.below (hb4))
  replace BX3 := Lib.hid (BX3.out.below (hb4) BX3.out.lt)
  have RD4 := Lib.hid hrd4
  clear hb4 hrd4
  clear bx
  have P4 : Hid (m4 = 0 → Traily.check T4 = 0) := Lib.hid (fun h => by rcases hT4 with ⟨_, h2⟩ | ⟨h2, _⟩; exact HLW.out.2.2.2 _ _ h2; exact absurd h h2)
  clear hT4 HLW
  go_upto_region 5 with (refine wpList_store_box rfl 41 (.tmp 15) (.tmp 42) rfl w4.heap.size (tc (.slice A4 T4.ents.length c4) T4.at') rfl rfl 41 _ (Box.new w4 _ _) info_trl rfl (tc_one _ _ _ _) ?_; intro x4 hx4 hu4 hz4; have HZ4 := Lib.hid hz4; clear hz4)
  have hs4 : Below w4.heap.size w4 x4 := ((Below.refl _ w4).alloc (Nat.le_refl _) _).trans (hu4.own (Nat.le_refl _) (by simp))
  replace HU := Lib.hid (HU.out.trans ((hs4).mono HU.out.size))
  replace BX0 := Lib.hid (BX0.out.below (hs4) BX0.out.lt)
  replace RD0 := Lib.hid (RD0.out.below (hs4))
  replace RD1 := Lib.hid (RD1.out.below (hs4))
  replace BX1 := Lib.hid (BX1.out.below (hs4) BX1.out.lt)
  replace RD2 := Lib.hid (RD2.out.below (hs4))
  replace BX2 := Lib.hid (BX2.out.below (hs4) BX2.out.lt)
  replace RD3 := Lib.hid (RD3.out.below (hs4))
  replace BX3 := Lib.hid (BX3.out.below (hs4) BX3.out.lt)
  replace RD4 := Lib.hid (RD4.out.below (hs4))
  have BX4 := Lib.hid hx4
  clear hs4 hu4 hx4
  go_wp2_with (fail)
  refine (HLV.out _ HU.out).mono ?_
  rintro e y0 ⟨rfl, hlv⟩
  replace HU := Lib.hid (HU.out.trans ((hlv).mono HU.out.size))
  replace BX0 := Lib.hid (BX0.out.below (hlv) BX0.out.lt)
  replace RD0 := Lib.hid (RD0.out.below (hlv))
  replace RD1 := Lib.hid (RD1.out.below (hlv))
  replace BX1 := Lib.hid (BX1.out.below (hlv) BX1.out.lt)
  replace RD2 := Lib.hid (RD2.out.below (hlv))
  replace BX2 := Lib.hid (BX2.out.below (hlv) BX2.out.lt)
  replace RD3 := Lib.hid (RD3.out.below (hlv))
  replace BX3 := Lib.hid (BX3.out.below (hlv) BX3.out.lt)
  replace RD4 := Lib.hid (RD4.out.below (hlv))
  replace BX4 := Lib.hid (BX4.out.below (hlv) BX4.out.lt)
  clear hlv
  by_cases z1 : m1 = 0
  · subst z1
    have PC := P1.out rfl
    have bk := BX1.out
    go_wp2_with (refine wpList_load_row_g (by kernel_rfl) 41 (.tmp 9) rfl (w1.heap.size) rfl 41 (tc (.slice A1 T1.ents.length c1) T1.at') _ bk Tryz.underlying41 rfl info_trl ?_)
    refine (HCH.out T1 _ _ HU.out RD1.out PC).mono ?_
    rintro e y1 ⟨rfl, hy⟩
    replace HU := Lib.hid (HU.out.trans ((hy).mono HU.out.size))
    replace BX0 := Lib.hid (BX0.out.below (hy) BX0.out.lt)
    replace RD0 := Lib.hid (RD0.out.below (hy))
    replace RD1 := Lib.hid (RD1.out.below (hy))
    replace BX1 := Lib.hid (BX1.out.below (hy) BX1.out.lt)
    replace RD2 := Lib.hid (RD2.out.below (hy))
    replace BX2 := Lib.hid (BX2.out.below (hy) BX2.out.lt)
    replace RD3 := Lib.hid (RD3.out.below (hy))
    replace BX3 := Lib.hid (BX3.out.below (hy) BX3.out.lt)
    replace RD4 := Lib.hid (RD4.out.below (hy))
    replace BX4 := Lib.hid (BX4.out.below (hy) BX4.out.lt)
    clear hy PC bk
    by_cases z2 : m2 = 0
    · subst z2
      have PC := P2.out rfl
      have bk := BX2.out
      go_wp2_with (refine wpList_load_row_g (by kernel_rfl) 41 (.tmp 11) rfl (w2.heap.size) rfl 41 (tc (.slice A2 T2.ents.length c2) T2.at') _ bk Tryz.underlying41 rfl info_trl ?_)
      refine (HCH.out T2 _ _ HU.out RD2.out PC).mono ?_
      rintro e y2 ⟨rfl, hy⟩
      replace HU := Lib.hid (HU.out.trans ((hy).mono HU.out.size))
      replace BX0 := Lib.hid (BX0.out.below (hy) BX0.out.lt)
      replace RD0 := Lib.hid (RD0.out.below (hy))
      replace RD1 := Lib.hid (RD1.out.below (hy))
      replace BX1 := Lib.hid (BX1.out.below (hy) BX1.out.lt)
      replace RD2 := Lib.hid (RD2.out.below (hy))
      replace BX2 := Lib.hid (BX2.out.below (hy) BX2.out.lt)
      replace RD3 := Lib.hid (RD3.out.below (hy))
      replace BX3 := Lib.hid (BX3.out.below (hy) BX3.out.lt)
      replace RD4 := Lib.hid (RD4.out.below (hy))
      replace BX4 := Lib.hid (BX4.out.below (hy) BX4.out.lt)
      clear hy PC bk
      by_cases z3 : m3 = 0
      · subst z3
        have PC := P3.out rfl
        have bk := BX3.out
        go_wp2_with (refine wpList_load_row_g (by kernel_rfl) 41 (.tmp 13) rfl (w3.heap.size) rfl 41 (tc (.slice A3 T3.ents.length c3) T3.at') _ bk Tryz.underlying41 rfl info_trl ?_)
        refine (HCH.out T3 _ _ HU.out RD3.out PC).mono ?_
        rintro e y3 ⟨rfl, hy⟩
        replace HU := Lib.hid (HU.out.trans ((hy).mono HU.out.size))
        replace BX0 := Lib.hid (BX0.out.below (hy) BX0.out.lt)
        replace RD0 := Lib.hid (RD0.out.below (hy))
        replace RD1 := Lib.hid (RD1.out.below (hy))
        replace BX1 := Lib.hid (BX1.out.below (hy) BX1.out.lt)
        replace RD2 := Lib.hid (RD2.out.below (hy))
        replace BX2 := Lib.hid (BX2.out.below (hy) BX2.out.lt)
        replace RD3 := Lib.hid (RD3.out.below (hy))
        replace BX3 := Lib.hid (BX3.out.below (hy) BX3.out.lt)
        replace RD4 := Lib.hid (RD4.out.below (hy))
        replace BX4 := Lib.hid (BX4.out.below (hy) BX4.out.lt)
        clear hy PC bk
        by_cases z4 : m4 = 0
        · subst z4
          have PC := P4.out rfl
          have bk := BX4.out
          go_wp2_with (refine wpList_load_row_g (by kernel_rfl) 41 (.tmp 15) rfl (w4.heap.size) rfl 41 (tc (.slice A4 T4.ents.length c4) T4.at') _ bk Tryz.underlying41 rfl info_trl ?_)
          refine (HCH.out T4 _ _ HU.out RD4.out PC).mono ?_
          rintro e y4 ⟨rfl, hy⟩
          replace HU := Lib.hid (HU.out.trans ((hy).mono HU.out.size))
          replace BX0 := Lib.hid (BX0.out.below (hy) BX0.out.lt)
          replace RD0 := Lib.hid (RD0.out.below (hy))
          replace RD1 := Lib.hid (RD1.out.below (hy))
          replace BX1 := Lib.hid (BX1.out.below (hy) BX1.out.lt)
          replace RD2 := Lib.hid (RD2.out.below (hy))
          replace BX2 := Lib.hid (BX2.out.below (hy) BX2.out.lt)
          replace RD3 := Lib.hid (RD3.out.below (hy))
          replace BX3 := Lib.hid (BX3.out.below (hy) BX3.out.lt)
          replace RD4 := Lib.hid (RD4.out.below (hy))
          replace BX4 := Lib.hid (BX4.out.below (hy) BX4.out.lt)
          clear hy PC bk
          go_wp2
          go_ret
          exact ⟨rfl, HU.out⟩
        · have g4 : (m4 != 0) = true := by rw [bne_iff_ne]; exact z4
          have G4 := Lib.hid z4
          clear z4
          go_wp2
          go_ret
          exact ⟨rfl, HU.out⟩
      · have g3 : (m3 != 0) = true := by rw [bne_iff_ne]; exact z3
        have G3 := Lib.hid z3
        clear z3
        by_cases z4 : m4 = 0
        · subst z4
          have PC := P4.out rfl
          have bk := BX4.out
          go_wp2_with (refine wpList_load_row_g (by kernel_rfl) 41 (.tmp 15) rfl (w4.heap.size) rfl 41 (tc (.slice A4 T4.ents.length c4) T4.at') _ bk Tryz.underlying41 rfl info_trl ?_)
          refine (HCH.out T4 _ _ HU.out RD4.out PC).mono ?_
          rintro e y4 ⟨rfl, hy⟩
          replace HU := Lib.hid (HU.out.trans ((hy).mono HU.out.size))
          replace BX0 := Lib.hid (BX0.out.below (hy) BX0.out.lt)
          replace RD0 := Lib.hid (RD0.out.below (hy))
          replace RD1 := Lib.hid (RD1.out.below (hy))
          replace BX1 := Lib.hid (BX1.out.below (hy) BX1.out.lt)
          replace RD2 := Lib.hid (RD2.out.below (hy))
          replace BX2 := Lib.hid (BX2.out.below (hy) BX2.out.lt)
          replace RD3 := Lib.hid (RD3.out.below (hy))
          replace BX3 := Lib.hid (BX3.out.below (hy) BX3.out.lt)
          replace RD4 := Lib.hid (RD4.out.below (hy))
          replace BX4 := Lib.hid (BX4.out.below (hy) BX4.out.lt)
          clear hy PC bk
          go_wp2
          go_ret
          exact ⟨rfl, HU.out⟩
        · have g4 : (m4 != 0) = true := by rw [bne_iff_ne]; exact z4
          have G4 := Lib.hid z4
          clear z4
          go_wp2
          go_ret
          exact ⟨rfl, HU.out⟩
    · have g2 : (m2 != 0) = true := by rw [bne_iff_ne]; exact z2
      have G2 := Lib.hid z2
      clear z2
      by_cases z3 : m3 = 0
      · subst z3
        have PC := P3.out rfl
        have bk := BX3.out
        go_wp2_with (refine wpList_load_row_g (by kernel_rfl) 41 (.tmp 13) rfl (w3.heap.size) rfl 41 (tc (.slice A3 T3.ents.length c3) T3.at') _ bk Tryz.underlying41 rfl info_trl ?_)
        refine (HCH.out T3 _ _ HU.out RD3.out PC).mono ?_
        rintro e y3 ⟨rfl, hy⟩
        replace HU := Lib.hid (HU.out.trans ((hy).mono HU.out.size))
        replace BX0 := Lib.hid (BX0.out.below (hy) BX0.out.lt)
        replace RD0 := Lib.hid (RD0.out.below (hy))
        replace RD1 := Lib.hid (RD1.out.below (hy))
        replace BX1 := Lib.hid (BX1.out.below (hy) BX1.out.lt)
        replace RD2 := Lib.hid (RD2.out.below (hy))
        replace BX2 := Lib.hid (BX2.out.below (hy) BX2.out.lt)
        replace RD3 := Lib.hid (RD3.out.below (hy))
        replace BX3 := Lib.hid (BX3.out.below (hy) BX3.out.lt)
        replace RD4 := Lib.hid (RD4.out.below (hy))
        replace BX4 := Lib.hid (BX4.out.below (hy) BX4.out.lt)
        clear hy PC bk
        by_cases z4 : m4 = 0
        · subst z4
          have PC := P4.out rfl
          have bk := BX4.out
          go_wp2_with (refine wpList_load_row_g (by kernel_rfl) 41 (.tmp 15) rfl (w4.heap.size) rfl 41 (tc (.slice A4 T4.ents.length c4) T4.at') _ bk Tryz.underlying41 rfl info_trl ?_)
          refine (HCH.out T4 _ _ HU.out RD4.out PC).mono ?_
          rintro e y4 ⟨rfl, hy⟩
          replace HU := Lib.hid (HU.out.trans ((hy).mono HU.out.size))
          replace BX0 := Lib.hid (BX0.out.below (hy) BX0.out.lt)
          replace RD0 := Lib.hid (RD0.out.below (hy))
          replace RD1 := Lib.hid (RD1.out.below (hy))
          replace BX1 := Lib.hid (BX1.out.below (hy) BX1.out.lt)
          replace RD2 := Lib.hid (RD2.out.below (hy))
          replace BX2 := Lib.hid (BX2.out.below (hy) BX2.out.lt)
          replace RD3 := Lib.hid (RD3.out.below (hy))
          replace BX3 := Lib.hid (BX3.out.below (hy) BX3.out.lt)
          replace RD4 := Lib.hid (RD4.out.below (hy))
          replace BX4 := Lib.hid (BX4.out.below (hy) BX4.out.lt)
          clear hy PC bk
          go_wp2
          go_ret
          exact ⟨rfl, HU.out⟩
        · have g4 : (m4 != 0) = true := by rw [bne_iff_ne]; exact z4
          have G4 := Lib.hid z4
          clear z4
          go_wp2
          go_ret
          exact ⟨rfl, HU.out⟩
      · have g3 : (m3 != 0) = true := by rw [bne_iff_ne]; exact z3
        have G3 := Lib.hid z3
        clear z3
        by_cases z4 : m4 = 0
        · subst z4
          have PC := P4.out rfl
          have bk := BX4.out
          go_wp2_with (refine wpList_load_row_g (by kernel_rfl) 41 (.tmp 15) rfl (w4.heap.size) rfl 41 (tc (.slice A4 T4.ents.length c4) T4.at') _ bk Tryz.underlying41 rfl info_trl ?_)
          refine (HCH.out T4 _ _ HU.out RD4.out PC).mono ?_
          rintro e y4 ⟨rfl, hy⟩
          replace HU := Lib.hid (HU.out.trans ((hy).mono HU.out.size))
          replace BX0 := Lib.hid (BX0.out.below (hy) BX0.out.lt)
          replace RD0 := Lib.hid (RD0.out.below (hy))
          replace RD1 := Lib.hid (RD1.out.below (hy))
          replace BX1 := Lib.hid (BX1.out.below (hy) BX1.out.lt)
          replace RD2 := Lib.hid (RD2.out.below (hy))
          replace BX2 := Lib.hid (BX2.out.below (hy) BX2.out.lt)
          replace RD3 := Lib.hid (RD3.out.below (hy))
          replace BX3 := Lib.hid (BX3.out.below (hy) BX3.out.lt)
          replace RD4 := Lib.hid (RD4.out.below (hy))
          replace BX4 := Lib.hid (BX4.out.below (hy) BX4.out.lt)
          clear hy PC bk
          go_wp2
          go_ret
          exact ⟨rfl, HU.out⟩
        · have g4 : (m4 != 0) = true := by rw [bne_iff_ne]; exact z4
          have G4 := Lib.hid z4
          clear z4
          go_wp2
          go_ret
          exact ⟨rfl, HU.out⟩
  · have g1 : (m1 != 0) = true := by rw [bne_iff_ne]; exact z1
    have G1 := Lib.hid z1
    clear z1
    by_cases z2 : m2 = 0
    · subst z2
      have PC := P2.out rfl
      have bk := BX2.out
      go_wp2_with (refine wpList_load_row_g (by kernel_rfl) 41 (.tmp 11) rfl (w2.heap.size) rfl 41 (tc (.slice A2 T2.ents.length c2) T2.at') _ bk Tryz.underlying41 rfl info_trl ?_)
      refine (HCH.out T2 _ _ HU.out RD2.out PC).mono ?_
      rintro e y2 ⟨rfl, hy⟩
      replace HU := Lib.hid (HU.out.trans ((hy).mono HU.out.size))
      replace BX0 := Lib.hid (BX0.out.below (hy) BX0.out.lt)
      replace RD0 := Lib.hid (RD0.out.below (hy))
      replace RD1 := Lib.hid (RD1.out.below (hy))
      replace BX1 := Lib.hid (BX1.out.below (hy) BX1.out.lt)
      replace RD2 := Lib.hid (RD2.out.below (hy))
      replace BX2 := Lib.hid (BX2.out.below (hy) BX2.out.lt)
      replace RD3 := Lib.hid (RD3.out.below (hy))
      replace BX3 := Lib.hid (BX3.out.below (hy) BX3.out.lt)
      replace RD4 := Lib.hid (RD4.out.below (hy))
      replace BX4 := Lib.hid (BX4.out.below (hy) BX4.out.lt)
      clear hy PC bk
      by_cases z3 : m3 = 0
      · subst z3
        have PC := P3.out rfl
        have bk := BX3.out
        go_wp2_with (refine wpList_load_row_g (by kernel_rfl) 41 (.tmp 13) rfl (w3.heap.size) rfl 41 (tc (.slice A3 T3.ents.length c3) T3.at') _ bk Tryz.underlying41 rfl info_trl ?_)
        refine (HCH.out T3 _ _ HU.out RD3.out PC).mono ?_
        rintro e y3 ⟨rfl, hy⟩
        replace HU := Lib.hid (HU.out.trans ((hy).mono HU.out.size))
        replace BX0 := Lib.hid (BX0.out.below (hy) BX0.out.lt)
        replace RD0 := Lib.hid (RD0.out.below (hy))
        replace RD1 := Lib.hid (RD1.out.below (hy))
        replace BX1 := Lib.hid (BX1.out.below (hy) BX1.out.lt)
        replace RD2 := Lib.hid (RD2.out.below (hy))
        replace BX2 := Lib.hid (BX2.out.below (hy) BX2.out.lt)
        replace RD3 := Lib.hid (RD3.out.below (hy))
        replace BX3 := Lib.hid (BX3.out.below (hy) BX3.out.lt)
        replace RD4 := Lib.hid (RD4.out.below (hy))
        replace BX4 := Lib.hid (BX4.out.below (hy) BX4.out.lt)
        clear hy PC bk
        by_cases z4 : m4 = 0
        · subst z4
          have PC := P4.out rfl
          have bk := BX4.out
          go_wp2_with (refine wpList_load_row_g (by kernel_rfl) 41 (.tmp 15) rfl (w4.heap.size) rfl 41 (tc (.slice A4 T4.ents.length c4) T4.at') _ bk Tryz.underlying41 rfl info_trl ?_)
          refine (HCH.out T4 _ _ HU.out RD4.out PC).mono ?_
          rintro e y4 ⟨rfl, hy⟩
          replace HU := Lib.hid (HU.out.trans ((hy).mono HU.out.size))
          replace BX0 := Lib.hid (BX0.out.below (hy) BX0.out.lt)
          replace RD0 := Lib.hid (RD0.out.below (hy))
          replace RD1 := Lib.hid (RD1.out.below (hy))
          replace BX1 := Lib.hid (BX1.out.below (hy) BX1.out.lt)
          replace RD2 := Lib.hid (RD2.out.below (hy))
          replace BX2 := Lib.hid (BX2.out.below (hy) BX2.out.lt)
          replace RD3 := Lib.hid (RD3.out.below (hy))
          replace BX3 := Lib.hid (BX3.out.below (hy) BX3.out.lt)
          replace RD4 := Lib.hid (RD4.out.below (hy))
          replace BX4 := Lib.hid (BX4.out.below (hy) BX4.out.lt)
          clear hy PC bk
          go_wp2
          go_ret
          exact ⟨rfl, HU.out⟩
        · have g4 : (m4 != 0) = true := by rw [bne_iff_ne]; exact z4
          have G4 := Lib.hid z4
          clear z4
          go_wp2
          go_ret
          exact ⟨rfl, HU.out⟩
      · have g3 : (m3 != 0) = true := by rw [bne_iff_ne]; exact z3
        have G3 := Lib.hid z3
        clear z3
        by_cases z4 : m4 = 0
        · subst z4
          have PC := P4.out rfl
          have bk := BX4.out
          go_wp2_with (refine wpList_load_row_g (by kernel_rfl) 41 (.tmp 15) rfl (w4.heap.size) rfl 41 (tc (.slice A4 T4.ents.length c4) T4.at') _ bk Tryz.underlying41 rfl info_trl ?_)
          refine (HCH.out T4 _ _ HU.out RD4.out PC).mono ?_
          rintro e y4 ⟨rfl, hy⟩
          replace HU := Lib.hid (HU.out.trans ((hy).mono HU.out.size))
          replace BX0 := Lib.hid (BX0.out.below (hy) BX0.out.lt)
          replace RD0 := Lib.hid (RD0.out.below (hy))
          replace RD1 := Lib.hid (RD1.out.below (hy))
          replace BX1 := Lib.hid (BX1.out.below (hy) BX1.out.lt)
          replace RD2 := Lib.hid (RD2.out.below (hy))
          replace BX2 := Lib.hid (BX2.out.below (hy) BX2.out.lt)
          replace RD3 := Lib.hid (RD3.out.below (hy))
          replace BX3 := Lib.hid (BX3.out.below (hy) BX3.out.lt)
          replace RD4 := Lib.hid (RD4.out.below (hy))
          replace BX4 := Lib.hid (BX4.out.below (hy) BX4.out.lt)
          clear hy PC bk
          go_wp2
          go_ret
          exact ⟨rfl, HU.out⟩
        · have g4 : (m4 != 0) = true := by rw [bne_iff_ne]; exact z4
          have G4 := Lib.hid z4
          clear z4
          go_wp2
          go_ret
          exact ⟨rfl, HU.out⟩
    · have g2 : (m2 != 0) = true := by rw [bne_iff_ne]; exact z2
      have G2 := Lib.hid z2
      clear z2
      by_cases z3 : m3 = 0
      · subst z3
        have PC := P3.out rfl
        have bk := BX3.out
        go_wp2_with (refine wpList_load_row_g (by kernel_rfl) 41 (.tmp 13) rfl (w3.heap.size) rfl 41 (tc (.slice A3 T3.ents.length c3) T3.at') _ bk Tryz.underlying41 rfl info_trl ?_)
        refine (HCH.out T3 _ _ HU.out RD3.out PC).mono ?_
        rintro e y3 ⟨rfl, hy⟩
        replace HU := Lib.hid (HU.out.trans ((hy).mono HU.out.size))
        replace BX0 := Lib.hid (BX0.out.below (hy) BX0.out.lt)
        replace RD0 := Lib.hid (RD0.out.below (hy))
        replace RD1 := Lib.hid (RD1.out.below (hy))
        replace BX1 := Lib.hid (BX1.out.below (hy) BX1.out.lt)
        replace RD2 := Lib.hid (RD2.out.below (hy))
        replace BX2 := Lib.hid (BX2.out.below (hy) BX2.out.lt)
        replace RD3 := Lib.hid (RD3.out.below (hy))
        replace BX3 := Lib.hid (BX3.out.below (hy) BX3.out.lt)
        replace RD4 := Lib.hid (RD4.out.below (hy))
        replace BX4 := Lib.hid (BX4.out.below (hy) BX4.out.lt)
        clear hy PC bk
        by_cases z4 : m4 = 0
        · subst z4
          have PC := P4.out rfl
          have bk := BX4.out
          go_wp2_with (refine wpList_load_row_g (by kernel_rfl) 41 (.tmp 15) rfl (w4.heap.size) rfl 41 (tc (.slice A4 T4.ents.length c4) T4.at') _ bk Tryz.underlying41 rfl info_trl ?_)
          refine (HCH.out T4 _ _ HU.out RD4.out PC).mono ?_
          rintro e y4 ⟨rfl, hy⟩
          replace HU := Lib.hid (HU.out.trans ((hy).mono HU.out.size))
          replace BX0 := Lib.hid (BX0.out.below (hy) BX0.out.lt)
          replace RD0 := Lib.hid (RD0.out.below (hy))
          replace RD1 := Lib.hid (RD1.out.below (hy))
          replace BX1 := Lib.hid (BX1.out.below (hy) BX1.out.lt)
          replace RD2 := Lib.hid (RD2.out.below (hy))
          replace BX2 := Lib.hid (BX2.out.below (hy) BX2.out.lt)
          replace RD3 := Lib.hid (RD3.out.below (hy))
          replace BX3 := Lib.hid (BX3.out.below (hy) BX3.out.lt)
          replace RD4 := Lib.hid (RD4.out.below (hy))
          replace BX4 := Lib.hid (BX4.out.below (hy) BX4.out.lt)
          clear hy PC bk
          go_wp2
          go_ret
          exact ⟨rfl, HU.out⟩
        · have g4 : (m4 != 0) = true := by rw [bne_iff_ne]; exact z4
          have G4 := Lib.hid z4
          clear z4
          go_wp2
          go_ret
          exact ⟨rfl, HU.out⟩
      · have g3 : (m3 != 0) = true := by rw [bne_iff_ne]; exact z3
        have G3 := Lib.hid z3
        clear z3
        by_cases z4 : m4 = 0
        · subst z4
          have PC := P4.out rfl
          have bk := BX4.out
          go_wp2_with (refine wpList_load_row_g (by kernel_rfl) 41 (.tmp 15) rfl (w4.heap.size) rfl 41 (tc (.slice A4 T4.ents.length c4) T4.at') _ bk Tryz.underlying41 rfl info_trl ?_)
          refine (HCH.out T4 _ _ HU.out RD4.out PC).mono ?_
          rintro e y4 ⟨rfl, hy⟩
          replace HU := Lib.hid (HU.out.trans ((hy).mono HU.out.size))
          replace BX0 := Lib.hid (BX0.out.below (hy) BX0.out.lt)
          replace RD0 := Lib.hid (RD0.out.below (hy))
          replace RD1 := Lib.hid (RD1.out.below (hy))
          replace BX1 := Lib.hid (BX1.out.below (hy) BX1.out.lt)
          replace RD2 := Lib.hid (RD2.out.below (hy))
          replace BX2 := Lib.hid (BX2.out.below (hy) BX2.out.lt)
          replace RD3 := Lib.hid (RD3.out.below (hy))
          replace BX3 := Lib.hid (BX3.out.below (hy) BX3.out.lt)
          replace RD4 := Lib.hid (RD4.out.below (hy))
          replace BX4 := Lib.hid (BX4.out.below (hy) BX4.out.lt)
          clear hy PC bk
          go_wp2
          go_ret
          exact ⟨rfl, HU.out⟩
        · have g4 : (m4 != 0) = true := by rw [bne_iff_ne]; exact z4
          have G4 := Lib.hid z4
          clear z4
          go_wp2
          go_ret
          exact ⟨rfl, HU.out⟩
end Go.Proofs.YtdolmjeiakdfhaaGreatDoor
