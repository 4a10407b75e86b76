/-
  TrailOrigin returns true. Conditions: the trail lies in memory; the library's variables hold what they hold.
-/
import Derived.Test.YtdolmjeiakdfhaaGreatDoorTkE
import Derived.Test.YtdolmjeiakdfhaaGreatDoorGrd
import Derived.BigQuiet
import Derived.Deep.RegionHeld3
namespace Go.Proofs.YtdolmjeiakdfhaaGreatDoor
set_option linter.unusedSimpArgs false
set_option linter.unusedVariables false
open Go.RowKit
open Traily (Ent T)

set_option maxRecDepth 100000 in
set_option maxHeartbeats 8000000 in
theorem trailOrigin_true (t : T) (v : Value) (ref st : List UInt8) (w : World) (he : Env w) (hv : TrRd w t v) :
    Calls Tryz.prog 5 #[.agg (tc v t.at'), .string (byt ref), .string (byt st)] w (BoolOut true w) := by
  have HPU : Hid (∀ w1, Below w.heap.size w w1 → Calls Tryz.prog 15 #[.agg (tc v t.at'), .string (byt ref), .string (byt st)] w1 (TRes (Traily.push t ref st) w1)) := Lib.hid (fun w1 h => pushC t v ref st w1 (he.below h) (hv.below h))
  have HSL : Hid (∀ (t : T) (v : Value) w1, Below w.heap.size w w1 → TrRd w1 t v → Calls Tryz.prog 15 #[.agg (tc v t.at'), .string ⟨#[47]⟩, .string ⟨#[]⟩] w1 (TRes (Traily.push t [47] []) w1)) := Lib.hid (fun t v w1 h hv => pushC t v [47] [] w1 (he.below h) hv)
  have HLV : Hid (∀ w1, Below w.heap.size w w1 → Calls Tryz.prog 16 #[] w1 (BoolOut true w1)) := Lib.hid (fun w1 h => trailLives_true w1 (he.below h))
  have HOK : Hid (∀ (w1 : World), Calls Tryz.prog 11 #[.slice (some ⟨w1.heap.size, 0, none⟩) 2 2] (w1.alloc (.cells #[.int .i64 0, .int .i64 0] 24)) fun e w' => e = .returned (.bool true) ∧ Below w1.heap.size w1 w') := Lib.hid (fun w1 => (ok_any [0, 0] w1.heap.size _ (Box.new w1 _ _) (by simp)).mono fun e w' ⟨h1, h2⟩ => ⟨by rw [h1]; rfl, by rw [h2]; exact below1 w1 _⟩)
  have HV := Lib.hid hv
  obtain ⟨RF, hRF⟩ : ∃ S, byt ref = S := ⟨_, rfl⟩
  rw [hRF]
  (try rw [hRF] at HLO)
  (try rw [hRF] at HPU)
  (try rw [hRF] at HRE)
  clear hRF
  obtain ⟨SS, hSS⟩ : ∃ S, byt st = S := ⟨_, rfl⟩
  rw [hSS]
  (try rw [hSS] at HLO)
  (try rw [hSS] at HPU)
  (try rw [hSS] at HRE)
  clear hSS
  clear he hv
  go_enter Tryz.func5, Tryz.ntmps5
  go_upto_region 1 with (fail)
  refine gen_world (F := fun W => Box W w.heap.size 41 (tc v t.at') ∧ Below w.heap.size w W) ⟨Box.new w _ _, below1 w _⟩ ?_
  rintro W0 ⟨b0, hU⟩
  have HU := Lib.hid hU
  have BX0 := Lib.hid b0
  have RD0 := Lib.hid (HV.out.below hU)
  clear hU b0 HV
  have bx := BX0.out
  go_wp2_with (refine wpList_load_row rfl 41 (.tmp 3) rfl (w.heap.size) rfl _ (tc v t.at') (0, 0) _ bx Tryz.underlying41 rfl info_trl ?_)
  refine (HPU.out _ HU.out).mono ?_
  rintro e w1 ⟨T1, A1, c1, m1, rfl, hT1, hrd1, hb1⟩
  replace HU := Lib.hid (HU.out.trans ((hb1).mono HU.out.size))
  replace BX0 := Lib.hid (BX0.out.below (hb1) BX0.out.lt)
  replace RD0 := Lib.hid (RD0.out.below (hb1))
  have RD1 := Lib.hid hrd1
  clear hb1 hrd1
  clear bx
  go_upto_region 2 with (refine wpList_store_box rfl 41 (.tmp 7) (.tmp 18) rfl w1.heap.size (tc (.slice A1 T1.ents.length c1) T1.at') rfl rfl 41 _ (Box.new w1 _ _) info_trl rfl (tc_one _ _ _ _) ?_; intro x1 hx1 hu1 hz1; have HZ1 := Lib.hid hz1; clear hz1)
  have hs1 : Below w1.heap.size w1 x1 := ((Below.refl _ w1).alloc (Nat.le_refl _) _).trans (hu1.own (Nat.le_refl _) (by simp))
  replace HU := Lib.hid (HU.out.trans ((hs1).mono HU.out.size))
  replace BX0 := Lib.hid (BX0.out.below (hs1) BX0.out.lt)
  replace RD0 := Lib.hid (RD0.out.below (hs1))
  replace RD1 := Lib.hid (RD1.out.below (hs1))
  have BX1 := Lib.hid hx1
  clear hs1 hu1 hx1
  go_wp2_with (fail)
  refine (HLV.out _ HU.out).mono ?_
  rintro e y0 ⟨rfl, hlv⟩
  replace HU := Lib.hid (HU.out.trans ((hlv).mono HU.out.size))
  replace BX0 := Lib.hid (BX0.out.below (hlv) BX0.out.lt)
  replace RD0 := Lib.hid (RD0.out.below (hlv))
  replace RD1 := Lib.hid (RD1.out.below (hlv))
  replace BX1 := Lib.hid (BX1.out.below (hlv) BX1.out.lt)
  clear hlv
  rcases hT1 with ⟨rfl, hr1⟩ | ⟨hm1, _, _⟩
  rotate_left
  · have g1 : (m1 != 0) = true := by rw [bne_iff_ne]; exact hm1
    have G1 := Lib.hid hm1
    clear hm1
    go_wp2_with (fail)
    refine (HLV.out _ HU.out).mono ?_
    rintro e y1 ⟨rfl, hlv⟩
    replace HU := Lib.hid (HU.out.trans ((hlv).mono HU.out.size))
    replace BX0 := Lib.hid (BX0.out.below (hlv) BX0.out.lt)
    replace RD0 := Lib.hid (RD0.out.below (hlv))
    replace RD1 := Lib.hid (RD1.out.below (hlv))
    replace BX1 := Lib.hid (BX1.out.below (hlv) BX1.out.lt)
    clear hlv
    go_wp2
    go_ret
    exact ⟨rfl, HU.out⟩
  obtain ⟨q, r, hq, hr, hur, hRq, hRr⟩ := Traily.origin_law hr1
  have HQQ := Lib.hid hq
  have HRR := Lib.hid hr
  have HUR := Lib.hid hur
  have HRQ := Lib.hid hRq
  have HR3 := Lib.hid hRr
  clear hr1 hq hr hur hRq hRr
  have bx1 := BX1.out
  go_wp2_with (refine wpList_load_row rfl 41 (.tmp 7) rfl (w1.heap.size) rfl _ (tc (.slice A1 T1.ents.length c1) T1.at') (0, 0) _ bx1 Tryz.underlying41 rfl info_trl ?_)
  refine (HSL.out T1 _ _ HU.out RD1.out).mono ?_
  rintro e w2 ⟨T2, A2, c2, m2, rfl, hT2, hrd2, hb2⟩
  replace HU := Lib.hid (HU.out.trans ((hb2).mono HU.out.size))
  replace BX0 := Lib.hid (BX0.out.below (hb2) BX0.out.lt)
  replace RD0 := Lib.hid (RD0.out.below (hb2))
  replace RD1 := Lib.hid (RD1.out.below (hb2))
  replace BX1 := Lib.hid (BX1.out.below (hb2) BX1.out.lt)
  have RD2 := Lib.hid hrd2
  clear hb2 hrd2
  obtain ⟨rfl, hE2⟩ := tok HQQ.out hT2
  have HE2 := Lib.hid hE2
  clear hT2 hE2 HQQ bx1
  go_upto_region 5 with (refine wpList_store_box rfl 41 (.tmp 9) (.tmp 30) rfl w2.heap.size (tc (.slice A2 T2.ents.length c2) T2.at') rfl rfl 41 _ (Box.new w2 _ _) info_trl rfl (tc_one _ _ _ _) ?_; intro x2 hx2 hu2 hz2; have HZ2 := Lib.hid hz2; clear hz2)
  have hs2 : Below w2.heap.size w2 x2 := ((Below.refl _ w2).alloc (Nat.le_refl _) _).trans (hu2.own (Nat.le_refl _) (by simp))
  replace HU := Lib.hid (HU.out.trans ((hs2).mono HU.out.size))
  replace BX0 := Lib.hid (BX0.out.below (hs2) BX0.out.lt)
  replace RD0 := Lib.hid (RD0.out.below (hs2))
  replace RD1 := Lib.hid (RD1.out.below (hs2))
  replace BX1 := Lib.hid (BX1.out.below (hs2) BX1.out.lt)
  replace RD2 := Lib.hid (RD2.out.below (hs2))
  have BX2 := Lib.hid hx2
  clear hs2 hu2 hx2
  have bx := BX0.out
  go_wp2_with (refine wpList_load_row rfl 41 (.tmp 3) rfl (w.heap.size) rfl _ (tc v t.at') (0, 0) _ bx Tryz.underlying41 rfl info_trl ?_)
  refine (HSL.out t v _ HU.out RD0.out).mono ?_
  rintro e w3 ⟨T3, A3, c3, m3, rfl, hT3, hrd3, hb3⟩
  replace HU := Lib.hid (HU.out.trans ((hb3).mono HU.out.size))
  replace BX0 := Lib.hid (BX0.out.below (hb3) BX0.out.lt)
  replace RD0 := Lib.hid (RD0.out.below (hb3))
  replace RD1 := Lib.hid (RD1.out.below (hb3))
  replace BX1 := Lib.hid (BX1.out.below (hb3) BX1.out.lt)
  replace RD2 := Lib.hid (RD2.out.below (hb3))
  replace BX2 := Lib.hid (BX2.out.below (hb3) BX2.out.lt)
  have RD3 := Lib.hid hrd3
  clear hb3 hrd3
  clear bx
  obtain ⟨rfl, hE3⟩ := tok HRR.out hT3
  have HE3 := Lib.hid hE3
  clear hT3 hE3 HRR
  go_upto_region 6 with (refine wpList_store_box rfl 41 (.tmp 11) (.tmp 35) rfl w3.heap.size (tc (.slice A3 T3.ents.length c3) T3.at') rfl rfl 41 _ (Box.new w3 _ _) info_trl rfl (tc_one _ _ _ _) ?_; intro x3 hx3 hu3 hz3; have HZ3 := Lib.hid hz3; clear hz3)
  have hs3 : Below w3.heap.size w3 x3 := ((Below.refl _ w3).alloc (Nat.le_refl _) _).trans (hu3.own (Nat.le_refl _) (by simp))
  replace HU := Lib.hid (HU.out.trans ((hs3).mono HU.out.size))
  replace BX0 := Lib.hid (BX0.out.below (hs3) BX0.out.lt)
  replace RD0 := Lib.hid (RD0.out.below (hs3))
  replace RD1 := Lib.hid (RD1.out.below (hs3))
  replace BX1 := Lib.hid (BX1.out.below (hs3) BX1.out.lt)
  replace RD2 := Lib.hid (RD2.out.below (hs3))
  replace BX2 := Lib.hid (BX2.out.below (hs3) BX2.out.lt)
  replace RD3 := Lib.hid (RD3.out.below (hs3))
  have BX3 := Lib.hid hx3
  clear hs3 hu3 hx3
  have HQ2 : Hid (Traily.Right T2) := Lib.hid (by rw [HE2.out]; exact HRQ.out)
  have HQ3 : Hid (Traily.Right T3) := Lib.hid (by rw [HE3.out]; exact HR3.out)
  have hu23 : (Traily.here T2).url = (Traily.here T3).url := by rw [HE2.out, HE3.out]; exact HUR.out
  obtain ⟨k2, hk2⟩ : ∃ k : Nat, T2.at' = k := ⟨T2.at'.toNat, by have := HQ2.out.lo; omega⟩
  have hlt2 : k2 < T2.ents.length := by have := HQ2.out.hi; omega
  have hltz2 : (k2 : Int) < (T2.ents.length : Int) := by omega
  have hat2 : T2.ents[k2]? = some (Traily.here T2) := by have h := (Traily.here_mem HQ2.out).2; rw [hk2] at h; exact h
  obtain ⟨X, cx, e1, h1, h2, h3⟩ := RD2.out
  injection e1 with e1 _ e2
  subst e1 e2
  obtain ⟨g2, o2, rfl, hg2, hr2⟩ := h3 (by omega)
  have hrow2 := RdL.elem (k := 3) (f := ec) (fun _ => rfl) hr2 hat2
  have a2 := BX2.out.cell 0
  have b2_ := BX2.out.cell 1
  rw [hk2] at b2_
  simp [tc] at a2 b2_
  clear h1 h2 h3
  obtain ⟨k3, hk3⟩ : ∃ k : Nat, T3.at' = k := ⟨T3.at'.toNat, by have := HQ3.out.lo; omega⟩
  have hlt3 : k3 < T3.ents.length := by have := HQ3.out.hi; omega
  have hltz3 : (k3 : Int) < (T3.ents.length : Int) := by omega
  have hat3 : T3.ents[k3]? = some (Traily.here T3) := by have h := (Traily.here_mem HQ3.out).2; rw [hk3] at h; exact h
  obtain ⟨X, cx, e1, h1, h2, h3⟩ := RD3.out
  injection e1 with e1 _ e2
  subst e1 e2
  obtain ⟨g3, o3, rfl, hg3, hr3⟩ := h3 (by omega)
  have hrow3 := RdL.elem (k := 3) (f := ec) (fun _ => rfl) hr3 hat3
  have a3 := BX3.out.cell 0
  have b3_ := BX3.out.cell 1
  rw [hk3] at b3_
  simp [tc] at a3 b3_
  clear h1 h2 h3
  have u2 := hrow2 0 _ rfl
  have u3 := hrow3 0 _ rfl
  simp at u2 u3
  rw [hu23] at u2
  obtain ⟨UU, hUU⟩ : ∃ S, byt (Traily.here T3).url = S := ⟨_, rfl⟩
  rw [hUU] at u2 u3
  obtain ⟨n2, hn2⟩ : ∃ n, T2.ents.length = n := ⟨_, rfl⟩
  obtain ⟨n3, hn3⟩ : ∃ n, T3.ents.length = n := ⟨_, rfl⟩
  rw [hn2] at a2 hltz2 hlt2
  rw [hn3] at a3 hltz3 hlt3
  obtain ⟨q1, q2⟩ := same_yes UU
  obtain ⟨wq, hwq⟩ : ∃ wq, x3 = wq := ⟨_, rfl⟩
  rw [hwq] at a2 b2_ a3 b3_ u2 u3 HU
  rw [hwq]
  clear hrow2 hrow3 hr2 hr3 hat2 hat3 hk2 hk3 hu23 hUU hn2 hn3 hwq RD0 RD1 RD2 RD3 BX0 BX1 BX2 BX3 hg2 hg3
  have HKC : Hid (∀ wa wb : World, (Below w.heap.size w wa ∧ wa.cell? ⟨w2.heap.size, 0, none⟩ = some (.slice (some ⟨g2, o2, none⟩) n2 c2) ∧ wa.cell? ⟨w2.heap.size, 1, none⟩ = some (.int .i64 (k2 : Int)) ∧ wa.cell? ⟨w3.heap.size, 0, none⟩ = some (.slice (some ⟨g3, o3, none⟩) n3 c3) ∧ wa.cell? ⟨w3.heap.size, 1, none⟩ = some (.int .i64 (k3 : Int)) ∧ wa.cell? ⟨g2, o2 + k2 * 3, none⟩ = some (.string UU) ∧ wa.cell? ⟨g3, o3 + k3 * 3, none⟩ = some (.string UU)) → Below wa.heap.size wa wb → (Below w.heap.size w wb ∧ wb.cell? ⟨w2.heap.size, 0, none⟩ = some (.slice (some ⟨g2, o2, none⟩) n2 c2) ∧ wb.cell? ⟨w2.heap.size, 1, none⟩ = some (.int .i64 (k2 : Int)) ∧ wb.cell? ⟨w3.heap.size, 0, none⟩ = some (.slice (some ⟨g3, o3, none⟩) n3 c3) ∧ wb.cell? ⟨w3.heap.size, 1, none⟩ = some (.int .i64 (k3 : Int)) ∧ wb.cell? ⟨g2, o2 + k2 * 3, none⟩ = some (.string UU) ∧ wb.cell? ⟨g3, o3 + k3 * 3, none⟩ = some (.string UU))) := Lib.hid (fun wa wb h hb => ⟨h.1.trans (hb.mono h.1.size), (hb.cell (p := ⟨w2.heap.size, 0, none⟩) (block_lt_of_cell h.2.1)).trans h.2.1, (hb.cell (p := ⟨w2.heap.size, 1, none⟩) (block_lt_of_cell h.2.2.1)).trans h.2.2.1, (hb.cell (p := ⟨w3.heap.size, 0, none⟩) (block_lt_of_cell h.2.2.2.1)).trans h.2.2.2.1, (hb.cell (p := ⟨w3.heap.size, 1, none⟩) (block_lt_of_cell h.2.2.2.2.1)).trans h.2.2.2.2.1, (hb.cell (p := ⟨g2, o2 + k2 * 3, none⟩) (block_lt_of_cell h.2.2.2.2.2.1)).trans h.2.2.2.2.2.1, (hb.cell (p := ⟨g3, o3 + k3 * 3, none⟩) (block_lt_of_cell h.2.2.2.2.2.2)).trans h.2.2.2.2.2.2⟩)
  refine wp_region_held_drew (S := fun w' => Below w.heap.size w w' ∧ w'.cell? ⟨w2.heap.size, 0, none⟩ = some (.slice (some ⟨g2, o2, none⟩) n2 c2) ∧ w'.cell? ⟨w2.heap.size, 1, none⟩ = some (.int .i64 (k2 : Int)) ∧ w'.cell? ⟨w3.heap.size, 0, none⟩ = some (.slice (some ⟨g3, o3, none⟩) n3 c3) ∧ w'.cell? ⟨w3.heap.size, 1, none⟩ = some (.int .i64 (k3 : Int)) ∧ w'.cell? ⟨g2, o2 + k2 * 3, none⟩ = some (.string UU) ∧ w'.cell? ⟨g3, o3 + k3 * 3, none⟩ = some (.string UU)) (by kernel_rfl) ⟨HU.out.drew, a2, b2_, a3, b3_, u2, u3⟩ (fun hHeld => ?_)
  obtain ⟨wd, hwd⟩ : ∃ wd, wq.drew = wd := ⟨_, rfl⟩
  rw [hwd] at hHeld
  (try rw [hwd])
  clear hwd
  refine wpAnyH_take (i := 0) (v := ?_) rfl (by kernel_rfl) (by kernel_rfl) (by kernel_rfl) (fun _ _ _ h => h) (Or.inl ⟨by kernel_rfl, ?_⟩) (by assumption) ?_
  rotate_left
  · intro w hSw
    (try dsimp only at hSw)
    go_simp
    try (with_reducible rfl)
  (try simp only [Act.put, List.getElem_toArray, List.getElem_cons_zero, List.setIfInBounds_toArray, List.set_cons_zero, List.set_cons_succ])
  refine wpAnyH_take (i := 1) (v := ?_) rfl (by kernel_rfl) (by kernel_rfl) (by kernel_rfl) (fun _ _ _ h => h) (Or.inl ⟨by kernel_rfl, ?_⟩) (by assumption) ?_
  rotate_left
  · intro w hSw
    (try dsimp only at hSw)
    go_simp
    try (with_reducible rfl)
  (try simp only [Act.put, List.getElem_toArray, List.getElem_cons_succ, List.getElem_cons_zero, List.setIfInBounds_toArray, List.set_cons_zero, List.set_cons_succ])
  refine wpAnyH_ready (rs := [2]) (by kernel_rfl) (by simp) ?_
  refine AllReadyH.cons rfl (fun K hK => ?_) AllReadyH.nil
  go_simp
  have hH0 := hHeld
  refine hK.out _ _ (HKC.out _ _ hHeld (below1 _ _)) (fun hHeld => ?_)
  clear hK K
  (try simp only [Act.put, List.getElem_toArray, List.getElem_cons_succ, List.getElem_cons_zero, List.setIfInBounds_toArray, List.set_cons_zero, List.set_cons_succ])
  refine wpAnyH_ready (rs := [3]) (by kernel_rfl) (by simp) ?_
  refine AllReadyH.cons rfl (fun K hK => ?_) AllReadyH.nil
  go_simp
  refine (HOK.out _).mono ?_
  rintro e w5 ⟨rfl, hb5⟩
  go_wp2_with (fail)
  refine hK.out _ _ ?_ (fun hHeld => ?_)
  · exact HKC.out _ _ hH0 hb5
  clear hK K
  (try simp only [Act.put, List.getElem_toArray, List.getElem_cons_succ, List.getElem_cons_zero, List.setIfInBounds_toArray, List.set_cons_zero, List.set_cons_succ])
  clear hH0
  refine wpAnyH_take (i := 4) (v := ?_) rfl (by kernel_rfl) (by kernel_rfl) (by kernel_rfl) (fun _ _ _ h => h) (Or.inl ⟨by kernel_rfl, ?_⟩) (by assumption) ?_
  rotate_left
  · intro w hSw
    (try dsimp only at hSw)
    go_simp
    try (with_reducible rfl)
  (try simp only [Act.put, List.getElem_toArray, List.getElem_cons_succ, List.getElem_cons_zero, List.setIfInBounds_toArray, List.set_cons_zero, List.set_cons_succ])
  refine wpAnyH_take (i := 5) (v := ?_) rfl (by kernel_rfl) (by kernel_rfl) (by kernel_rfl) (fun _ _ _ h => h) (Or.inl ⟨by kernel_rfl, ?_⟩) (by assumption) ?_
  rotate_left
  · intro w hSw
    (try dsimp only at hSw)
    go_simp
    try (with_reducible rfl)
  (try simp only [Act.put, List.getElem_toArray, List.getElem_cons_succ, List.getElem_cons_zero, List.setIfInBounds_toArray, List.set_cons_zero, List.set_cons_succ])
  refine wpAnyH_take (i := 6) (v := ?_) rfl (by kernel_rfl) (by kernel_rfl) (by kernel_rfl) (fun _ _ _ h => h) (Or.inl ⟨by kernel_rfl, ?_⟩) (by assumption) ?_
  rotate_left
  · intro w hSw
    (try dsimp only at hSw)
    go_simp
    try (with_reducible rfl)
  (try simp only [Act.put, List.getElem_toArray, List.getElem_cons_succ, List.getElem_cons_zero, List.setIfInBounds_toArray, List.set_cons_zero, List.set_cons_succ])
  refine wpAnyH_take (i := 7) (v := ?_) rfl (by kernel_rfl) (by kernel_rfl) (by kernel_rfl) (fun _ _ _ h => h) (Or.inl ⟨by kernel_rfl, ?_⟩) (by assumption) ?_
  rotate_left
  · intro w hSw
    (try dsimp only at hSw)
    go_simp
    try (with_reducible rfl)
  (try simp only [Act.put, List.getElem_toArray, List.getElem_cons_succ, List.getElem_cons_zero, List.setIfInBounds_toArray, List.set_cons_zero, List.set_cons_succ])
  refine wpAnyH_take (i := 8) (v := ?_) rfl (by kernel_rfl) (by kernel_rfl) (by kernel_rfl) (fun _ _ _ h => h) (Or.inl ⟨by kernel_rfl, ?_⟩) (by assumption) ?_
  rotate_left
  · intro w hSw
    (try dsimp only at hSw)
    go_simp
    try (with_reducible rfl)
  (try simp only [Act.put, List.getElem_toArray, List.getElem_cons_succ, List.getElem_cons_zero, List.setIfInBounds_toArray, List.set_cons_zero, List.set_cons_succ])
  refine wpAnyH_take (i := 9) (v := .pointer (some ⟨g2, o2 + k2 * 3, none⟩)) rfl (by kernel_rfl) (by kernel_rfl) (by kernel_rfl) (fun _ _ _ h => h) (Or.inl ⟨by kernel_rfl, ?_⟩) (by assumption) ?_
  · intro w hSw
    obtain ⟨s1, s2, s3, s4, s5, s6, s7⟩ := hSw
    go_simp
  (try simp only [Act.put, List.getElem_toArray, List.getElem_cons_succ, List.getElem_cons_zero, List.setIfInBounds_toArray, List.set_cons_zero, List.set_cons_succ])
  refine wpAnyH_take (i := 10) (v := ?_) rfl (by kernel_rfl) (by kernel_rfl) (by kernel_rfl) (fun _ _ _ h => h) (Or.inl ⟨by kernel_rfl, ?_⟩) (by assumption) ?_
  rotate_left
  · intro w hSw
    (try dsimp only at hSw)
    go_simp
    try (with_reducible rfl)
  (try simp only [Act.put, List.getElem_toArray, List.getElem_cons_succ, List.getElem_cons_zero, List.setIfInBounds_toArray, List.set_cons_zero, List.set_cons_succ])
  refine wpAnyH_take (i := 11) (v := ?_) rfl (by kernel_rfl) (by kernel_rfl) (by kernel_rfl) (fun _ _ _ h => h) (Or.inl ⟨by kernel_rfl, ?_⟩) (by assumption) ?_
  rotate_left
  · intro w hSw
    (try dsimp only at hSw)
    go_simp
    try (with_reducible rfl)
  (try simp only [Act.put, List.getElem_toArray, List.getElem_cons_succ, List.getElem_cons_zero, List.setIfInBounds_toArray, List.set_cons_zero, List.set_cons_succ])
  refine wpAnyH_take (i := 12) (v := ?_) rfl (by kernel_rfl) (by kernel_rfl) (by kernel_rfl) (fun _ _ _ h => h) (Or.inl ⟨by kernel_rfl, ?_⟩) (by assumption) ?_
  rotate_left
  · intro w hSw
    (try dsimp only at hSw)
    go_simp
    try (with_reducible rfl)
  (try simp only [Act.put, List.getElem_toArray, List.getElem_cons_succ, List.getElem_cons_zero, List.setIfInBounds_toArray, List.set_cons_zero, List.set_cons_succ])
  refine wpAnyH_take (i := 13) (v := ?_) rfl (by kernel_rfl) (by kernel_rfl) (by kernel_rfl) (fun _ _ _ h => h) (Or.inl ⟨by kernel_rfl, ?_⟩) (by assumption) ?_
  rotate_left
  · intro w hSw
    (try dsimp only at hSw)
    go_simp
    try (with_reducible rfl)
  (try simp only [Act.put, List.getElem_toArray, List.getElem_cons_succ, List.getElem_cons_zero, List.setIfInBounds_toArray, List.set_cons_zero, List.set_cons_succ])
  refine wpAnyH_take (i := 14) (v := ?_) rfl (by kernel_rfl) (by kernel_rfl) (by kernel_rfl) (fun _ _ _ h => h) (Or.inl ⟨by kernel_rfl, ?_⟩) (by assumption) ?_
  rotate_left
  · intro w hSw
    (try dsimp only at hSw)
    go_simp
    try (with_reducible rfl)
  (try simp only [Act.put, List.getElem_toArray, List.getElem_cons_succ, List.getElem_cons_zero, List.setIfInBounds_toArray, List.set_cons_zero, List.set_cons_succ])
  refine wpAnyH_take (i := 15) (v := ?_) rfl (by kernel_rfl) (by kernel_rfl) (by kernel_rfl) (fun _ _ _ h => h) (Or.inl ⟨by kernel_rfl, ?_⟩) (by assumption) ?_
  rotate_left
  · intro w hSw
    (try dsimp only at hSw)
    go_simp
    try (with_reducible rfl)
  (try simp only [Act.put, List.getElem_toArray, List.getElem_cons_succ, List.getElem_cons_zero, List.setIfInBounds_toArray, List.set_cons_zero, List.set_cons_succ])
  refine wpAnyH_take (i := 16) (v := .pointer (some ⟨g3, o3 + k3 * 3, none⟩)) rfl (by kernel_rfl) (by kernel_rfl) (by kernel_rfl) (fun _ _ _ h => h) (Or.inl ⟨by kernel_rfl, ?_⟩) (by assumption) ?_
  · intro w hSw
    obtain ⟨s1, s2, s3, s4, s5, s6, s7⟩ := hSw
    go_simp
  (try simp only [Act.put, List.getElem_toArray, List.getElem_cons_succ, List.getElem_cons_zero, List.setIfInBounds_toArray, List.set_cons_zero, List.set_cons_succ])
  refine wpAnyH_take (i := 17) (v := ?_) rfl (by kernel_rfl) (by kernel_rfl) (by kernel_rfl) (fun _ _ _ h => h) (Or.inl ⟨by kernel_rfl, ?_⟩) (by assumption) ?_
  rotate_left
  · intro w hSw
    (try dsimp only at hSw)
    go_simp
    try (with_reducible rfl)
  (try simp only [Act.put, List.getElem_toArray, List.getElem_cons_succ, List.getElem_cons_zero, List.setIfInBounds_toArray, List.set_cons_zero, List.set_cons_succ])
  refine wpAnyH_take (i := 18) (v := ?_) rfl (by kernel_rfl) (by kernel_rfl) (by kernel_rfl) (fun _ _ _ h => h) (Or.inl ⟨by kernel_rfl, ?_⟩) (by assumption) ?_
  rotate_left
  · intro w hSw
    (try dsimp only at hSw)
    go_simp
    try (with_reducible rfl)
  (try simp only [Act.put, List.getElem_toArray, List.getElem_cons_succ, List.getElem_cons_zero, List.setIfInBounds_toArray, List.set_cons_zero, List.set_cons_succ])
  refine wpAnyH_take (i := 19) (v := ?_) rfl (by kernel_rfl) (by kernel_rfl) (by kernel_rfl) (fun _ _ _ h => h) (Or.inl ⟨by kernel_rfl, ?_⟩) (by assumption) ?_
  rotate_left
  · intro w hSw
    (try dsimp only at hSw)
    go_simp
    try (with_reducible rfl)
  (try simp only [Act.put, List.getElem_toArray, List.getElem_cons_succ, List.getElem_cons_zero, List.setIfInBounds_toArray, List.set_cons_zero, List.set_cons_succ])
  refine wpAnyH_take (i := 20) (v := ?_) rfl (by kernel_rfl) (by kernel_rfl) (by kernel_rfl) (fun _ _ _ h => h) (Or.inl ⟨by kernel_rfl, ?_⟩) (by assumption) ?_
  rotate_left
  · intro w hSw
    (try dsimp only at hSw)
    go_simp
    try (with_reducible rfl)
  (try simp only [Act.put, List.getElem_toArray, List.getElem_cons_succ, List.getElem_cons_zero, List.setIfInBounds_toArray, List.set_cons_zero, List.set_cons_succ])
  refine wpAnyH_take (i := 21) (v := ?_) rfl (by kernel_rfl) (by kernel_rfl) (by kernel_rfl) (fun _ _ _ h => h) (Or.inl ⟨by kernel_rfl, ?_⟩) (by assumption) ?_
  rotate_left
  · intro w hSw
    (try dsimp only at hSw)
    go_simp
    try (with_reducible rfl)
  (try simp only [Act.put, List.getElem_toArray, List.getElem_cons_succ, List.getElem_cons_zero, List.setIfInBounds_toArray, List.set_cons_zero, List.set_cons_succ])
  refine wpAnyH_done (by kernel_rfl) ?_ _
  go_wp2
  go_ret
  exact ⟨rfl, hHeld.1⟩
end Go.Proofs.YtdolmjeiakdfhaaGreatDoor
