/-
  TrailCuts returns true. Conditions: the trail lies in memory; the library's variables hold what they hold.
-/
import Derived.Test.YtdolmjeiakdfhaaGreatDoorTkE
import Derived.Test.YtdolmjeiakdfhaaGreatDoorGrd
import Derived.BigQuiet
import Derived.Deep.RegionHeld3
namespace Go.Proofs.YtdolmjeiakdfhaaGreatDoor
set_option linter.unusedSimpArgs false
set_option linter.unusedVariables false
open Go.RowKit
open Traily (Ent T)

theorem rd_up {w w1 : World} {k n b : Nat} {xs : List Value} {v : Value} (h : Rd w k xs n v) (hu : Upd w w1 b) (hne : v.ownBlock ≠ some b) : Rd w1 k xs n v := by
  obtain ⟨A, cap, rfl, h1, h2, h3⟩ := h
  refine ⟨A, cap, rfl, h1, h2, fun hn => ?_⟩
  obtain ⟨g, o, rfl, hg, hr⟩ := h3 hn
  have hz := hu.size
  refine ⟨g, o, rfl, by omega, fun i u hi => ?_⟩
  rw [World.cell?_of_block (hu.block g hg (by intro h; exact hne (by rw [← h]; rfl)))]
  exact hr i u hi
def TRes2 (r : Except Nat T) (w : World) (e : Ending) (w' : World) : Prop :=
  ∃ (t : T) (A : Option Addr) (c : Nat) (m : Int), e = .returned (.tuple #[.agg (tc (.slice A t.ents.length c) t.at'), .int .i64 m]) ∧ ((m = 0 ∧ r = .ok t) ∨ (m ≠ 0 ∧ (∃ n : Nat, r = .error n ∧ m = n) ∧ t = ⟨[], 0⟩)) ∧ TrRd w' t (.slice A t.ents.length c) ∧ Below w.heap.size w w' ∧ (∀ g, (Value.slice A t.ents.length c).ownBlock = some g → w.heap.size ≤ g)
theorem tRes2_of {r : Except Nat T} {w w' : World} {e : Ending} (h : TrOut r w e w') : TRes2 r w e w' := by
  rcases h with ⟨t, u, hr, he, ho, hb⟩ | ⟨n, hr, hn, he, hb⟩
  · have hrd := Rd.own ho
    have hlt := ho.lt
    obtain ⟨A, c, rfl⟩ := own_slice ho
    exact ⟨t, A, c, 0, he, .inl ⟨rfl, hr⟩, hrd, hb, fun g hg => (hlt g hg).1⟩
  · exact ⟨⟨[], 0⟩, none, 0, n, he, .inr ⟨by omega, ⟨n, hr, rfl⟩, rfl⟩, ⟨none, 0, rfl, Nat.le_refl _, by omega, fun h => absurd h (by simp)⟩, hb, fun g hg => by simp [Value.ownBlock] at hg⟩
theorem cuts_load {t l : T} {ref : List UInt8} (h : Traily.load t ref = .ok l) : Traily.Right t ∧ Traily.Right l ∧ Traily.go l 1 = .error 5 ∧ ∃ b c, Traily.go l (-1) = .ok (b, c) ∧ b.ents.length ≤ 50 ∧ Traily.here b = Traily.here t ∧ Traily.Right b := by
  obtain ⟨e, h1, h2, h3⟩ := Traily.load_form h
  obtain ⟨h4, h5⟩ := Traily.cuts_law h1 h2 h3
  exact ⟨h1, h3, h4, h5⟩
theorem cuts_push {t l : T} {ref st : List UInt8} (h : Traily.push t ref st = .ok l) : Traily.Right t ∧ Traily.Right l ∧ Traily.go l 1 = .error 5 ∧ ∃ b c, Traily.go l (-1) = .ok (b, c) ∧ b.ents.length ≤ 50 ∧ Traily.here b = Traily.here t ∧ Traily.Right b := by
  obtain ⟨e, _, h1, h2, h3⟩ := Traily.push_form h
  obtain ⟨h4, h5⟩ := Traily.cuts_law h1 h2 h3
  exact ⟨h1, h3, h4, h5⟩
set_option maxRecDepth 100000 in
set_option maxHeartbeats 8000000 in
theorem trailCuts_true (t : T) (v : Value) (ref st : List UInt8) (push : Bool) (w : World) (he : Env w) (hv : TrRd w t v) :
    Calls Tryz.prog 4 #[.agg (tc v t.at'), .string (byt ref), .string (byt st), .bool push] w (BoolOut true w) := by
  have HLO : Hid (∀ w1, Below w.heap.size w w1 → Calls Tryz.prog 14 #[.agg (tc v t.at'), .string (byt ref)] w1 (TRes (Traily.load t ref) w1)) := Lib.hid (fun w1 h => loadC t v ref w1 (he.below h) (hv.below h))
  have HG : Hid (∀ (t : T) (v : Value) (n : Int) w1, -9223372036854775808 ≤ n → n ≤ 9223372036854775807 → Below w.heap.size w w1 → TrRd w1 t v → Calls Tryz.prog 17 #[.agg (tc v t.at'), .int .i64 n] w1 (GRes (Traily.go t n) w1)) := Lib.hid (fun t v n w1 a b h hv => goC t v n w1 (he.below h) hv a b)
  have HLV : Hid (∀ w1, Below w.heap.size w w1 → Calls Tryz.prog 16 #[] w1 (BoolOut true w1)) := Lib.hid (fun w1 h => trailLives_true w1 (he.below h))
  have HV := Lib.hid hv
  have HV2 := HV
  have HP2 : Hid (∀ w1, Below w.heap.size w w1 → Calls Tryz.prog 15 #[.agg (tc v t.at'), .string (byt ref), .string (byt st)] w1 (TRes2 (Traily.push t ref st) w1)) := Lib.hid (fun w1 h => (push_any t v ref st w1 (he.below h) (hv.below h)).mono fun _ _ h => tRes2_of h)
  obtain ⟨RF, hRF⟩ : ∃ S, byt ref = S := ⟨_, rfl⟩
  rw [hRF]
  (try rw [hRF] at HLO)
  (try rw [hRF] at HP2)
  (try rw [hRF] at HRE)
  clear hRF
  obtain ⟨SS, hSS⟩ : ∃ S, byt st = S := ⟨_, rfl⟩
  rw [hSS]
  (try rw [hSS] at HLO)
  (try rw [hSS] at HP2)
  (try rw [hSS] at HRE)
  clear hSS
  clear he hv
  go_enter Tryz.func4, Tryz.ntmps4
  go_upto_region 1 with (fail)
  refine gen_world (F := fun W => Box W w.heap.size 41 (tc v t.at') ∧ Below w.heap.size w W) ⟨Box.new w _ _, below1 w _⟩ ?_
  rintro W0 ⟨b0, hU⟩
  have HU := Lib.hid hU
  have HZX : Hid (w.heap.size < W0.heap.size) := Lib.hid b0.lt
  have BX0 := Lib.hid b0
  have RD0 := Lib.hid (HV.out.below hU)
  clear hU b0 HV
  have bx := BX0.out
  go_wp2_with (refine wpList_load_row rfl 41 (.tmp 4) rfl (w.heap.size) rfl _ (tc v t.at') (0, 0) _ bx Tryz.underlying41 rfl info_trl ?_)
  refine (HLO.out _ HU.out).mono ?_
  rintro e w1 ⟨T1, A1, c1, m1, rfl, hT1, hrd1, hb1⟩
  replace HU := Lib.hid (HU.out.trans ((hb1).mono HU.out.size))
  replace BX0 := Lib.hid (BX0.out.below (hb1) BX0.out.lt)
  replace RD0 := Lib.hid (RD0.out.below (hb1))
  have RD1 := Lib.hid hrd1
  clear hb1 hrd1
  clear bx
  have hw1 := BX0.out.lt
  go_upto_region 2 with (refine wpList_store_box rfl 41 (.tmp 9) (.tmp 21) rfl w1.heap.size (tc (.slice A1 T1.ents.length c1) T1.at') rfl rfl 41 _ (Box.new w1 _ _) info_trl rfl (tc_one _ _ _ _) ?_; intro x1 hx1 hu1 hz1; have HZ1 := Lib.hid hz1; clear hz1)
  have hs1 : Below w1.heap.size w1 x1 := ((Below.refl _ w1).alloc (Nat.le_refl _) _).trans (hu1.own (Nat.le_refl _) (by simp))
  replace HU := Lib.hid (HU.out.trans ((hs1).mono HU.out.size))
  replace BX0 := Lib.hid (BX0.out.below (hs1) BX0.out.lt)
  replace RD0 := Lib.hid (RD0.out.below (hs1))
  replace RD1 := Lib.hid (RD1.out.below (hs1))
  have BX1 := Lib.hid hx1
  clear hs1 hu1 hx1
  cases push with
  | false =>
    have BXL := BX1
    clear BX1
    go_wp2_with (fail)
    refine (HLV.out _ HU.out).mono ?_
    rintro e y0 ⟨rfl, hlv⟩
    replace HU := Lib.hid (HU.out.trans ((hlv).mono HU.out.size))
    replace BX0 := Lib.hid (BX0.out.below (hlv) BX0.out.lt)
    replace RD0 := Lib.hid (RD0.out.below (hlv))
    replace RD1 := Lib.hid (RD1.out.below (hlv))
    replace BXL := Lib.hid (BXL.out.below (hlv) BXL.out.lt)
    clear hlv
    rcases hT1 with ⟨rfl, hr1⟩ | ⟨hm1, _, hE1⟩
    rotate_left
    · have g1 : (m1 != 0) = true := by rw [bne_iff_ne]; exact hm1
      have G1 := Lib.hid hm1
      clear hm1
      go_wp2_with (fail)
      refine (HLV.out _ HU.out).mono ?_
      rintro e y1 ⟨rfl, hlv⟩
      replace HU := Lib.hid (HU.out.trans ((hlv).mono HU.out.size))
      replace BX0 := Lib.hid (BX0.out.below (hlv) BX0.out.lt)
      replace RD0 := Lib.hid (RD0.out.below (hlv))
      replace RD1 := Lib.hid (RD1.out.below (hlv))
      replace BXL := Lib.hid (BXL.out.below (hlv) BXL.out.lt)
      clear hlv
      have a1 := BXL.out.cell 0
      have hl1 : T1.ents.length = 0 := by rw [hE1]; rfl
      simp [tc] at a1
      rw [hl1] at a1
      clear hE1 hl1
      go_wp2
      go_ret
      exact ⟨rfl, HU.out⟩
    obtain ⟨hR, hRl, hg1, bb, cc, hg2, hl2, hh2, hR2⟩ := cuts_load hr1
    have HG1 := Lib.hid hg1
    have HG2 := Lib.hid hg2
    have HL2 := Lib.hid hl2
    have HH2 := Lib.hid hh2
    have HR2 := Lib.hid hR2
    have HQ0 := Lib.hid hR
    clear hr1 hg1 hg2 hl2 hh2 hR2 hR hRl
    have bxl := BXL.out
    go_wp2_with (refine wpList_load_row rfl 41 (.tmp 9) rfl (w1.heap.size) rfl _ (tc (.slice A1 T1.ents.length c1) T1.at') (0, 0) _ bxl Tryz.underlying41 rfl info_trl ?_)
    refine (HG.out T1 _ 1 _ (by decide) (by decide) HU.out RD1.out).mono ?_
    rintro e w3 ⟨T3, A3, c3, b3, m3, rfl, hT3, hrd3, hb3⟩
    replace HU := Lib.hid (HU.out.trans ((hb3).mono HU.out.size))
    replace BX0 := Lib.hid (BX0.out.below (hb3) BX0.out.lt)
    replace RD0 := Lib.hid (RD0.out.below (hb3))
    replace RD1 := Lib.hid (RD1.out.below (hb3))
    replace BXL := Lib.hid (BXL.out.below (hb3) BXL.out.lt)
    have RD3 := Lib.hid hrd3
    clear hb3 hrd3
    obtain rfl : m3 = 5 := by rcases hT3 with ⟨_, h⟩ | ⟨_, ⟨n, h, h2⟩, _⟩; rw [HG1.out] at h; cases h; rw [HG1.out] at h; injection h with h; omega
    clear hT3 bxl
    go_upto_region 7 with (refine wpList_store_box rfl 41 (.tmp 11) (.tmp 47) rfl w3.heap.size (tc (.slice A3 T3.ents.length c3) T3.at') rfl rfl 41 _ (Box.new w3 _ _) info_trl rfl (tc_one _ _ _ _) ?_; intro x3 hx3 hu3 hz3; have HZ3 := Lib.hid hz3; clear hz3)
    have hs3 : Below w3.heap.size w3 x3 := ((Below.refl _ w3).alloc (Nat.le_refl _) _).trans (hu3.own (Nat.le_refl _) (by simp))
    replace HU := Lib.hid (HU.out.trans ((hs3).mono HU.out.size))
    replace BX0 := Lib.hid (BX0.out.below (hs3) BX0.out.lt)
    replace RD0 := Lib.hid (RD0.out.below (hs3))
    replace RD1 := Lib.hid (RD1.out.below (hs3))
    replace BXL := Lib.hid (BXL.out.below (hs3) BXL.out.lt)
    replace RD3 := Lib.hid (RD3.out.below (hs3))
    have BX3 := Lib.hid hx3
    clear hs3 hu3 hx3
    have bxl := BXL.out
    go_wp2_with (refine wpList_load_row rfl 41 (.tmp 9) rfl (w1.heap.size) rfl _ (tc (.slice A1 T1.ents.length c1) T1.at') (0, 0) _ bxl Tryz.underlying41 rfl info_trl ?_)
    refine (HG.out T1 _ (-1) _ (by decide) (by decide) HU.out RD1.out).mono ?_
    rintro e w4 ⟨T4, A4, c4, b4, m4, rfl, hT4, hrd4, hb4⟩
    replace HU := Lib.hid (HU.out.trans ((hb4).mono HU.out.size))
    replace BX0 := Lib.hid (BX0.out.below (hb4) BX0.out.lt)
    replace RD0 := Lib.hid (RD0.out.below (hb4))
    replace RD1 := Lib.hid (RD1.out.below (hb4))
    replace BXL := Lib.hid (BXL.out.below (hb4) BXL.out.lt)
    replace RD3 := Lib.hid (RD3.out.below (hb4))
    replace BX3 := Lib.hid (BX3.out.below (hb4) BX3.out.lt)
    have RD4 := Lib.hid hrd4
    clear hb4 hrd4
    obtain ⟨rfl, hE4, _⟩ := gok HG2.out hT4
    have HE4 := Lib.hid hE4
    clear hT4 hE4 HG2 bxl
    go_upto_region 10 with (refine wpList_store_box rfl 41 (.tmp 14) (.tmp 55) rfl w4.heap.size (tc (.slice A4 T4.ents.length c4) T4.at') rfl rfl 41 _ (Box.new w4 _ _) info_trl rfl (tc_one _ _ _ _) ?_; intro x4 hx4 hu4 hz4; have HZ4 := Lib.hid hz4; clear hz4)
    have hs4 : Below w4.heap.size w4 x4 := ((Below.refl _ w4).alloc (Nat.le_refl _) _).trans (hu4.own (Nat.le_refl _) (by simp))
    replace HU := Lib.hid (HU.out.trans ((hs4).mono HU.out.size))
    replace BX0 := Lib.hid (BX0.out.below (hs4) BX0.out.lt)
    replace RD0 := Lib.hid (RD0.out.below (hs4))
    replace RD1 := Lib.hid (RD1.out.below (hs4))
    replace BXL := Lib.hid (BXL.out.below (hs4) BXL.out.lt)
    replace RD3 := Lib.hid (RD3.out.below (hs4))
    replace BX3 := Lib.hid (BX3.out.below (hs4) BX3.out.lt)
    replace RD4 := Lib.hid (RD4.out.below (hs4))
    have BX4 := Lib.hid hx4
    clear hs4 hu4 hx4
    have HQ4 : Hid (Traily.Right T4) := Lib.hid (by rw [HE4.out]; exact HR2.out)
    have hxx : Traily.here T4 = Traily.here t := by rw [HE4.out]; exact HH2.out
    have hle4 : T4.ents.length ≤ 50 := by rw [HE4.out]; exact HL2.out
    obtain ⟨k4, hk4⟩ : ∃ k : Nat, T4.at' = k := ⟨T4.at'.toNat, by have := HQ4.out.lo; omega⟩
    have hlt4 : k4 < T4.ents.length := by have := HQ4.out.hi; omega
    have hltz4 : (k4 : Int) < (T4.ents.length : Int) := by omega
    have hat4 : T4.ents[k4]? = some (Traily.here T4) := by have h := (Traily.here_mem HQ4.out).2; rw [hk4] at h; exact h
    obtain ⟨X, cx, e1, h1, h2, h3⟩ := RD4.out
    injection e1 with e1 _ e2
    subst e1 e2
    obtain ⟨g4, o4, rfl, hg4, hr4⟩ := h3 (by omega)
    have hrow4 := RdL.elem (k := 3) (f := ec) (fun _ => rfl) hr4 hat4
    have a4 := BX4.out.cell 0
    have b4_ := BX4.out.cell 1
    rw [hk4] at b4_
    simp [tc] at a4 b4_
    clear h1 h2 h3
    obtain ⟨k0, hk0⟩ : ∃ k : Nat, t.at' = k := ⟨t.at'.toNat, by have := HQ0.out.lo; omega⟩
    have hlt0 : k0 < t.ents.length := by have := HQ0.out.hi; omega
    have hltz0 : (k0 : Int) < (t.ents.length : Int) := by omega
    have hat0 : t.ents[k0]? = some (Traily.here t) := by have h := (Traily.here_mem HQ0.out).2; rw [hk0] at h; exact h
    obtain ⟨X0, c0, e1, h1, h2, h3⟩ := RD0.out
    have hv2 := e1
    obtain ⟨g0, o0, rfl, hg0, hr0⟩ := h3 (by omega)
    have hrow0 := RdL.elem (k := 3) (f := ec) (fun _ => rfl) hr0 hat0
    have a0 := BX0.out.cell 0
    have b0_ := BX0.out.cell 1
    rw [hk0] at b0_
    simp [tc] at a0 b0_
    rw [hv2] at a0
    clear h1 h2 h3
    obtain ⟨n4, hn4⟩ : ∃ n, T4.ents.length = n := ⟨_, rfl⟩
    obtain ⟨n0, hn0⟩ : ∃ n, t.ents.length = n := ⟨_, rfl⟩
    rw [hn4] at a4 hltz4 hlt4 hle4
    rw [hn0] at a0 hltz0 hlt0
    rw [hxx] at hrow4
    have f1 : decide ((n4 : Int) ≤ 50) = true := decide_eq_true (by omega)
    have f2 : (n4 : Int) ≤ 50 := by omega
    have f3 : decide (n4 ≤ 50) = true := decide_eq_true hle4
    obtain ⟨XX, hXX⟩ : ∃ x, Traily.here t = x := ⟨_, rfl⟩
    rw [hXX] at hrow0 hrow4
    have hqq : ∀ w, (binOp .eql 48 (.agg (ec XX)) (.agg (ec XX))).run Tryz.prog w = .ok (.bool true) w := fun w => by rw [eql_ent, decide_eq_true rfl]
    obtain ⟨wq, hwq⟩ : ∃ wq, x4 = wq := ⟨_, rfl⟩
    rw [hwq] at a4 b4_ a0 b0_ hrow0 hrow4 HU
    rw [hwq]
    have HW0 := Lib.hid hrow0
    have HW4 := Lib.hid hrow4
    clear hrow0 hrow4 hr0 hr4 hat0 hat4 hk0 hk4 hxx hXX hn4 hn0 hwq hv2 e1 hg0 hg4 RD0 RD1 RD3 RD4 BX0 BXL BX3 BX4
    refine wp_region_held_drew (S := fun w' => Below w.heap.size w w' ∧ w'.cell? ⟨w4.heap.size, 0, none⟩ = some (.slice (some ⟨g4, o4, none⟩) n4 c4) ∧ w'.cell? ⟨w4.heap.size, 1, none⟩ = some (.int .i64 (k4 : Int)) ∧ w'.cell? ⟨w.heap.size, 0, none⟩ = some (.slice (some ⟨g0, o0, none⟩) n0 c0) ∧ w'.cell? ⟨w.heap.size, 1, none⟩ = some (.int .i64 (k0 : Int)) ∧ w'.rangeAt g4 (o4 + k4 * 3) (ec XX).toList ∧ w'.rangeAt g0 (o0 + k0 * 3) (ec XX).toList) (by kernel_rfl) ⟨HU.out.drew, a4, b4_, a0, b0_, HW4.out, HW0.out⟩ (fun hHeld => ?_)
    refine wpAnyH_take (i := 0) (v := ?_) rfl (by kernel_rfl) (by kernel_rfl) (by kernel_rfl) (fun _ _ _ h => h) (Or.inl ⟨by kernel_rfl, ?_⟩) (by assumption) ?_
    rotate_left
    · intro w hSw
      obtain ⟨s1, s2, s3, s4, s5, s6, s7⟩ := hSw
      go_simp
      try (with_reducible rfl)
    (try simp only [Act.put, List.getElem_toArray, List.getElem_cons_zero, List.setIfInBounds_toArray, List.set_cons_zero, List.set_cons_succ])
    refine wpAnyH_take (i := 1) (v := ?_) rfl (by kernel_rfl) (by kernel_rfl) (by kernel_rfl) (fun _ _ _ h => h) (Or.inl ⟨by kernel_rfl, ?_⟩) (by assumption) ?_
    rotate_left
    · intro w hSw
      obtain ⟨s1, s2, s3, s4, s5, s6, s7⟩ := hSw
      go_simp
      try (with_reducible rfl)
    (try simp only [Act.put, List.getElem_toArray, List.getElem_cons_succ, List.getElem_cons_zero, List.setIfInBounds_toArray, List.set_cons_zero, List.set_cons_succ])
    refine wpAnyH_take (i := 2) (v := ?_) rfl (by kernel_rfl) (by kernel_rfl) (by kernel_rfl) (fun _ _ _ h => h) (Or.inl ⟨by kernel_rfl, ?_⟩) (by assumption) ?_
    rotate_left
    · intro w hSw
      obtain ⟨s1, s2, s3, s4, s5, s6, s7⟩ := hSw
      go_simp
      try (with_reducible rfl)
    (try simp only [Act.put, List.getElem_toArray, List.getElem_cons_succ, List.getElem_cons_zero, List.setIfInBounds_toArray, List.set_cons_zero, List.set_cons_succ])
    refine wpAnyH_take (i := 3) (v := ?_) rfl (by kernel_rfl) (by kernel_rfl) (by kernel_rfl) (fun _ _ _ h => h) (Or.inl ⟨by kernel_rfl, ?_⟩) (by assumption) ?_
    rotate_left
    · intro w hSw
      obtain ⟨s1, s2, s3, s4, s5, s6, s7⟩ := hSw
      go_simp
      try (with_reducible rfl)
    (try simp only [Act.put, List.getElem_toArray, List.getElem_cons_succ, List.getElem_cons_zero, List.setIfInBounds_toArray, List.set_cons_zero, List.set_cons_succ])
    refine wpAnyH_take (i := 4) (v := ?_) rfl (by kernel_rfl) (by kernel_rfl) (by kernel_rfl) (fun _ _ _ h => h) (Or.inl ⟨by kernel_rfl, ?_⟩) (by assumption) ?_
    rotate_left
    · intro w hSw
      obtain ⟨s1, s2, s3, s4, s5, s6, s7⟩ := hSw
      go_simp
      try (with_reducible rfl)
    (try simp only [Act.put, List.getElem_toArray, List.getElem_cons_succ, List.getElem_cons_zero, List.setIfInBounds_toArray, List.set_cons_zero, List.set_cons_succ])
    refine wpAnyH_take (i := 5) (v := ?_) rfl (by kernel_rfl) (by kernel_rfl) (by kernel_rfl) (fun _ _ _ h => h) (Or.inl ⟨by kernel_rfl, ?_⟩) (by assumption) ?_
    rotate_left
    · intro w hSw
      obtain ⟨s1, s2, s3, s4, s5, s6, s7⟩ := hSw
      go_simp
      try (with_reducible rfl)
    (try simp only [Act.put, List.getElem_toArray, List.getElem_cons_succ, List.getElem_cons_zero, List.setIfInBounds_toArray, List.set_cons_zero, List.set_cons_succ])
    refine wpAnyH_take (i := 6) (v := ?_) rfl (by kernel_rfl) (by kernel_rfl) (by kernel_rfl) (fun _ _ _ h => h) (Or.inl ⟨by kernel_rfl, ?_⟩) (by assumption) ?_
    rotate_left
    · intro w hSw
      obtain ⟨s1, s2, s3, s4, s5, s6, s7⟩ := hSw
      go_simp
      try (with_reducible rfl)
    (try simp only [Act.put, List.getElem_toArray, List.getElem_cons_succ, List.getElem_cons_zero, List.setIfInBounds_toArray, List.set_cons_zero, List.set_cons_succ])
    refine wpAnyH_take (i := 7) (v := ?_) rfl (by kernel_rfl) (by kernel_rfl) (by kernel_rfl) (fun _ _ _ h => h) (Or.inl ⟨by kernel_rfl, ?_⟩) (by assumption) ?_
    rotate_left
    · intro w hSw
      obtain ⟨s1, s2, s3, s4, s5, s6, s7⟩ := hSw
      go_simp
      try (with_reducible rfl)
    (try simp only [Act.put, List.getElem_toArray, List.getElem_cons_succ, List.getElem_cons_zero, List.setIfInBounds_toArray, List.set_cons_zero, List.set_cons_succ])
    refine wpAnyH_take (i := 8) (v := ?_) rfl (by kernel_rfl) (by kernel_rfl) (by kernel_rfl) (fun _ _ _ h => h) (Or.inl ⟨by kernel_rfl, ?_⟩) (by assumption) ?_
    rotate_left
    · intro w hSw
      obtain ⟨s1, s2, s3, s4, s5, s6, s7⟩ := hSw
      go_simp
      try (with_reducible rfl)
    (try simp only [Act.put, List.getElem_toArray, List.getElem_cons_succ, List.getElem_cons_zero, List.setIfInBounds_toArray, List.set_cons_zero, List.set_cons_succ])
    refine wpAnyH_take (i := 9) (v := ?_) rfl (by kernel_rfl) (by kernel_rfl) (by kernel_rfl) (fun _ _ _ h => h) (Or.inl ⟨by kernel_rfl, ?_⟩) (by assumption) ?_
    rotate_left
    · intro w hSw
      obtain ⟨s1, s2, s3, s4, s5, s6, s7⟩ := hSw
      go_simp
      try (with_reducible rfl)
    (try simp only [Act.put, List.getElem_toArray, List.getElem_cons_succ, List.getElem_cons_zero, List.setIfInBounds_toArray, List.set_cons_zero, List.set_cons_succ])
    refine wpAnyH_take (i := 10) (v := ?_) rfl (by kernel_rfl) (by kernel_rfl) (by kernel_rfl) (fun _ _ _ h => h) (Or.inl ⟨by kernel_rfl, ?_⟩) (by assumption) ?_
    rotate_left
    · intro w hSw
      obtain ⟨s1, s2, s3, s4, s5, s6, s7⟩ := hSw
      go_simp
      try (with_reducible rfl)
    (try simp only [Act.put, List.getElem_toArray, List.getElem_cons_succ, List.getElem_cons_zero, List.setIfInBounds_toArray, List.set_cons_zero, List.set_cons_succ])
    refine wpAnyH_take (i := 11) (v := ?_) rfl (by kernel_rfl) (by kernel_rfl) (by kernel_rfl) (fun _ _ _ h => h) (Or.inl ⟨by kernel_rfl, ?_⟩) (by assumption) ?_
    rotate_left
    · intro w hSw
      obtain ⟨s1, s2, s3, s4, s5, s6, s7⟩ := hSw
      go_simp
      try (with_reducible rfl)
    (try simp only [Act.put, List.getElem_toArray, List.getElem_cons_succ, List.getElem_cons_zero, List.setIfInBounds_toArray, List.set_cons_zero, List.set_cons_succ])
    refine wpAnyH_take (i := 12) (v := ?_) rfl (by kernel_rfl) (by kernel_rfl) (by kernel_rfl) (fun _ _ _ h => h) (Or.inl ⟨by kernel_rfl, ?_⟩) (by assumption) ?_
    rotate_left
    · intro w hSw
      obtain ⟨s1, s2, s3, s4, s5, s6, s7⟩ := hSw
      go_simp
      try (with_reducible rfl)
    (try simp only [Act.put, List.getElem_toArray, List.getElem_cons_succ, List.getElem_cons_zero, List.setIfInBounds_toArray, List.set_cons_zero, List.set_cons_succ])
    refine wpAnyH_take (i := 13) (v := .pointer (some ⟨g4, o4 + k4 * 3, none⟩)) rfl (by kernel_rfl) (by kernel_rfl) (by kernel_rfl) (fun _ _ _ h => h) (Or.inl ⟨by kernel_rfl, ?_⟩) (by assumption) ?_
    · intro w hSw
      obtain ⟨s1, s2, s3, s4, s5, s6, s7⟩ := hSw
      go_simp
    (try simp only [Act.put, List.getElem_toArray, List.getElem_cons_succ, List.getElem_cons_zero, List.setIfInBounds_toArray, List.set_cons_zero, List.set_cons_succ])
    refine wpAnyH_take (i := 14) (v := _) rfl (by kernel_rfl) (by kernel_rfl) (by kernel_rfl) (fun _ _ _ h => h) (yieldsIf_load_mid (by kernel_rfl) 48 (.tmp 71) rfl (g4) (o4 + k4 * 3) rfl ((ec XX).toList) _ (fun _ h => h.2.2.2.2.2.1) Tryz.underlying48 rfl info_ent) (by assumption) ?_
    (try simp only [Act.put, List.getElem_toArray, List.getElem_cons_succ, List.getElem_cons_zero, List.setIfInBounds_toArray, List.set_cons_zero, List.set_cons_succ])
    refine wpAnyH_take (i := 15) (v := ?_) rfl (by kernel_rfl) (by kernel_rfl) (by kernel_rfl) (fun _ _ _ h => h) (Or.inl ⟨by kernel_rfl, ?_⟩) (by assumption) ?_
    rotate_left
    · intro w hSw
      obtain ⟨s1, s2, s3, s4, s5, s6, s7⟩ := hSw
      go_simp
      try (with_reducible rfl)
    (try simp only [Act.put, List.getElem_toArray, List.getElem_cons_succ, List.getElem_cons_zero, List.setIfInBounds_toArray, List.set_cons_zero, List.set_cons_succ])
    refine wpAnyH_take (i := 16) (v := ?_) rfl (by kernel_rfl) (by kernel_rfl) (by kernel_rfl) (fun _ _ _ h => h) (Or.inl ⟨by kernel_rfl, ?_⟩) (by assumption) ?_
    rotate_left
    · intro w hSw
      obtain ⟨s1, s2, s3, s4, s5, s6, s7⟩ := hSw
      go_simp
      try (with_reducible rfl)
    (try simp only [Act.put, List.getElem_toArray, List.getElem_cons_succ, List.getElem_cons_zero, List.setIfInBounds_toArray, List.set_cons_zero, List.set_cons_succ])
    refine wpAnyH_take (i := 17) (v := ?_) rfl (by kernel_rfl) (by kernel_rfl) (by kernel_rfl) (fun _ _ _ h => h) (Or.inl ⟨by kernel_rfl, ?_⟩) (by assumption) ?_
    rotate_left
    · intro w hSw
      obtain ⟨s1, s2, s3, s4, s5, s6, s7⟩ := hSw
      go_simp
      try (with_reducible rfl)
    (try simp only [Act.put, List.getElem_toArray, List.getElem_cons_succ, List.getElem_cons_zero, List.setIfInBounds_toArray, List.set_cons_zero, List.set_cons_succ])
    refine wpAnyH_take (i := 18) (v := ?_) rfl (by kernel_rfl) (by kernel_rfl) (by kernel_rfl) (fun _ _ _ h => h) (Or.inl ⟨by kernel_rfl, ?_⟩) (by assumption) ?_
    rotate_left
    · intro w hSw
      obtain ⟨s1, s2, s3, s4, s5, s6, s7⟩ := hSw
      go_simp
      try (with_reducible rfl)
    (try simp only [Act.put, List.getElem_toArray, List.getElem_cons_succ, List.getElem_cons_zero, List.setIfInBounds_toArray, List.set_cons_zero, List.set_cons_succ])
    refine wpAnyH_take (i := 19) (v := .pointer (some ⟨g0, o0 + k0 * 3, none⟩)) rfl (by kernel_rfl) (by kernel_rfl) (by kernel_rfl) (fun _ _ _ h => h) (Or.inl ⟨by kernel_rfl, ?_⟩) (by assumption) ?_
    · intro w hSw
      obtain ⟨s1, s2, s3, s4, s5, s6, s7⟩ := hSw
      go_simp
    (try simp only [Act.put, List.getElem_toArray, List.getElem_cons_succ, List.getElem_cons_zero, List.setIfInBounds_toArray, List.set_cons_zero, List.set_cons_succ])
    refine wpAnyH_take (i := 20) (v := _) rfl (by kernel_rfl) (by kernel_rfl) (by kernel_rfl) (fun _ _ _ h => h) (yieldsIf_load_mid (by kernel_rfl) 48 (.tmp 77) rfl (g0) (o0 + k0 * 3) rfl ((ec XX).toList) _ (fun _ h => h.2.2.2.2.2.2) Tryz.underlying48 rfl info_ent) (by assumption) ?_
    (try simp only [Act.put, List.getElem_toArray, List.getElem_cons_succ, List.getElem_cons_zero, List.setIfInBounds_toArray, List.set_cons_zero, List.set_cons_succ])
    refine wpAnyH_take (i := 21) (v := ?_) rfl (by kernel_rfl) (by kernel_rfl) (by kernel_rfl) (fun _ _ _ h => h) (Or.inl ⟨by kernel_rfl, ?_⟩) (by assumption) ?_
    rotate_left
    · intro w hSw
      obtain ⟨s1, s2, s3, s4, s5, s6, s7⟩ := hSw
      go_simp
      try (with_reducible rfl)
    (try simp only [Act.put, List.getElem_toArray, List.getElem_cons_succ, List.getElem_cons_zero, List.setIfInBounds_toArray, List.set_cons_zero, List.set_cons_succ])
    refine wpAnyH_take (i := 22) (v := ?_) rfl (by kernel_rfl) (by kernel_rfl) (by kernel_rfl) (fun _ _ _ h => h) (Or.inl ⟨by kernel_rfl, ?_⟩) (by assumption) ?_
    rotate_left
    · intro w hSw
      obtain ⟨s1, s2, s3, s4, s5, s6, s7⟩ := hSw
      go_simp
      try (with_reducible rfl)
    (try simp only [Act.put, List.getElem_toArray, List.getElem_cons_succ, List.getElem_cons_zero, List.setIfInBounds_toArray, List.set_cons_zero, List.set_cons_succ])
    refine wpAnyH_take (i := 23) (v := ?_) rfl (by kernel_rfl) (by kernel_rfl) (by kernel_rfl) (fun _ _ _ h => h) (Or.inl ⟨by kernel_rfl, ?_⟩) (by assumption) ?_
    rotate_left
    · intro w hSw
      obtain ⟨s1, s2, s3, s4, s5, s6, s7⟩ := hSw
      go_simp
      try (with_reducible rfl)
    (try simp only [Act.put, List.getElem_toArray, List.getElem_cons_succ, List.getElem_cons_zero, List.setIfInBounds_toArray, List.set_cons_zero, List.set_cons_succ])
    refine wpAnyH_done (by kernel_rfl) ?_ _
    go_wp2
    go_ret
    exact ⟨rfl, HU.out.drew⟩
  | true =>
    have bx := BX0.out
    go_wp2_with (refine wpList_load_row rfl 41 (.tmp 4) rfl (w.heap.size) rfl _ (tc v t.at') (0, 0) _ bx Tryz.underlying41 rfl info_trl ?_)
    refine (HP2.out _ HU.out).mono ?_
    rintro e w2 ⟨T2, A2, c2, m2, rfl, hT2, hrd2, hb2, hge2⟩
    have hz1x := BX1.out.lt
    have hzbx := BX0.out.lt
    replace HU := Lib.hid (HU.out.trans ((hb2).mono HU.out.size))
    replace BX0 := Lib.hid (BX0.out.below (hb2) BX0.out.lt)
    replace RD0 := Lib.hid (RD0.out.below (hb2))
    replace RD1 := Lib.hid (RD1.out.below (hb2))
    replace BX1 := Lib.hid (BX1.out.below (hb2) BX1.out.lt)
    have RD2 := Lib.hid hrd2
    clear hb2 hrd2 bx
    go_upto_region 4 with (refine wpList_store_box rfl 41 (.tmp 9) (.tmp 29) rfl w1.heap.size (tc (.slice A2 T2.ents.length c2) T2.at') rfl rfl 41 _ BX1.out info_trl rfl (tc_one _ _ _ _) ?_; intro x2 hx2 hu2 hz2; have HZ2 := Lib.hid hz2; clear hz2)
    have BXL := Lib.hid hx2
    replace BX0 := Lib.hid (Box.grown BX0.out hu2 (by intro h; injection h with h; omega))
    replace HU := Lib.hid (HU.out.trans (hu2.own (by omega) HU.out.size))
    replace RD0 := Lib.hid (HV2.out.below HU.out)
    replace RD2 : Hid (TrRd x2 T2 (.slice A2 T2.ents.length c2)) := Lib.hid (rd_up RD2.out hu2 (by intro h; have := hge2 _ h; omega))
    clear hx2 hu2 BX1 RD1 hge2 hT1
    go_wp2_with (fail)
    refine (HLV.out _ HU.out).mono ?_
    rintro e y0 ⟨rfl, hlv⟩
    replace HU := Lib.hid (HU.out.trans ((hlv).mono HU.out.size))
    replace BX0 := Lib.hid (BX0.out.below (hlv) BX0.out.lt)
    replace RD0 := Lib.hid (RD0.out.below (hlv))
    replace RD2 := Lib.hid (RD2.out.below (hlv))
    replace BXL := Lib.hid (BXL.out.below (hlv) BXL.out.lt)
    clear hlv
    rcases hT2 with ⟨rfl, hr1⟩ | ⟨hm1, _, hE1⟩
    rotate_left
    · have g1 : (m2 != 0) = true := by rw [bne_iff_ne]; exact hm1
      have G1 := Lib.hid hm1
      clear hm1
      go_wp2_with (fail)
      refine (HLV.out _ HU.out).mono ?_
      rintro e y1 ⟨rfl, hlv⟩
      replace HU := Lib.hid (HU.out.trans ((hlv).mono HU.out.size))
      replace BX0 := Lib.hid (BX0.out.below (hlv) BX0.out.lt)
      replace RD0 := Lib.hid (RD0.out.below (hlv))
      replace RD2 := Lib.hid (RD2.out.below (hlv))
      replace BXL := Lib.hid (BXL.out.below (hlv) BXL.out.lt)
      clear hlv
      have a1 := BXL.out.cell 0
      have hl1 : T2.ents.length = 0 := by rw [hE1]; rfl
      simp [tc] at a1
      rw [hl1] at a1
      clear hE1 hl1
      go_wp2
      go_ret
      exact ⟨rfl, HU.out⟩
    obtain ⟨hR, hRl, hg1, bb, cc, hg2, hl2, hh2, hR2⟩ := cuts_push hr1
    have HG1 := Lib.hid hg1
    have HG2 := Lib.hid hg2
    have HL2 := Lib.hid hl2
    have HH2 := Lib.hid hh2
    have HR2 := Lib.hid hR2
    have HQ0 := Lib.hid hR
    clear hr1 hg1 hg2 hl2 hh2 hR2 hR hRl
    have bxl := BXL.out
    go_wp2_with (refine wpList_load_row rfl 41 (.tmp 9) rfl (w1.heap.size) rfl _ (tc (.slice A2 T2.ents.length c2) T2.at') (0, 0) _ bxl Tryz.underlying41 rfl info_trl ?_)
    refine (HG.out T2 _ 1 _ (by decide) (by decide) HU.out RD2.out).mono ?_
    rintro e w3 ⟨T3, A3, c3, b3, m3, rfl, hT3, hrd3, hb3⟩
    replace HU := Lib.hid (HU.out.trans ((hb3).mono HU.out.size))
    replace BX0 := Lib.hid (BX0.out.below (hb3) BX0.out.lt)
    replace RD0 := Lib.hid (RD0.out.below (hb3))
    replace RD2 := Lib.hid (RD2.out.below (hb3))
    replace BXL := Lib.hid (BXL.out.below (hb3) BXL.out.lt)
    have RD3 := Lib.hid hrd3
    clear hb3 hrd3
    obtain rfl : m3 = 5 := by rcases hT3 with ⟨_, h⟩ | ⟨_, ⟨n, h, h2⟩, _⟩; rw [HG1.out] at h; cases h; rw [HG1.out] at h; injection h with h; omega
    clear hT3 bxl
    go_upto_region 7 with (refine wpList_store_box rfl 41 (.tmp 11) (.tmp 47) rfl w3.heap.size (tc (.slice A3 T3.ents.length c3) T3.at') rfl rfl 41 _ (Box.new w3 _ _) info_trl rfl (tc_one _ _ _ _) ?_; intro x3 hx3 hu3 hz3; have HZ3 := Lib.hid hz3; clear hz3)
    have hs3 : Below w3.heap.size w3 x3 := ((Below.refl _ w3).alloc (Nat.le_refl _) _).trans (hu3.own (Nat.le_refl _) (by simp))
    replace HU := Lib.hid (HU.out.trans ((hs3).mono HU.out.size))
    replace BX0 := Lib.hid (BX0.out.below (hs3) BX0.out.lt)
    replace RD0 := Lib.hid (RD0.out.below (hs3))
    replace RD2 := Lib.hid (RD2.out.below (hs3))
    replace BXL := Lib.hid (BXL.out.below (hs3) BXL.out.lt)
    replace RD3 := Lib.hid (RD3.out.below (hs3))
    have BX3 := Lib.hid hx3
    clear hs3 hu3 hx3
    have bxl := BXL.out
    go_wp2_with (refine wpList_load_row rfl 41 (.tmp 9) rfl (w1.heap.size) rfl _ (tc (.slice A2 T2.ents.length c2) T2.at') (0, 0) _ bxl Tryz.underlying41 rfl info_trl ?_)
    refine (HG.out T2 _ (-1) _ (by decide) (by decide) HU.out RD2.out).mono ?_
    rintro e w4 ⟨T4, A4, c4, b4, m4, rfl, hT4, hrd4, hb4⟩
    replace HU := Lib.hid (HU.out.trans ((hb4).mono HU.out.size))
    replace BX0 := Lib.hid (BX0.out.below (hb4) BX0.out.lt)
    replace RD0 := Lib.hid (RD0.out.below (hb4))
    replace RD2 := Lib.hid (RD2.out.below (hb4))
    replace BXL := Lib.hid (BXL.out.below (hb4) BXL.out.lt)
    replace RD3 := Lib.hid (RD3.out.below (hb4))
    replace BX3 := Lib.hid (BX3.out.below (hb4) BX3.out.lt)
    have RD4 := Lib.hid hrd4
    clear hb4 hrd4
    obtain ⟨rfl, hE4, _⟩ := gok HG2.out hT4
    have HE4 := Lib.hid hE4
    clear hT4 hE4 HG2 bxl
    go_upto_region 10 with (refine wpList_store_box rfl 41 (.tmp 14) (.tmp 55) rfl w4.heap.size (tc (.slice A4 T4.ents.length c4) T4.at') rfl rfl 41 _ (Box.new w4 _ _) info_trl rfl (tc_one _ _ _ _) ?_; intro x4 hx4 hu4 hz4; have HZ4 := Lib.hid hz4; clear hz4)
    have hs4 : Below w4.heap.size w4 x4 := ((Below.refl _ w4).alloc (Nat.le_refl _) _).trans (hu4.own (Nat.le_refl _) (by simp))
    replace HU := Lib.hid (HU.out.trans ((hs4).mono HU.out.size))
    replace BX0 := Lib.hid (BX0.out.below (hs4) BX0.out.lt)
    replace RD0 := Lib.hid (RD0.out.below (hs4))
    replace RD2 := Lib.hid (RD2.out.below (hs4))
    replace BXL := Lib.hid (BXL.out.below (hs4) BXL.out.lt)
    replace RD3 := Lib.hid (RD3.out.below (hs4))
    replace BX3 := Lib.hid (BX3.out.below (hs4) BX3.out.lt)
    replace RD4 := Lib.hid (RD4.out.below (hs4))
    have BX4 := Lib.hid hx4
    clear hs4 hu4 hx4
    have HQ4 : Hid (Traily.Right T4) := Lib.hid (by rw [HE4.out]; exact HR2.out)
    have hxx : Traily.here T4 = Traily.here t := by rw [HE4.out]; exact HH2.out
    have hle4 : T4.ents.length ≤ 50 := by rw [HE4.out]; exact HL2.out
    obtain ⟨k4, hk4⟩ : ∃ k : Nat, T4.at' = k := ⟨T4.at'.toNat, by have := HQ4.out.lo; omega⟩
    have hlt4 : k4 < T4.ents.length := by have := HQ4.out.hi; omega
    have hltz4 : (k4 : Int) < (T4.ents.length : Int) := by omega
    have hat4 : T4.ents[k4]? = some (Traily.here T4) := by have h := (Traily.here_mem HQ4.out).2; rw [hk4] at h; exact h
    obtain ⟨X, cx, e1, h1, h2, h3⟩ := RD4.out
    injection e1 with e1 _ e2
    subst e1 e2
    obtain ⟨g4, o4, rfl, hg4, hr4⟩ := h3 (by omega)
    have hrow4 := RdL.elem (k := 3) (f := ec) (fun _ => rfl) hr4 hat4
    have a4 := BX4.out.cell 0
    have b4_ := BX4.out.cell 1
    rw [hk4] at b4_
    simp [tc] at a4 b4_
    clear h1 h2 h3
    obtain ⟨k0, hk0⟩ : ∃ k : Nat, t.at' = k := ⟨t.at'.toNat, by have := HQ0.out.lo; omega⟩
    have hlt0 : k0 < t.ents.length := by have := HQ0.out.hi; omega
    have hltz0 : (k0 : Int) < (t.ents.length : Int) := by omega
    have hat0 : t.ents[k0]? = some (Traily.here t) := by have h := (Traily.here_mem HQ0.out).2; rw [hk0] at h; exact h
    obtain ⟨X0, c0, e1, h1, h2, h3⟩ := RD0.out
    have hv2 := e1
    obtain ⟨g0, o0, rfl, hg0, hr0⟩ := h3 (by omega)
    have hrow0 := RdL.elem (k := 3) (f := ec) (fun _ => rfl) hr0 hat0
    have a0 := BX0.out.cell 0
    have b0_ := BX0.out.cell 1
    rw [hk0] at b0_
    simp [tc] at a0 b0_
    rw [hv2] at a0
    clear h1 h2 h3
    obtain ⟨n4, hn4⟩ : ∃ n, T4.ents.length = n := ⟨_, rfl⟩
    obtain ⟨n0, hn0⟩ : ∃ n, t.ents.length = n := ⟨_, rfl⟩
    rw [hn4] at a4 hltz4 hlt4 hle4
    rw [hn0] at a0 hltz0 hlt0
    rw [hxx] at hrow4
    have f1 : decide ((n4 : Int) ≤ 50) = true := decide_eq_true (by omega)
    have f2 : (n4 : Int) ≤ 50 := by omega
    have f3 : decide (n4 ≤ 50) = true := decide_eq_true hle4
    obtain ⟨XX, hXX⟩ : ∃ x, Traily.here t = x := ⟨_, rfl⟩
    rw [hXX] at hrow0 hrow4
    have hqq : ∀ w, (binOp .eql 48 (.agg (ec XX)) (.agg (ec XX))).run Tryz.prog w = .ok (.bool true) w := fun w => by rw [eql_ent, decide_eq_true rfl]
    obtain ⟨wq, hwq⟩ : ∃ wq, x4 = wq := ⟨_, rfl⟩
    rw [hwq] at a4 b4_ a0 b0_ hrow0 hrow4 HU
    rw [hwq]
    have HW0 := Lib.hid hrow0
    have HW4 := Lib.hid hrow4
    clear hrow0 hrow4 hr0 hr4 hat0 hat4 hk0 hk4 hxx hXX hn4 hn0 hwq hv2 e1 hg0 hg4 RD0 RD2 RD3 RD4 BX0 BXL BX3 BX4
    refine wp_region_held_drew (S := fun w' => Below w.heap.size w w' ∧ w'.cell? ⟨w4.heap.size, 0, none⟩ = some (.slice (some ⟨g4, o4, none⟩) n4 c4) ∧ w'.cell? ⟨w4.heap.size, 1, none⟩ = some (.int .i64 (k4 : Int)) ∧ w'.cell? ⟨w.heap.size, 0, none⟩ = some (.slice (some ⟨g0, o0, none⟩) n0 c0) ∧ w'.cell? ⟨w.heap.size, 1, none⟩ = some (.int .i64 (k0 : Int)) ∧ w'.rangeAt g4 (o4 + k4 * 3) (ec XX).toList ∧ w'.rangeAt g0 (o0 + k0 * 3) (ec XX).toList) (by kernel_rfl) ⟨HU.out.drew, a4, b4_, a0, b0_, HW4.out, HW0.out⟩ (fun hHeld => ?_)
    refine wpAnyH_take (i := 0) (v := ?_) rfl (by kernel_rfl) (by kernel_rfl) (by kernel_rfl) (fun _ _ _ h => h) (Or.inl ⟨by kernel_rfl, ?_⟩) (by assumption) ?_
    rotate_left
    · intro w hSw
      obtain ⟨s1, s2, s3, s4, s5, s6, s7⟩ := hSw
      go_simp
      try (with_reducible rfl)
    (try simp only [Act.put, List.getElem_toArray, List.getElem_cons_zero, List.setIfInBounds_toArray, List.set_cons_zero, List.set_cons_succ])
    refine wpAnyH_take (i := 1) (v := ?_) rfl (by kernel_rfl) (by kernel_rfl) (by kernel_rfl) (fun _ _ _ h => h) (Or.inl ⟨by kernel_rfl, ?_⟩) (by assumption) ?_
    rotate_left
    · intro w hSw
      obtain ⟨s1, s2, s3, s4, s5, s6, s7⟩ := hSw
      go_simp
      try (with_reducible rfl)
    (try simp only [Act.put, List.getElem_toArray, List.getElem_cons_succ, List.getElem_cons_zero, List.setIfInBounds_toArray, List.set_cons_zero, List.set_cons_succ])
    refine wpAnyH_take (i := 2) (v := ?_) rfl (by kernel_rfl) (by kernel_rfl) (by kernel_rfl) (fun _ _ _ h => h) (Or.inl ⟨by kernel_rfl, ?_⟩) (by assumption) ?_
    rotate_left
    · intro w hSw
      obtain ⟨s1, s2, s3, s4, s5, s6, s7⟩ := hSw
      go_simp
      try (with_reducible rfl)
    (try simp only [Act.put, List.getElem_toArray, List.getElem_cons_succ, List.getElem_cons_zero, List.setIfInBounds_toArray, List.set_cons_zero, List.set_cons_succ])
    refine wpAnyH_take (i := 3) (v := ?_) rfl (by kernel_rfl) (by kernel_rfl) (by kernel_rfl) (fun _ _ _ h => h) (Or.inl ⟨by kernel_rfl, ?_⟩) (by assumption) ?_
    rotate_left
    · intro w hSw
      obtain ⟨s1, s2, s3, s4, s5, s6, s7⟩ := hSw
      go_simp
      try (with_reducible rfl)
    (try simp only [Act.put, List.getElem_toArray, List.getElem_cons_succ, List.getElem_cons_zero, List.setIfInBounds_toArray, List.set_cons_zero, List.set_cons_succ])
    refine wpAnyH_take (i := 4) (v := ?_) rfl (by kernel_rfl) (by kernel_rfl) (by kernel_rfl) (fun _ _ _ h => h) (Or.inl ⟨by kernel_rfl, ?_⟩) (by assumption) ?_
    rotate_left
    · intro w hSw
      obtain ⟨s1, s2, s3, s4, s5, s6, s7⟩ := hSw
      go_simp
      try (with_reducible rfl)
    (try simp only [Act.put, List.getElem_toArray, List.getElem_cons_succ, List.getElem_cons_zero, List.setIfInBounds_toArray, List.set_cons_zero, List.set_cons_succ])
    refine wpAnyH_take (i := 5) (v := ?_) rfl (by kernel_rfl) (by kernel_rfl) (by kernel_rfl) (fun _ _ _ h => h) (Or.inl ⟨by kernel_rfl, ?_⟩) (by assumption) ?_
    rotate_left
    · intro w hSw
      obtain ⟨s1, s2, s3, s4, s5, s6, s7⟩ := hSw
      go_simp
      try (with_reducible rfl)
    (try simp only [Act.put, List.getElem_toArray, List.getElem_cons_succ, List.getElem_cons_zero, List.setIfInBounds_toArray, List.set_cons_zero, List.set_cons_succ])
    refine wpAnyH_take (i := 6) (v := ?_) rfl (by kernel_rfl) (by kernel_rfl) (by kernel_rfl) (fun _ _ _ h => h) (Or.inl ⟨by kernel_rfl, ?_⟩) (by assumption) ?_
    rotate_left
    · intro w hSw
      obtain ⟨s1, s2, s3, s4, s5, s6, s7⟩ := hSw
      go_simp
      try (with_reducible rfl)
    (try simp only [Act.put, List.getElem_toArray, List.getElem_cons_succ, List.getElem_cons_zero, List.setIfInBounds_toArray, List.set_cons_zero, List.set_cons_succ])
    refine wpAnyH_take (i := 7) (v := ?_) rfl (by kernel_rfl) (by kernel_rfl) (by kernel_rfl) (fun _ _ _ h => h) (Or.inl ⟨by kernel_rfl, ?_⟩) (by assumption) ?_
    rotate_left
    · intro w hSw
      obtain ⟨s1, s2, s3, s4, s5, s6, s7⟩ := hSw
      go_simp
      try (with_reducible rfl)
    (try simp only [Act.put, List.getElem_toArray, List.getElem_cons_succ, List.getElem_cons_zero, List.setIfInBounds_toArray, List.set_cons_zero, List.set_cons_succ])
    refine wpAnyH_take (i := 8) (v := ?_) rfl (by kernel_rfl) (by kernel_rfl) (by kernel_rfl) (fun _ _ _ h => h) (Or.inl ⟨by kernel_rfl, ?_⟩) (by assumption) ?_
    rotate_left
    · intro w hSw
      obtain ⟨s1, s2, s3, s4, s5, s6, s7⟩ := hSw
      go_simp
      try (with_reducible rfl)
    (try simp only [Act.put, List.getElem_toArray, List.getElem_cons_succ, List.getElem_cons_zero, List.setIfInBounds_toArray, List.set_cons_zero, List.set_cons_succ])
    refine wpAnyH_take (i := 9) (v := ?_) rfl (by kernel_rfl) (by kernel_rfl) (by kernel_rfl) (fun _ _ _ h => h) (Or.inl ⟨by kernel_rfl, ?_⟩) (by assumption) ?_
    rotate_left
    · intro w hSw
      obtain ⟨s1, s2, s3, s4, s5, s6, s7⟩ := hSw
      go_simp
      try (with_reducible rfl)
    (try simp only [Act.put, List.getElem_toArray, List.getElem_cons_succ, List.getElem_cons_zero, List.setIfInBounds_toArray, List.set_cons_zero, List.set_cons_succ])
    refine wpAnyH_take (i := 10) (v := ?_) rfl (by kernel_rfl) (by kernel_rfl) (by kernel_rfl) (fun _ _ _ h => h) (Or.inl ⟨by kernel_rfl, ?_⟩) (by assumption) ?_
    rotate_left
    · intro w hSw
      obtain ⟨s1, s2, s3, s4, s5, s6, s7⟩ := hSw
      go_simp
      try (with_reducible rfl)
    (try simp only [Act.put, List.getElem_toArray, List.getElem_cons_succ, List.getElem_cons_zero, List.setIfInBounds_toArray, List.set_cons_zero, List.set_cons_succ])
    refine wpAnyH_take (i := 11) (v := ?_) rfl (by kernel_rfl) (by kernel_rfl) (by kernel_rfl) (fun _ _ _ h => h) (Or.inl ⟨by kernel_rfl, ?_⟩) (by assumption) ?_
    rotate_left
    · intro w hSw
      obtain ⟨s1, s2, s3, s4, s5, s6, s7⟩ := hSw
      go_simp
      try (with_reducible rfl)
    (try simp only [Act.put, List.getElem_toArray, List.getElem_cons_succ, List.getElem_cons_zero, List.setIfInBounds_toArray, List.set_cons_zero, List.set_cons_succ])
    refine wpAnyH_take (i := 12) (v := ?_) rfl (by kernel_rfl) (by kernel_rfl) (by kernel_rfl) (fun _ _ _ h => h) (Or.inl ⟨by kernel_rfl, ?_⟩) (by assumption) ?_
    rotate_left
    · intro w hSw
      obtain ⟨s1, s2, s3, s4, s5, s6, s7⟩ := hSw
      go_simp
      try (with_reducible rfl)
    (try simp only [Act.put, List.getElem_toArray, List.getElem_cons_succ, List.getElem_cons_zero, List.setIfInBounds_toArray, List.set_cons_zero, List.set_cons_succ])
    refine wpAnyH_take (i := 13) (v := .pointer (some ⟨g4, o4 + k4 * 3, none⟩)) rfl (by kernel_rfl) (by kernel_rfl) (by kernel_rfl) (fun _ _ _ h => h) (Or.inl ⟨by kernel_rfl, ?_⟩) (by assumption) ?_
    · intro w hSw
      obtain ⟨s1, s2, s3, s4, s5, s6, s7⟩ := hSw
      go_simp
    (try simp only [Act.put, List.getElem_toArray, List.getElem_cons_succ, List.getElem_cons_zero, List.setIfInBounds_toArray, List.set_cons_zero, List.set_cons_succ])
    refine wpAnyH_take (i := 14) (v := _) rfl (by kernel_rfl) (by kernel_rfl) (by kernel_rfl) (fun _ _ _ h => h) (yieldsIf_load_mid (by kernel_rfl) 48 (.tmp 71) rfl (g4) (o4 + k4 * 3) rfl ((ec XX).toList) _ (fun _ h => h.2.2.2.2.2.1) Tryz.underlying48 rfl info_ent) (by assumption) ?_
    (try simp only [Act.put, List.getElem_toArray, List.getElem_cons_succ, List.getElem_cons_zero, List.setIfInBounds_toArray, List.set_cons_zero, List.set_cons_succ])
    refine wpAnyH_take (i := 15) (v := ?_) rfl (by kernel_rfl) (by kernel_rfl) (by kernel_rfl) (fun _ _ _ h => h) (Or.inl ⟨by kernel_rfl, ?_⟩) (by assumption) ?_
    rotate_left
    · intro w hSw
      obtain ⟨s1, s2, s3, s4, s5, s6, s7⟩ := hSw
      go_simp
      try (with_reducible rfl)
    (try simp only [Act.put, List.getElem_toArray, List.getElem_cons_succ, List.getElem_cons_zero, List.setIfInBounds_toArray, List.set_cons_zero, List.set_cons_succ])
    refine wpAnyH_take (i := 16) (v := ?_) rfl (by kernel_rfl) (by kernel_rfl) (by kernel_rfl) (fun _ _ _ h => h) (Or.inl ⟨by kernel_rfl, ?_⟩) (by assumption) ?_
    rotate_left
    · intro w hSw
      obtain ⟨s1, s2, s3, s4, s5, s6, s7⟩ := hSw
      go_simp
      try (with_reducible rfl)
    (try simp only [Act.put, List.getElem_toArray, List.getElem_cons_succ, List.getElem_cons_zero, List.setIfInBounds_toArray, List.set_cons_zero, List.set_cons_succ])
    refine wpAnyH_take (i := 17) (v := ?_) rfl (by kernel_rfl) (by kernel_rfl) (by kernel_rfl) (fun _ _ _ h => h) (Or.inl ⟨by kernel_rfl, ?_⟩) (by assumption) ?_
    rotate_left
    · intro w hSw
      obtain ⟨s1, s2, s3, s4, s5, s6, s7⟩ := hSw
      go_simp
      try (with_reducible rfl)
    (try simp only [Act.put, List.getElem_toArray, List.getElem_cons_succ, List.getElem_cons_zero, List.setIfInBounds_toArray, List.set_cons_zero, List.set_cons_succ])
    refine wpAnyH_take (i := 18) (v := ?_) rfl (by kernel_rfl) (by kernel_rfl) (by kernel_rfl) (fun _ _ _ h => h) (Or.inl ⟨by kernel_rfl, ?_⟩) (by assumption) ?_
    rotate_left
    · intro w hSw
      obtain ⟨s1, s2, s3, s4, s5, s6, s7⟩ := hSw
      go_simp
      try (with_reducible rfl)
    (try simp only [Act.put, List.getElem_toArray, List.getElem_cons_succ, List.getElem_cons_zero, List.setIfInBounds_toArray, List.set_cons_zero, List.set_cons_succ])
    refine wpAnyH_take (i := 19) (v := .pointer (some ⟨g0, o0 + k0 * 3, none⟩)) rfl (by kernel_rfl) (by kernel_rfl) (by kernel_rfl) (fun _ _ _ h => h) (Or.inl ⟨by kernel_rfl, ?_⟩) (by assumption) ?_
    · intro w hSw
      obtain ⟨s1, s2, s3, s4, s5, s6, s7⟩ := hSw
      go_simp
    (try simp only [Act.put, List.getElem_toArray, List.getElem_cons_succ, List.getElem_cons_zero, List.setIfInBounds_toArray, List.set_cons_zero, List.set_cons_succ])
    refine wpAnyH_take (i := 20) (v := _) rfl (by kernel_rfl) (by kernel_rfl) (by kernel_rfl) (fun _ _ _ h => h) (yieldsIf_load_mid (by kernel_rfl) 48 (.tmp 77) rfl (g0) (o0 + k0 * 3) rfl ((ec XX).toList) _ (fun _ h => h.2.2.2.2.2.2) Tryz.underlying48 rfl info_ent) (by assumption) ?_
    (try simp only [Act.put, List.getElem_toArray, List.getElem_cons_succ, List.getElem_cons_zero, List.setIfInBounds_toArray, List.set_cons_zero, List.set_cons_succ])
    refine wpAnyH_take (i := 21) (v := ?_) rfl (by kernel_rfl) (by kernel_rfl) (by kernel_rfl) (fun _ _ _ h => h) (Or.inl ⟨by kernel_rfl, ?_⟩) (by assumption) ?_
    rotate_left
    · intro w hSw
      obtain ⟨s1, s2, s3, s4, s5, s6, s7⟩ := hSw
      go_simp
      try (with_reducible rfl)
    (try simp only [Act.put, List.getElem_toArray, List.getElem_cons_succ, List.getElem_cons_zero, List.setIfInBounds_toArray, List.set_cons_zero, List.set_cons_succ])
    refine wpAnyH_take (i := 22) (v := ?_) rfl (by kernel_rfl) (by kernel_rfl) (by kernel_rfl) (fun _ _ _ h => h) (Or.inl ⟨by kernel_rfl, ?_⟩) (by assumption) ?_
    rotate_left
    · intro w hSw
      obtain ⟨s1, s2, s3, s4, s5, s6, s7⟩ := hSw
      go_simp
      try (with_reducible rfl)
    (try simp only [Act.put, List.getElem_toArray, List.getElem_cons_succ, List.getElem_cons_zero, List.setIfInBounds_toArray, List.set_cons_zero, List.set_cons_succ])
    refine wpAnyH_take (i := 23) (v := ?_) rfl (by kernel_rfl) (by kernel_rfl) (by kernel_rfl) (fun _ _ _ h => h) (Or.inl ⟨by kernel_rfl, ?_⟩) (by assumption) ?_
    rotate_left
    · intro w hSw
      obtain ⟨s1, s2, s3, s4, s5, s6, s7⟩ := hSw
      go_simp
      try (with_reducible rfl)
    (try simp only [Act.put, List.getElem_toArray, List.getElem_cons_succ, List.getElem_cons_zero, List.setIfInBounds_toArray, List.set_cons_zero, List.set_cons_succ])
    refine wpAnyH_done (by kernel_rfl) ?_ _
    go_wp2
    go_ret
    exact ⟨rfl, HU.out.drew⟩
end Go.Proofs.YtdolmjeiakdfhaaGreatDoor
