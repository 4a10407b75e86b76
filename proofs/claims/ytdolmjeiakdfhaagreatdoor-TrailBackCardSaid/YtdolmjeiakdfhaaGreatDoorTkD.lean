/-
  An entry of the same document; pushed; replaced. Conditions: as each says.
-/
import Derived.Test.YtdolmjeiakdfhaaGreatDoorTkF
namespace Go.Proofs.YtdolmjeiakdfhaaGreatDoor
set_option linter.unusedSimpArgs false
set_option linter.unusedVariables false
open Go.RowKit
open Traily (Ent T)

theorem own_err {t : T} {ref st : List UInt8} {n : Nat} (h : Traily.resolved t ref = .error n) : Traily.ownE t ref st = .error n := by unfold Traily.ownE; rw [h]
theorem own_large {t : T} {ref st s : List UInt8} (h : Traily.resolved t ref = .ok s) (h2 : 2000 < st.length) : Traily.ownE t ref st = .error 2 := by unfold Traily.ownE; rw [h]; simp only; rw [if_pos h2]
theorem own_other {t : T} {ref st s : List UInt8} (h : Traily.resolved t ref = .ok s) (h2 : ¬ 2000 < st.length) (h3 : Traily.org s ≠ Traily.org (Traily.here t).url) : Traily.ownE t ref st = .error 12 := by unfold Traily.ownE; rw [h]; simp only; rw [if_neg h2, if_pos h3]
theorem own_ok {t : T} {ref st s : List UInt8} (h : Traily.resolved t ref = .ok s) (h2 : ¬ 2000 < st.length) (h3 : Traily.org s = Traily.org (Traily.here t).url) : Traily.ownE t ref st = .ok ⟨s, st, (Traily.here t).doc⟩ := by unfold Traily.ownE; rw [h]; simp only; rw [if_neg h2, if_neg (by simp [h3])]
def EntOut (r : Except Nat Ent) (w : World) (e : Ending) (w' : World) : Prop :=
  (∃ x, r = .ok x ∧ e = .returned (.tuple #[.agg (ec x), .int .i64 0]) ∧ Below w.heap.size w w') ∨
  (∃ (n : Nat) (m : Int), r = .error n ∧ m = n ∧ m ≠ 0 ∧ e = .returned (.tuple #[.agg #[.string ⟨#[]⟩, .string ⟨#[]⟩, .int .i64 0], .int .i64 m]) ∧ Below w.heap.size w w')
theorem own_right {t : T} {ref st : List UInt8} {x : Ent} (h : Traily.ownE t ref st = .ok x) : Traily.Right t := (Traily.own_form h).1
theorem ent_one (a b : ByteArray) (c : Int) : (#[.string a, .string b, .int .i64 c] : Array Value).all (·.oneCell') = true := by simp [Value.oneCell']
set_option maxRecDepth 100000 in
set_option maxHeartbeats 8000000 in
theorem townE_any (t : T) (v : Value) (ref st : List UInt8) (w : World) (he : Env w) (hv : TrRd w t v) :
    Calls Tryz.prog 30 #[.agg (tc v t.at'), .string (byt ref), .string (byt st)] w (EntOut (Traily.ownE t ref st) w) := by
  have HRS : Hid (∀ w1, Below w.heap.size w w1 → Calls Tryz.prog 25 #[.agg (tc v t.at'), .string (byt ref)] w1 (ResdOut (Traily.resolved t ref) w1)) := Lib.hid (fun w1 h => resolved_any t v ref w1 (he.below h) (hv.below h))
  have HHE : Hid (Traily.Right t → ∀ w1, Below w.heap.size w w1 → Calls Tryz.prog 26 #[.agg (tc v t.at')] w1 fun e w' => e = .returned (.agg #[.string (byt (Traily.here t).url), .string (byt (Traily.here t).state), .int .i64 (Traily.here t).doc]) ∧ Below w1.heap.size w1 w') := Lib.hid (fun hR w1 h => here_t t v w1 (hv.below h) hR)
  have HOR : Hid (∀ s w1, Below w.heap.size w w1 → Calls Tryz.prog 55 #[.string (byt s)] w1 (TxtOut (Traily.org s) w1)) := Lib.hid (fun s w1 h => torigin_any s w1 (he.below h))
  have hz := byt_size st
  obtain ⟨RF, hRF⟩ : ∃ S, byt ref = S := ⟨_, rfl⟩
  obtain ⟨SS, hSS⟩ : ∃ S, byt st = S := ⟨_, rfl⟩
  rw [hRF] at HRS ⊢
  rw [hSS] at hz ⊢
  have HSS := Lib.hid hSS
  have HZ := Lib.hid hz
  clear hRF hSS he hv hz
  go_enter Tryz.func30, Tryz.ntmps30
  go_upto_region 1 with (fail)
  refine gen_world (F := fun W => Box W w.heap.size 41 (tc v t.at') ∧ Box W (w.heap.size + 1) 48 #[.string ⟨#[]⟩, .string ⟨#[]⟩, .int .i64 0] ∧ Below w.heap.size w W) ⟨(Box.new w _ _).alloc _, by have := Box.new (w.alloc (.cells (tc v t.at') 41)) 48 #[.string ⟨#[]⟩, .string ⟨#[]⟩, .int .i64 0]; simpa using this, (below1 w _).alloc (by simp) _⟩ ?_
  rintro W0 ⟨b0, r0, hU⟩
  have HU0 := Lib.hid hU
  have HB0 := Lib.hid b0
  have HR0 := Lib.hid r0
  have hz0 := r0.lt
  clear hU r0
  go_wp2_with (refine wpList_load_row rfl 41 (.tmp 3) rfl w.heap.size rfl _ (tc v t.at') (0, 0) _ b0 Tryz.underlying41 rfl info_trl ?_)
  refine (HRS.out _ HU0.out).mono ?_
  rintro e w1 ⟨s, m, rfl, ht, hb1⟩
  have HU1 := Lib.hid (HU0.out.trans (hb1.mono HU0.out.size))
  have HB1 := Lib.hid (HB0.out.below hb1 HB0.out.lt)
  have HR1 := Lib.hid (HR0.out.below hb1 HR0.out.lt)
  have b1 := HB1.out
  clear hb1 b0
  rcases ht with ⟨rfl, hr⟩ | ⟨hm, rfl, n, hr, hmn⟩
  rotate_left
  · have g1 : (m != 0) = true := by rw [bne_iff_ne]; exact hm
    have HL := Lib.hid (own_err (st := st) hr)
    have HM := Lib.hid hm
    have HMN := Lib.hid hmn
    clear hr hm hmn
    go_wp2_with (refine wpList_store_box rfl 48 (.tmp 6) (.tmp 19) rfl (w.heap.size + 1) #[.string ⟨#[]⟩, .string ⟨#[]⟩, .int .i64 0] rfl rfl 48 _ HR1.out info_ent rfl (ent_one _ _ _) ?_; intro wz hxz huz hzz; have HZZ := Lib.hid hzz; clear hzz)
    refine bodyPost_ret (results_box_tmp rfl _ _ (w.heap.size + 1) 48 _ _ rfl hxz Tryz.underlying48 rfl info_ent) rfl ?_
    exact .inr ⟨n, m, HL.out, HMN.out, HM.out, rfl, HU1.out.trans (huz.own (by omega) HU1.out.size)⟩
  obtain ⟨hR, hrs⟩ := Traily.resolved_form hr
  have HR := Lib.hid hr
  have HHR := Lib.hid (HHE.out hR)
  obtain ⟨HD, hHD⟩ : ∃ d, (Traily.here t).doc = d := ⟨_, rfl⟩
  obtain ⟨HS, hHS⟩ : ∃ d, byt (Traily.here t).state = d := ⟨_, rfl⟩
  obtain ⟨HU, hHU⟩ : ∃ d, byt (Traily.here t).url = d := ⟨_, rfl⟩
  have HO2 := Lib.hid (HOR.out (Traily.here t).url)
  have HO1 := Lib.hid (HOR.out s)
  rw [hHD, hHS, hHU] at HHR
  rw [hHU] at HO2
  have hf0 := fun w => (field_ent HU HS HD w).1
  have hf2 := fun w => (field_ent HU HS HD w).2
  have HHD := Lib.hid hHD
  clear hr hrs hR HHE hHD hHS hHU HOR
  by_cases y1 : 2000 < st.length
  · have hz := HZ.out
    have g2 : decide ((SS.size : Int) > 2000) = true := decide_eq_true (by omega)
    have g3 : (2000 : Int) < (SS.size : Int) := by omega
    have g4 : decide (2000 < SS.size) = true := decide_eq_true (by omega)
    have HL := Lib.hid (own_large HR.out y1)
    clear y1 hz
    go_wp2_with (refine wpList_store_box rfl 48 (.tmp 6) (.tmp 25) rfl (w.heap.size + 1) #[.string ⟨#[]⟩, .string ⟨#[]⟩, .int .i64 0] rfl rfl 48 _ HR1.out info_ent rfl (ent_one _ _ _) ?_; intro wz hxz huz hzz; have HZZ := Lib.hid hzz; clear hzz)
    refine bodyPost_ret (results_box_tmp rfl _ _ (w.heap.size + 1) 48 _ _ rfl hxz Tryz.underlying48 rfl info_ent) rfl ?_
    exact .inr ⟨2, 2, HL.out, rfl, by decide, rfl, HU1.out.trans (huz.own (by omega) HU1.out.size)⟩
  have hz := HZ.out
  have g2 : decide ((SS.size : Int) > 2000) = false := decide_eq_false (by omega)
  have g3 : ¬ (2000 : Int) < (SS.size : Int) := by omega
  have g4 : decide (2000 < SS.size) = false := decide_eq_false (by omega)
  have g5 : (SS.size : Int) ≤ 2000 := by omega
  have g6 : SS.size ≤ 2000 := by omega
  have HY1 := Lib.hid y1
  clear hz y1
  unfold TxtOut at HO1 HO2
  by_cases y2 : Traily.org s = Traily.org (Traily.here t).url
  · have HL := Lib.hid (own_ok HR.out HY1.out y2)
    rw [y2] at HO1
    obtain ⟨XA, hXA⟩ : ∃ S, byt (Traily.org (Traily.here t).url) = S := ⟨_, rfl⟩
    rw [hXA] at HO1 HO2
    obtain ⟨q1, q2⟩ := same_yes XA
    clear y2 hXA
    go_upto_region 6 with (fail)
    have hzb : w.heap.size < w1.heap.size := HB1.out.lt
    refine wp_region_held_drew (S := fun w' => Below w1.heap.size w1 w' ∧ Box w' w.heap.size 41 (tc v t.at')) (by kernel_rfl) ⟨(Below.refl _ w1).drew, Box.drew HB1.out⟩ (fun hHeld => ?_)
    refine wpAnyH_take (i := 0) (v := ?_) rfl (by kernel_rfl) (by kernel_rfl) (by kernel_rfl) (fun _ _ _ h => h) (Or.inl ⟨by kernel_rfl, ?_⟩) (by assumption) ?_
    rotate_left
    · intro w hSw
      (try dsimp only at hSw)
      go_simp
      try (with_reducible rfl)
    (try simp only [Act.put, List.getElem_toArray, List.getElem_cons_zero, List.setIfInBounds_toArray, List.set_cons_zero, List.set_cons_succ])
    refine wpAnyH_take (i := 2) (v := _) rfl (by kernel_rfl) (by kernel_rfl) (by kernel_rfl) (fun _ _ _ h => h) (yields_load_box (by kernel_rfl) 41 (.tmp 3) rfl (w.heap.size) 41 ((tc v t.at')) _ rfl (fun _ h => h.2) Tryz.underlying41 rfl info_trl) (by assumption) ?_
    (try simp only [Act.put, List.getElem_toArray, List.getElem_cons_succ, List.getElem_cons_zero, List.setIfInBounds_toArray, List.set_cons_zero, List.set_cons_succ])
    refine wpAnyH_ready (rs := [1]) (by kernel_rfl) (by simp) ?_
    refine AllReadyH.cons rfl (fun K hK => ?_) AllReadyH.nil
    go_simp
    refine (HO1.out _ (HU1.out.trans (hHeld.1.mono HU1.out.size))).mono ?_
    rintro e w5 ⟨rfl, hb5⟩
    go_wp2_with (fail)
    refine hK.out _ _ ?_ (fun hHeld => ?_)
    · exact ⟨hHeld.1.trans (hb5.mono hHeld.1.size), hHeld.2.below hb5 hHeld.2.lt⟩
    clear hK K
    (try simp only [Act.put, List.getElem_toArray, List.getElem_cons_succ, List.getElem_cons_zero, List.setIfInBounds_toArray, List.set_cons_zero, List.set_cons_succ])
    refine wpAnyH_ready (rs := [3]) (by kernel_rfl) (by simp) ?_
    refine AllReadyH.cons rfl (fun K hK => ?_) AllReadyH.nil
    go_simp
    refine (HHR.out _ (HU1.out.trans (hHeld.1.mono HU1.out.size))).mono ?_
    rintro e w5 ⟨rfl, hb5⟩
    go_wp2_with (fail)
    refine hK.out _ _ ?_ (fun hHeld => ?_)
    · exact ⟨hHeld.1.trans (hb5.mono hHeld.1.size), hHeld.2.below hb5 hHeld.2.lt⟩
    clear hK K
    (try simp only [Act.put, List.getElem_toArray, List.getElem_cons_succ, List.getElem_cons_zero, List.setIfInBounds_toArray, List.set_cons_zero, List.set_cons_succ])
    refine wpAnyH_take (i := 4) (v := ?_) rfl (by kernel_rfl) (by kernel_rfl) (by kernel_rfl) (fun _ _ _ h => h) (Or.inl ⟨by kernel_rfl, ?_⟩) (by assumption) ?_
    rotate_left
    · intro w hSw
      (try dsimp only at hSw)
      go_simp
      try (with_reducible rfl)
    (try simp only [Act.put, List.getElem_toArray, List.getElem_cons_succ, List.getElem_cons_zero, List.setIfInBounds_toArray, List.set_cons_zero, List.set_cons_succ])
    refine wpAnyH_ready (rs := [5]) (by kernel_rfl) (by simp) ?_
    refine AllReadyH.cons rfl (fun K hK => ?_) AllReadyH.nil
    go_simp
    refine (HO2.out _ (HU1.out.trans (hHeld.1.mono HU1.out.size))).mono ?_
    rintro e w5 ⟨rfl, hb5⟩
    go_wp2_with (fail)
    refine hK.out _ _ ?_ (fun hHeld => ?_)
    · exact ⟨hHeld.1.trans (hb5.mono hHeld.1.size), hHeld.2.below hb5 hHeld.2.lt⟩
    clear hK K
    (try simp only [Act.put, List.getElem_toArray, List.getElem_cons_succ, List.getElem_cons_zero, List.setIfInBounds_toArray, List.set_cons_zero, List.set_cons_succ])
    refine wpAnyH_take (i := 6) (v := ?_) rfl (by kernel_rfl) (by kernel_rfl) (by kernel_rfl) (fun _ _ _ h => h) (Or.inl ⟨by kernel_rfl, ?_⟩) (by assumption) ?_
    rotate_left
    · intro w hSw
      (try dsimp only at hSw)
      go_simp
      try (with_reducible rfl)
    (try simp only [Act.put, List.getElem_toArray, List.getElem_cons_succ, List.getElem_cons_zero, List.setIfInBounds_toArray, List.set_cons_zero, List.set_cons_succ])
    refine wpAnyH_take (i := 7) (v := ?_) rfl (by kernel_rfl) (by kernel_rfl) (by kernel_rfl) (fun _ _ _ h => h) (Or.inl ⟨by kernel_rfl, ?_⟩) (by assumption) ?_
    rotate_left
    · intro w hSw
      (try dsimp only at hSw)
      go_simp
      try (with_reducible rfl)
    (try simp only [Act.put, List.getElem_toArray, List.getElem_cons_succ, List.getElem_cons_zero, List.setIfInBounds_toArray, List.set_cons_zero, List.set_cons_succ])
    refine wpAnyH_done (by kernel_rfl) ?_ _
    have HU3 := Lib.hid (HU1.out.trans (hHeld.1.mono HU1.out.size))
    have HR3 := Lib.hid (HR1.out.below hHeld.1 HR1.out.lt)
    have b3 := hHeld.2
    have HB3 := Lib.hid b3
    clear hHeld b1
    go_wp2_with (refine wpList_load_row rfl 41 (.tmp 3) rfl w.heap.size rfl _ (tc v t.at') (0, 0) _ b3 Tryz.underlying41 rfl info_trl ?_)
    refine (HHR.out _ HU3.out).mono ?_
    rintro e w4 ⟨rfl, hb4⟩
    have HU4 := Lib.hid (HU3.out.trans (hb4.mono HU3.out.size))
    have HR4 := Lib.hid (HR3.out.below hb4 HR3.out.lt)
    clear hb4 b3
    go_wp2_with (refine wpList_store_box rfl 48 (.tmp 6) (.tmp 40) rfl (w.heap.size + 1) #[.string (byt s), .string SS, .int .i64 HD] rfl rfl 48 _ HR4.out info_ent rfl (ent_one _ _ _) ?_; intro wz hxz huz hzz; have HZZ := Lib.hid hzz; clear hzz)
    refine bodyPost_ret (results_box_tmp rfl _ _ (w.heap.size + 1) 48 _ _ rfl hxz Tryz.underlying48 rfl info_ent) rfl ?_
    refine .inl ⟨_, HL.out, ?_, HU4.out.trans (huz.own (by omega) HU4.out.size)⟩
    unfold ec
    rw [HSS.out, HHD.out]
    rfl
  · have HL := Lib.hid (own_other HR.out HY1.out y2)
    have hne := byt_ne y2
    obtain ⟨XA, hXA⟩ : ∃ S, byt (Traily.org s) = S := ⟨_, rfl⟩
    obtain ⟨XB, hXB⟩ : ∃ S, byt (Traily.org (Traily.here t).url) = S := ⟨_, rfl⟩
    rw [hXA] at HO1 hne
    rw [hXB] at HO2 hne
    obtain ⟨q1, q2, q3⟩ := same_no hne
    have q4 := of_decide_eq_false q2
    clear y2 hXA hXB hne
    go_upto_region 6 with (fail)
    have hzb : w.heap.size < w1.heap.size := HB1.out.lt
    refine wp_region_held_drew (S := fun w' => Below w1.heap.size w1 w' ∧ Box w' w.heap.size 41 (tc v t.at')) (by kernel_rfl) ⟨(Below.refl _ w1).drew, Box.drew HB1.out⟩ (fun hHeld => ?_)
    refine wpAnyH_take (i := 0) (v := ?_) rfl (by kernel_rfl) (by kernel_rfl) (by kernel_rfl) (fun _ _ _ h => h) (Or.inl ⟨by kernel_rfl, ?_⟩) (by assumption) ?_
    rotate_left
    · intro w hSw
      (try dsimp only at hSw)
      go_simp
      try (with_reducible rfl)
    (try simp only [Act.put, List.getElem_toArray, List.getElem_cons_zero, List.setIfInBounds_toArray, List.set_cons_zero, List.set_cons_succ])
    refine wpAnyH_take (i := 2) (v := _) rfl (by kernel_rfl) (by kernel_rfl) (by kernel_rfl) (fun _ _ _ h => h) (yields_load_box (by kernel_rfl) 41 (.tmp 3) rfl (w.heap.size) 41 ((tc v t.at')) _ rfl (fun _ h => h.2) Tryz.underlying41 rfl info_trl) (by assumption) ?_
    (try simp only [Act.put, List.getElem_toArray, List.getElem_cons_succ, List.getElem_cons_zero, List.setIfInBounds_toArray, List.set_cons_zero, List.set_cons_succ])
    refine wpAnyH_ready (rs := [1]) (by kernel_rfl) (by simp) ?_
    refine AllReadyH.cons rfl (fun K hK => ?_) AllReadyH.nil
    go_simp
    refine (HO1.out _ (HU1.out.trans (hHeld.1.mono HU1.out.size))).mono ?_
    rintro e w5 ⟨rfl, hb5⟩
    go_wp2_with (fail)
    refine hK.out _ _ ?_ (fun hHeld => ?_)
    · exact ⟨hHeld.1.trans (hb5.mono hHeld.1.size), hHeld.2.below hb5 hHeld.2.lt⟩
    clear hK K
    (try simp only [Act.put, List.getElem_toArray, List.getElem_cons_succ, List.getElem_cons_zero, List.setIfInBounds_toArray, List.set_cons_zero, List.set_cons_succ])
    refine wpAnyH_ready (rs := [3]) (by kernel_rfl) (by simp) ?_
    refine AllReadyH.cons rfl (fun K hK => ?_) AllReadyH.nil
    go_simp
    refine (HHR.out _ (HU1.out.trans (hHeld.1.mono HU1.out.size))).mono ?_
    rintro e w5 ⟨rfl, hb5⟩
    go_wp2_with (fail)
    refine hK.out _ _ ?_ (fun hHeld => ?_)
    · exact ⟨hHeld.1.trans (hb5.mono hHeld.1.size), hHeld.2.below hb5 hHeld.2.lt⟩
    clear hK K
    (try simp only [Act.put, List.getElem_toArray, List.getElem_cons_succ, List.getElem_cons_zero, List.setIfInBounds_toArray, List.set_cons_zero, List.set_cons_succ])
    refine wpAnyH_take (i := 4) (v := ?_) rfl (by kernel_rfl) (by kernel_rfl) (by kernel_rfl) (fun _ _ _ h => h) (Or.inl ⟨by kernel_rfl, ?_⟩) (by assumption) ?_
    rotate_left
    · intro w hSw
      (try dsimp only at hSw)
      go_simp
      try (with_reducible rfl)
    (try simp only [Act.put, List.getElem_toArray, List.getElem_cons_succ, List.getElem_cons_zero, List.setIfInBounds_toArray, List.set_cons_zero, List.set_cons_succ])
    refine wpAnyH_ready (rs := [5]) (by kernel_rfl) (by simp) ?_
    refine AllReadyH.cons rfl (fun K hK => ?_) AllReadyH.nil
    go_simp
    refine (HO2.out _ (HU1.out.trans (hHeld.1.mono HU1.out.size))).mono ?_
    rintro e w5 ⟨rfl, hb5⟩
    go_wp2_with (fail)
    refine hK.out _ _ ?_ (fun hHeld => ?_)
    · exact ⟨hHeld.1.trans (hb5.mono hHeld.1.size), hHeld.2.below hb5 hHeld.2.lt⟩
    clear hK K
    (try simp only [Act.put, List.getElem_toArray, List.getElem_cons_succ, List.getElem_cons_zero, List.setIfInBounds_toArray, List.set_cons_zero, List.set_cons_succ])
    refine wpAnyH_take (i := 6) (v := ?_) rfl (by kernel_rfl) (by kernel_rfl) (by kernel_rfl) (fun _ _ _ h => h) (Or.inl ⟨by kernel_rfl, ?_⟩) (by assumption) ?_
    rotate_left
    · intro w hSw
      (try dsimp only at hSw)
      go_simp
      try (with_reducible rfl)
    (try simp only [Act.put, List.getElem_toArray, List.getElem_cons_succ, List.getElem_cons_zero, List.setIfInBounds_toArray, List.set_cons_zero, List.set_cons_succ])
    refine wpAnyH_take (i := 7) (v := ?_) rfl (by kernel_rfl) (by kernel_rfl) (by kernel_rfl) (fun _ _ _ h => h) (Or.inl ⟨by kernel_rfl, ?_⟩) (by assumption) ?_
    rotate_left
    · intro w hSw
      (try dsimp only at hSw)
      go_simp
      try (with_reducible rfl)
    (try simp only [Act.put, List.getElem_toArray, List.getElem_cons_succ, List.getElem_cons_zero, List.setIfInBounds_toArray, List.set_cons_zero, List.set_cons_succ])
    refine wpAnyH_done (by kernel_rfl) ?_ _
    have HU3 := Lib.hid (HU1.out.trans (hHeld.1.mono HU1.out.size))
    have HR3 := Lib.hid (HR1.out.below hHeld.1 HR1.out.lt)
    clear hHeld b1
    go_wp2_with (refine wpList_store_box rfl 48 (.tmp 6) (.tmp 34) rfl (w.heap.size + 1) #[.string ⟨#[]⟩, .string ⟨#[]⟩, .int .i64 0] rfl rfl 48 _ HR3.out info_ent rfl (ent_one _ _ _) ?_; intro wz hxz huz hzz; have HZZ := Lib.hid hzz; clear hzz)
    refine bodyPost_ret (results_box_tmp rfl _ _ (w.heap.size + 1) 48 _ _ rfl hxz Tryz.underlying48 rfl info_ent) rfl ?_
    exact .inr ⟨12, 12, HL.out, rfl, by decide, rfl, HU3.out.trans (huz.own (by omega) HU3.out.size)⟩
end Go.Proofs.YtdolmjeiakdfhaaGreatDoor

namespace Go.Proofs.YtdolmjeiakdfhaaGreatDoor
set_option linter.unusedSimpArgs false
set_option linter.unusedVariables false
open Go.RowKit
open Traily (Ent T)

theorem push_err {t : T} {ref st : List UInt8} {n : Nat} (h : Traily.ownE t ref st = .error n) : Traily.push t ref st = .error n := by unfold Traily.push; rw [h]
theorem push_ok {t : T} {ref st : List UInt8} {x : Ent} (h : Traily.ownE t ref st = .ok x) : Traily.push t ref st = .ok (Traily.behind t x) := by unfold Traily.push; rw [h]
theorem repl_err {t : T} {ref st : List UInt8} {n : Nat} (h : Traily.ownE t ref st = .error n) : Traily.replace t ref st = .error n := by unfold Traily.replace; rw [h]
theorem repl_ok {t : T} {ref st : List UInt8} {x : Ent} (h : Traily.ownE t ref st = .ok x) : Traily.replace t ref st = .ok ⟨t.ents.set t.at'.toNat x, t.at'⟩ := by unfold Traily.replace; rw [h]
theorem splice_set {l : List Ent} {k : Nat} (x : Ent) (R : List Value) (hk : k < l.length) : splice (flat ec l ++ R) (k * 3) (ec x).toList = flat ec (l.set k x) ++ R := by
  have e1 : l = l.take k ++ l[k] :: l.drop (k + 1) := by rw [← List.drop_eq_getElem_cons hk, List.take_append_drop]
  have h1 : (flat ec (l.take k)).length = k * 3 := by rw [flat_len (k := 3) (fun _ => rfl), List.length_take, Nat.min_eq_left (by omega)]
  have e2 : flat ec l = flat ec (l.take k) ++ ((ec l[k]).toList ++ flat ec (l.drop (k + 1))) := by conv => lhs; rw [e1]
                                                                                                   rw [flat_append, flat_cons]
  have e3 : flat ec (l.set k x) = flat ec (l.take k) ++ ((ec x).toList ++ flat ec (l.drop (k + 1))) := by rw [List.set_eq_take_append_cons_drop, if_pos hk, flat_append, flat_cons]
  rw [e2, e3]
  generalize flat ec (l.take k) = A at h1
  generalize flat ec (l.drop (k + 1)) = B
  unfold splice
  have h2 : (ec l[k]).toList.length = 3 := rfl
  have h3 : (ec x).toList.length = 3 := rfl
  rw [h3]
  generalize (ec l[k]).toList = C at h2
  generalize (ec x).toList = D
  rw [List.append_assoc, List.append_assoc, List.take_append, h1, Nat.sub_self, List.take_of_length_le (by omega), List.drop_append, h1, List.drop_of_length_le (by omega), show k * 3 + 3 - k * 3 = 3 by omega, List.drop_append, h2, List.drop_of_length_le (by omega)]
  simp
set_option maxRecDepth 100000 in
set_option maxHeartbeats 8000000 in
theorem push_any (t : T) (v : Value) (ref st : List UInt8) (w : World) (he : Env w) (hv : TrRd w t v) :
    Calls Tryz.prog 15 #[.agg (tc v t.at'), .string (byt ref), .string (byt st)] w (TrOut (Traily.push t ref st) w) := by
  have HOW : Hid (∀ w1, Below w.heap.size w w1 → Calls Tryz.prog 30 #[.agg (tc v t.at'), .string (byt ref), .string (byt st)] w1 (EntOut (Traily.ownE t ref st) w1)) := Lib.hid (fun w1 h => townE_any t v ref st w1 (he.below h) (hv.below h))
  have HBE : Hid (Traily.Right t → ∀ x w1, Below w.heap.size w w1 → Calls Tryz.prog 29 #[.agg (tc v t.at'), .agg (ec x)] w1 fun e w' => ∃ u, e = .returned (.agg (tc u (Traily.behind t x).at')) ∧ w'.ownsRow w1.heap.size 48 3 u (Traily.behind t x).ents.length (flat ec (Traily.behind t x).ents) ∧ Below w1.heap.size w1 w') := Lib.hid (fun hR x w1 h => behind_any t x v w1 (hv.below h) hR)
  obtain ⟨RF, hRF⟩ : ∃ S, byt ref = S := ⟨_, rfl⟩
  obtain ⟨SS, hSS⟩ : ∃ S, byt st = S := ⟨_, rfl⟩
  rw [hRF, hSS] at HOW
  rw [hRF, hSS]
  clear hRF hSS he hv
  go_enter Tryz.func15, Tryz.ntmps15
  go_upto_region 1 with (fail)
  refine gen_world (F := fun W => Box W w.heap.size 41 (tc v t.at') ∧ Box W (w.heap.size + 1) 41 #[.slice none 0 0, .int .i64 0] ∧ Below w.heap.size w W) ⟨(Box.new w _ _).alloc _, by have := Box.new (w.alloc (.cells (tc v t.at') 41)) 41 #[.slice none 0 0, .int .i64 0]; simpa using this, (below1 w _).alloc (by simp) _⟩ ?_
  rintro W0 ⟨b0, r0, hU⟩
  have HU0 := Lib.hid hU
  have HB0 := Lib.hid b0
  have HR0 := Lib.hid r0
  have hz0 := r0.lt
  clear hU r0
  go_wp2_with (refine wpList_load_row rfl 41 (.tmp 3) rfl w.heap.size rfl _ (tc v t.at') (0, 0) _ b0 Tryz.underlying41 rfl info_trl ?_)
  refine (HOW.out _ HU0.out).mono ?_
  rintro e w1 (⟨x, hr, rfl, hb1⟩ | ⟨n, m, hr, hmn, hm, rfl, hb1⟩)
  rotate_left
  · skip
    have HU1 := Lib.hid (HU0.out.trans (hb1.mono HU0.out.size))
    have HB1 := Lib.hid (HB0.out.below hb1 HB0.out.lt)
    have HR1 := Lib.hid (HR0.out.below hb1 HR0.out.lt)
    have b1 := HB1.out
    have HL := Lib.hid (push_err hr)
    have HM := Lib.hid hm
    have HMN := Lib.hid hmn
    have g1 : (m != 0) = true := by rw [bne_iff_ne]; exact hm
    clear hb1 b0 hr hm hmn
    go_upto_region 2 with (refine wpList_store_box rfl 48 (.tmp 8) (.tmp 15) rfl w1.heap.size #[.string ⟨#[]⟩, .string ⟨#[]⟩, .int .i64 0] rfl rfl 48 _ (Box.new w1 _ _) info_ent rfl (ent_one _ _ _) ?_; intro w2 hx2 hu2 hz2; have HZ2 := Lib.hid hz2; clear hz2)
    have hb2 : Below w1.heap.size w1 w2 := ((Below.refl _ w1).alloc (Nat.le_refl _) _).trans (hu2.own (Nat.le_refl _) (by simp))
    have HU2 := Lib.hid (HU1.out.trans (hb2.mono HU1.out.size))
    have HB2 := Lib.hid (HB1.out.below hb2 HB1.out.lt)
    have HR2 := Lib.hid (HR1.out.below hb2 HR1.out.lt)
    have b2 := HB2.out
    clear hb2 b1 b2 hx2
    go_wp2_with (refine wpList_store_box rfl 41 (.tmp 6) (.tmp 19) rfl (w.heap.size + 1) #[.slice none 0 0, .int .i64 0] rfl rfl 41 _ HR2.out info_trl rfl (tc_one _ _ _ _) ?_; intro wz hxz huz hzz; have HZZ := Lib.hid hzz; clear hzz)
    refine bodyPost_ret (results_box_tmp rfl _ _ (w.heap.size + 1) 41 _ _ rfl hxz Tryz.underlying41 rfl info_trl) rfl ?_
    exact trOut_err HL.out HMN.out HM.out rfl (HU2.out.trans (huz.own (by omega) HU2.out.size))
  have HU1 := Lib.hid (HU0.out.trans (hb1.mono HU0.out.size))
  have HB1 := Lib.hid (HB0.out.below hb1 HB0.out.lt)
  have HR1 := Lib.hid (HR0.out.below hb1 HR0.out.lt)
  have b1 := HB1.out
  have hR := own_right hr
  have HL := Lib.hid (push_ok hr)
  have HRI := Lib.hid hR
  clear hb1 b0 hr
  go_upto_region 2 with (refine wpList_store_box rfl 48 (.tmp 8) (.tmp 15) rfl w1.heap.size (ec x) rfl rfl 48 _ (Box.new w1 _ _) info_ent rfl (ec_one x) ?_; intro w2 hx2 hu2 hz2; have HZ2 := Lib.hid hz2; clear hz2)
  have hb2 : Below w1.heap.size w1 w2 := ((Below.refl _ w1).alloc (Nat.le_refl _) _).trans (hu2.own (Nat.le_refl _) (by simp))
  have HU2 := Lib.hid (HU1.out.trans (hb2.mono HU1.out.size))
  have HB2 := Lib.hid (HB1.out.below hb2 HB1.out.lt)
  have HR2 := Lib.hid (HR1.out.below hb2 HR1.out.lt)
  have b2 := HB2.out
  have HX2 := Lib.hid hx2
  clear hb2 b1
  have HBL := Lib.hid (HBE.out hR x)
  obtain ⟨TT, hTT⟩ : ∃ T, Traily.behind t x = T := ⟨_, rfl⟩
  rw [hTT] at HL HBL
  clear hTT hR HBE
  go_wp2_with (first | (refine wpList_load_row rfl 41 (.tmp 3) rfl w.heap.size rfl _ (tc v t.at') (0, 0) _ b2 Tryz.underlying41 rfl info_trl ?_) | (refine wpList_load_row rfl 48 (.tmp 8) rfl w1.heap.size rfl _ (ec x) (0, 0) _ hx2 Tryz.underlying48 rfl info_ent ?_))
  refine (HBL.out _ HU2.out).mono ?_
  rintro e w9 ⟨u, rfl, hown9, hb9⟩
  have HR9 := Lib.hid (HR2.out.below hb9 HR2.out.lt)
  have HO9 := Lib.hid hown9
  have HU9 := Lib.hid (HU2.out.trans (hb9.mono HU2.out.size))
  have hzf := HR2.out.lt
  clear hb9 hown9
  go_wp2_with (refine wpList_store_box rfl 41 (.tmp 6) (.tmp 23) rfl (w.heap.size + 1) (tc u TT.at') rfl rfl 41 _ HR9.out info_trl rfl (tc_own _ HO9.out) ?_; intro wz hxz huz hzz; have HZZ := Lib.hid hzz; clear hzz)
  refine bodyPost_ret (results_box_tmp rfl _ _ (w.heap.size + 1) 41 _ _ rfl hxz Tryz.underlying41 rfl info_trl) rfl ?_
  exact trOut_ok HL.out rfl (own_base (own_far HO9.out huz (by omega)) (by omega)) (HU9.out.trans (huz.own (by omega) HU9.out.size))
set_option maxRecDepth 100000 in
set_option maxHeartbeats 8000000 in
theorem replace_any (t : T) (v : Value) (ref st : List UInt8) (w : World) (he : Env w) (hv : TrRd w t v) :
    Calls Tryz.prog 18 #[.agg (tc v t.at'), .string (byt ref), .string (byt st)] w (TrOut (Traily.replace t ref st) w) := by
  have HOW : Hid (∀ w1, Below w.heap.size w w1 → Calls Tryz.prog 30 #[.agg (tc v t.at'), .string (byt ref), .string (byt st)] w1 (EntOut (Traily.ownE t ref st) w1)) := Lib.hid (fun w1 h => townE_any t v ref st w1 (he.below h) (hv.below h))
  have HCL : Hid (Traily.Right t → ∀ w1, Below w.heap.size w w1 → Calls Tryz.prog 32 #[v] w1 fun e w' => OwnOut w1 48 3 t.ents.length (flat ec t.ents) e w') := Lib.hid (fun hR w1 h => clone_ent t.ents v w1 (hv.below h) (by have := hR.len; omega))
  obtain ⟨RF, hRF⟩ : ∃ S, byt ref = S := ⟨_, rfl⟩
  obtain ⟨SS, hSS⟩ : ∃ S, byt st = S := ⟨_, rfl⟩
  rw [hRF, hSS] at HOW
  rw [hRF, hSS]
  clear hRF hSS he hv
  go_enter Tryz.func18, Tryz.ntmps18
  go_upto_region 1 with (fail)
  refine gen_world (F := fun W => Box W w.heap.size 41 (tc v t.at') ∧ Box W (w.heap.size + 1) 41 #[.slice none 0 0, .int .i64 0] ∧ Below w.heap.size w W) ⟨(Box.new w _ _).alloc _, by have := Box.new (w.alloc (.cells (tc v t.at') 41)) 41 #[.slice none 0 0, .int .i64 0]; simpa using this, (below1 w _).alloc (by simp) _⟩ ?_
  rintro W0 ⟨b0, r0, hU⟩
  have HU0 := Lib.hid hU
  have HB0 := Lib.hid b0
  have HR0 := Lib.hid r0
  have hz0 := r0.lt
  clear hU r0
  go_wp2_with (refine wpList_load_row rfl 41 (.tmp 3) rfl w.heap.size rfl _ (tc v t.at') (0, 0) _ b0 Tryz.underlying41 rfl info_trl ?_)
  refine (HOW.out _ HU0.out).mono ?_
  rintro e w1 (⟨x, hr, rfl, hb1⟩ | ⟨n, m, hr, hmn, hm, rfl, hb1⟩)
  rotate_left
  · skip
    have HU1 := Lib.hid (HU0.out.trans (hb1.mono HU0.out.size))
    have HB1 := Lib.hid (HB0.out.below hb1 HB0.out.lt)
    have HR1 := Lib.hid (HR0.out.below hb1 HR0.out.lt)
    have b1 := HB1.out
    have HL := Lib.hid (repl_err hr)
    have HM := Lib.hid hm
    have HMN := Lib.hid hmn
    have g1 : (m != 0) = true := by rw [bne_iff_ne]; exact hm
    clear hb1 b0 hr hm hmn
    go_upto_region 2 with (refine wpList_store_box rfl 48 (.tmp 8) (.tmp 16) rfl w1.heap.size #[.string ⟨#[]⟩, .string ⟨#[]⟩, .int .i64 0] rfl rfl 48 _ (Box.new w1 _ _) info_ent rfl (ent_one _ _ _) ?_; intro w2 hx2 hu2 hz2; have HZ2 := Lib.hid hz2; clear hz2)
    have hb2 : Below w1.heap.size w1 w2 := ((Below.refl _ w1).alloc (Nat.le_refl _) _).trans (hu2.own (Nat.le_refl _) (by simp))
    have HU2 := Lib.hid (HU1.out.trans (hb2.mono HU1.out.size))
    have HB2 := Lib.hid (HB1.out.below hb2 HB1.out.lt)
    have HR2 := Lib.hid (HR1.out.below hb2 HR1.out.lt)
    have b2 := HB2.out
    clear hb2 b1 b2 hx2
    go_wp2_with (refine wpList_store_box rfl 41 (.tmp 6) (.tmp 20) rfl (w.heap.size + 1) #[.slice none 0 0, .int .i64 0] rfl rfl 41 _ HR2.out info_trl rfl (tc_one _ _ _ _) ?_; intro wz hxz huz hzz; have HZZ := Lib.hid hzz; clear hzz)
    refine bodyPost_ret (results_box_tmp rfl _ _ (w.heap.size + 1) 41 _ _ rfl hxz Tryz.underlying41 rfl info_trl) rfl ?_
    exact trOut_err HL.out HMN.out HM.out rfl (HU2.out.trans (huz.own (by omega) HU2.out.size))
  have HU1 := Lib.hid (HU0.out.trans (hb1.mono HU0.out.size))
  have HB1 := Lib.hid (HB0.out.below hb1 HB0.out.lt)
  have HR1 := Lib.hid (HR0.out.below hb1 HR0.out.lt)
  have b1 := HB1.out
  have hR := own_right hr
  have HL := Lib.hid (repl_ok hr)
  have HRI := Lib.hid hR
  clear hb1 b0 hr
  go_upto_region 2 with (refine wpList_store_box rfl 48 (.tmp 8) (.tmp 16) rfl w1.heap.size (ec x) rfl rfl 48 _ (Box.new w1 _ _) info_ent rfl (ec_one x) ?_; intro w2 hx2 hu2 hz2; have HZ2 := Lib.hid hz2; clear hz2)
  have hb2 : Below w1.heap.size w1 w2 := ((Below.refl _ w1).alloc (Nat.le_refl _) _).trans (hu2.own (Nat.le_refl _) (by simp))
  have HU2 := Lib.hid (HU1.out.trans (hb2.mono HU1.out.size))
  have HB2 := Lib.hid (HB1.out.below hb2 HB1.out.lt)
  have HR2 := Lib.hid (HR1.out.below hb2 HR1.out.lt)
  have b2 := HB2.out
  have HX2 := Lib.hid hx2
  clear hb2 b1
  have HCC := Lib.hid (HCL.out hR)
  obtain ⟨k, hk⟩ : ∃ k : Nat, t.at' = k := ⟨t.at'.toNat, by have := hR.lo; omega⟩
  have hlt : k < t.ents.length := by have := hR.hi; omega
  have hltz : (k : Int) < (t.ents.length : Int) := by omega
  rw [show t.at'.toNat = k by omega, hk] at HL
  rw [hk] at b2
  have c0 := b2.cell 0
  have c1 := b2.cell 1
  simp [tc] at c0 c1
  have HB2 := Lib.hid b2
  clear hk hR b2 HCL
  go_wp2_with (fail)
  refine (HCC.out _ HU2.out).mono ?_
  rintro e w3 ⟨u, rfl, hown3, hb3⟩
  have HU3 := Lib.hid (HU2.out.trans (hb3.mono HU2.out.size))
  have HR3 := Lib.hid (HR2.out.below hb3 HR2.out.lt)
  have HX3 := Lib.hid (HX2.out.below hb3 HX2.out.lt)
  have b3 := HB2.out.below hb3 HB2.out.lt
  have c1 := b3.cell 1
  simp [tc] at c1
  have HB3 := Lib.hid b3
  obtain ⟨g3, cap3, R3, rfl, hg3, hbx3, hn3, hc3, hl3⟩ := own_box hown3 (by omega)
  have HBX3 := Lib.hid hbx3
  have hfit : Hid (k * 3 + (ec x).size ≤ (flat ec t.ents ++ R3).length) := Lib.hid (by rw [hl3]; have : (ec x).size = 3 := rfl; rw [this]; omega)
  have HL3 := Lib.hid hl3
  have hz2 := HR2.out.lt
  have hzb := HB2.out.lt
  have HG3 := Lib.hid hg3
  clear hown3 hbx3 hl3 hb3 hx2 b3
  go_upto_region 6 with (first | (refine wpList_load_row rfl 48 (.tmp 8) rfl w1.heap.size rfl _ (ec x) (0, 0) _ HX3.out Tryz.underlying48 rfl info_ent ?_) | (refine wpList_store_midbox rfl 48 (.tmp 29) (.tmp 28) rfl g3 (k * 3) (ec x) rfl rfl (flat ec t.ents ++ R3) 48 HBX3.out hfit.out info_ent (ec_one x) ?_; intro w4 hbx4 hu4 hz4; have HZ4 := Lib.hid hz4; clear hz4))
  have hw3 : Hid (w2.heap.size ≤ g3) := HG3
  have b4 := HB3.out.grown (row := some g3) hu4 (by intro h; injection h with h; have := HG3.out; omega)
  have HR4 := Lib.hid (HR3.out.grown (row := some g3) hu4 (by intro h; injection h with h; have := HG3.out; omega))
  have HU4 := Lib.hid (HU3.out.trans (hu4.own (by have := HG3.out; have := HU2.out.size; omega) HU3.out.size))
  have HO4 : Hid (w4.ownsRow w2.heap.size 48 3 (.slice (some ⟨g3, 0, none⟩) t.ents.length cap3) t.ents.length (flat ec (t.ents.set k x))) := Lib.hid (by
    have hs := splice_set x R3 hlt
    have hb := hbx4.out
    rw [hs] at hb
    have hfl : (flat ec (t.ents.set k x)).length = t.ents.length * 3 := by rw [flat_len (k := 3) (fun _ => rfl), List.length_set]
    have hfl2 : (flat ec t.ents).length = t.ents.length * 3 := flat_len (k := 3) (fun _ => rfl) _
    refine box_own (cur := flat ec (t.ents.set k x) ++ R3) HG3.out hb hn3 hc3 ?_ ?_ hfl
    · have := HL3.out; simp only [List.length_append] at this ⊢; omega
    · rw [List.take_append, hfl, Nat.sub_self, List.take_of_length_le (by omega)]; simp)
  have c1 := b4.cell 1
  simp [tc] at c1
  clear b4 hu4 hbx4
  go_wp2_with (refine wpList_store_box rfl 41 (.tmp 6) (.tmp 33) rfl (w.heap.size + 1) #[.slice (some ⟨g3, 0, none⟩) t.ents.length cap3, .int .i64 (k : Int)] rfl rfl 41 _ HR4.out info_trl rfl (tc_one _ _ _ _) ?_; intro wz hxz huz hzz; have HZZ := Lib.hid hzz; clear hzz)
  refine bodyPost_ret (results_box_tmp rfl _ _ (w.heap.size + 1) 41 _ _ rfl hxz Tryz.underlying41 rfl info_trl) rfl ?_
  refine trOut_ok HL.out rfl ?_ (HU4.out.trans (huz.own (by omega) HU4.out.size))
  show wz.ownsRow w.heap.size 48 3 _ (t.ents.set k x).length (flat ec (t.ents.set k x))
  rw [List.length_set]
  exact own_base (own_far HO4.out huz (by omega)) (by have := HU2.out.size; omega)
end Go.Proofs.YtdolmjeiakdfhaaGreatDoor
