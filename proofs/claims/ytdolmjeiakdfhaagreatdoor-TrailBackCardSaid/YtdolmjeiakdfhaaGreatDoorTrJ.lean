/-
  Gone to and fro. Conditions: the trail lies in memory; the library's variables hold what they hold; the number is one that an int tells.
-/
import Derived.Test.YtdolmjeiakdfhaaGreatDoorTkD
namespace Go.Proofs.YtdolmjeiakdfhaaGreatDoor
set_option linter.unusedSimpArgs false
set_option linter.unusedVariables false
open Go.RowKit
open Traily (Ent T)

def GoOut (r : Except Nat (T × Bool)) (w : World) (e : Ending) (w' : World) : Prop :=
  (∃ t b u, r = .ok (t, b) ∧ e = .returned (.tuple #[.agg (tc u t.at'), .bool b, .int .i64 0]) ∧ w'.ownsRow w.heap.size 48 3 u t.ents.length (flat ec t.ents) ∧ Below w.heap.size w w') ∨
  (∃ n : Nat, r = .error n ∧ n ≠ 0 ∧ e = .returned (.tuple #[.agg (tc (.slice none 0 0) 0), .bool false, .int .i64 (n : Int)]) ∧ Below w.heap.size w w')
theorem goOut_err {r : Except Nat (T × Bool)} {n : Nat} {m : Int} {w w' : World} {e : Ending} (h : r = .error n) (hn : m = n) (h0 : m ≠ 0) (he : e = .returned (.tuple #[.agg #[.slice none 0 0, .int .i64 0], .bool false, .int .i64 m])) (hb : Below w.heap.size w w') : GoOut r w e w' := by
  subst hn
  exact .inr ⟨n, h, by omega, he, hb⟩
theorem go_chk {t : T} {n : Int} (h : Traily.check t ≠ 0) : Traily.go t n = .error (Traily.check t) := by unfold Traily.go; rw [if_pos h]
theorem go_none {t : T} {n : Int} (h : Traily.check t = 0) (h2 : n < -t.at' ∨ (t.ents.length : Int) - t.at' ≤ n) : Traily.go t n = .error 5 := by unfold Traily.go; rw [if_neg (by omega), if_pos h2]
set_option maxRecDepth 100000 in
set_option maxHeartbeats 8000000 in
theorem go_any (t : T) (v : Value) (n : Int) (w : World) (he : Env w) (hv : TrRd w t v) (hn0 : -9223372036854775808 ≤ n) (hn1 : n ≤ 9223372036854775807) :
    Calls Tryz.prog 17 #[.agg (tc v t.at'), .int .i64 n] w (GoOut (Traily.go t n) w) := by
  have HCK : Hid (∀ w1, Below w.heap.size w w1 → Calls Tryz.prog 19 #[.agg (tc v t.at')] w1 fun e w' => e = .returned (.int .i64 (Traily.check t : Int)) ∧ Below w1.heap.size w1 w') := Lib.hid (fun w1 h => tcheck_any t v w1 (he.below h) (hv.below h))
  have HHE : Hid (Traily.Right t → ∀ w1, Below w.heap.size w w1 → Calls Tryz.prog 26 #[.agg (tc v t.at')] w1 fun e w' => e = .returned (.agg #[.string (byt (Traily.here t).url), .string (byt (Traily.here t).state), .int .i64 (Traily.here t).doc]) ∧ Below w1.heap.size w1 w') := Lib.hid (fun hR w1 h => here_t t v w1 (hv.below h) hR)
  have HHO : Hid (∀ (t2 : T) (u : Value) (w1 : World), Traily.Right t2 → TrRd w1 t2 u → Calls Tryz.prog 26 #[.agg (tc u t2.at')] w1 fun e w' => e = .returned (.agg #[.string (byt (Traily.here t2).url), .string (byt (Traily.here t2).state), .int .i64 (Traily.here t2).doc]) ∧ Below w1.heap.size w1 w') := Lib.hid (fun t2 u w1 hR h => here_t t2 u w1 h hR)
  have HCL : Hid (t.ents.length ≤ 50 → ∀ w1, Below w.heap.size w w1 → Calls Tryz.prog 32 #[v] w1 fun e w' => OwnOut w1 48 3 t.ents.length (flat ec t.ents) e w') := Lib.hid (fun hl w1 h => clone_ent t.ents v w1 (hv.below h) (by omega))
  obtain ⟨A, cap, rfl, hc1, hc2, hrow⟩ := hv
  obtain ⟨c, hc⟩ : ∃ c, Traily.check t = c := ⟨_, rfl⟩
  rw [hc] at HCK
  have HC := Lib.hid hc
  obtain ⟨v, hve⟩ : ∃ v, Value.slice A t.ents.length cap = v := ⟨_, rfl⟩
  rw [hve] at HCK HHE HCL ⊢
  have HVE := Lib.hid hve
  clear hc hrow he hve
  go_enter Tryz.func17, Tryz.ntmps17
  go_upto_region 1 with (fail)
  refine gen_world (F := fun W => Box W w.heap.size 41 (tc v t.at') ∧ Box W (w.heap.size + 1) 41 #[.slice none 0 0, .int .i64 0] ∧ Below w.heap.size w W) ⟨(Box.new w _ _).alloc _, by have := Box.new (w.alloc (.cells (tc v t.at') 41)) 41 #[.slice none 0 0, .int .i64 0]; simpa using this, (below1 w _).alloc (by simp) _⟩ ?_
  rintro W0 ⟨b0, r0, hU⟩
  have HU0 := Lib.hid hU
  have HB0 := Lib.hid b0
  have HR0 := Lib.hid r0
  have hz0 := r0.lt
  clear hU r0
  go_wp2_with (refine wpList_load_row rfl 41 (.tmp 2) rfl w.heap.size rfl _ (tc v t.at') (0, 0) _ b0 Tryz.underlying41 rfl info_trl ?_)
  refine (HCK.out _ HU0.out).mono ?_
  rintro e w1 ⟨rfl, hb1⟩
  have HU1 := Lib.hid (HU0.out.trans (hb1.mono HU0.out.size))
  have HB1 := Lib.hid (HB0.out.below hb1 HB0.out.lt)
  have HR1 := Lib.hid (HR0.out.below hb1 HR0.out.lt)
  have b1 := HB1.out
  clear hb1 b0
  by_cases y : c = 0
  rotate_left
  · have HY := Lib.hid y
    have g1 : ((c : Int) != 0) = true := by simp; omega
    have HL := Lib.hid (go_chk (n := n) (show Traily.check t ≠ 0 by rw [HC.out]; exact y))
    clear y
    go_wp2_with (refine wpList_store_box rfl 41 (.tmp 4) (.tmp 13) rfl (w.heap.size + 1) #[.slice none 0 0, .int .i64 0] rfl rfl 41 _ HR1.out info_trl rfl (tc_one _ _ _ _) ?_; intro wz hxz huz hzz; have HZZ := Lib.hid hzz; clear hzz)
    refine bodyPost_ret (results_btt rfl (Back.mk' (w.heap.size + 1) 41 _ rfl hxz Tryz.underlying41 rfl info_trl)) rfl ?_
    exact goOut_err HL.out (by rw [HC.out]) (by have := HY.out; omega) rfl (HU1.out.trans (huz.own (by omega) HU1.out.size))
  have g1 : ((c : Int) != 0) = false := by simp [y]
  have hck := HC.out.trans y
  have hR := (Traily.check_iff t).1 hck
  have HRI := Lib.hid hR
  have HCK0 := Lib.hid hck
  have hlo := hR.lo
  have hhi := hR.hi
  have hle := hR.len
  have HHR := Lib.hid (HHE.out hR)
  have HCC := Lib.hid (HCL.out hle)
  obtain ⟨AT, hAT⟩ : ∃ a, t.at' = a := ⟨_, rfl⟩
  obtain ⟨N, hN⟩ : ∃ a, t.ents.length = a := ⟨_, rfl⟩
  have HAT := Lib.hid hAT
  have HNN := Lib.hid hN
  have c0 := HB1.out.cell 0
  have c1 := HB1.out.cell 1
  simp [tc] at c0 c1
  rw [hAT] at c1 hlo hhi
  rw [hN] at hhi hle
  rw [← HVE.out, hN] at c0
  have w0 : IntKind.i64.wrap (-AT) = -AT := by rw [IntKind.wrap_i64]; omega
  have w1_ : IntKind.i64.wrap ((N : Int) - AT) = (N : Int) - AT := by rw [IntKind.wrap_i64]; omega
  clear y hck hR HHE HCL hAT hN b1 HCK
  by_cases y1 : n < -AT
  · have d1 : decide (n < -AT) = true := decide_eq_true y1
    have HL := Lib.hid (go_none (n := n) HCK0.out (.inl (by rw [HAT.out]; exact y1)))
    clear y1
    go_wp2_with (refine wpList_store_box rfl 41 (.tmp 4) (.tmp 30) rfl (w.heap.size + 1) #[.slice none 0 0, .int .i64 0] rfl rfl 41 _ HR1.out info_trl rfl (tc_one _ _ _ _) ?_; intro wz hxz huz hzz; have HZZ := Lib.hid hzz; clear hzz)
    refine bodyPost_ret (results_btt rfl (Back.mk' (w.heap.size + 1) 41 _ rfl hxz Tryz.underlying41 rfl info_trl)) rfl ?_
    exact goOut_err HL.out rfl (by decide) rfl (HU1.out.trans (huz.own (by omega) HU1.out.size))
  have d1 : decide (n < -AT) = false := decide_eq_false y1
  by_cases y2 : (N : Int) - AT ≤ n
  · have d2 : decide (n ≥ (N : Int) - AT) = true := decide_eq_true y2
    have d3 : decide ((N : Int) - AT ≤ n) = true := decide_eq_true y2
    have HL := Lib.hid (go_none (n := n) HCK0.out (.inr (by rw [HAT.out, HNN.out]; exact y2)))
    clear y2
    go_wp2_with (refine wpList_store_box rfl 41 (.tmp 4) (.tmp 30) rfl (w.heap.size + 1) #[.slice none 0 0, .int .i64 0] rfl rfl 41 _ HR1.out info_trl rfl (tc_one _ _ _ _) ?_; intro wz hxz huz hzz; have HZZ := Lib.hid hzz; clear hzz)
    refine bodyPost_ret (results_btt rfl (Back.mk' (w.heap.size + 1) 41 _ rfl hxz Tryz.underlying41 rfl info_trl)) rfl ?_
    exact goOut_err HL.out rfl (by decide) rfl (HU1.out.trans (huz.own (by omega) HU1.out.size))
  have d2 : decide (n ≥ (N : Int) - AT) = false := decide_eq_false y2
  have d3 : decide ((N : Int) - AT ≤ n) = false := decide_eq_false y2
  have hs0 : 0 ≤ AT + n := by omega
  have hs1 : AT + n < (N : Int) := by omega
  have HGO := Lib.hid (Traily.go_of HRI.out (n := n) (by rw [HAT.out]; omega) (by rw [HAT.out, HNN.out]; omega))
  rw [HAT.out] at HGO
  have HRO : Hid (Traily.Right ⟨t.ents, AT + n⟩) := Lib.hid (by have h := (Traily.go_form HGO.out).2.2.2.2.2; exact h)
  have HVE2 : Hid (Value.slice A N cap = v) := Lib.hid (by rw [← HNN.out]; exact HVE.out)
  clear y1 y2
  go_upto_region 6 with (fail)
  have hzb : w.heap.size < w1.heap.size := HB1.out.lt
  refine wp_region_held_drew (S := fun w' => Below w1.heap.size w1 w' ∧ w'.cell? ⟨w.heap.size, 0, none⟩ = some (.slice A N cap) ∧ w'.cell? ⟨w.heap.size, 1, none⟩ = some (.int .i64 AT)) (by kernel_rfl) ⟨(Below.refl _ w1).drew, c0, c1⟩ (fun hHeld => ?_)
  refine wpAnyH_take (i := 0) (v := ?_) rfl (by kernel_rfl) (by kernel_rfl) (by kernel_rfl) (fun _ _ _ h => h) (Or.inl ⟨by kernel_rfl, ?_⟩) (by assumption) ?_
  rotate_left
  · intro w hSw
    (try dsimp only at hSw)
    go_simp
    try (with_reducible rfl)
  (try simp only [Act.put, List.getElem_toArray, List.getElem_cons_zero, List.setIfInBounds_toArray, List.set_cons_zero, List.set_cons_succ])
  refine wpAnyH_take (i := 1) (v := ?_) rfl (by kernel_rfl) (by kernel_rfl) (by kernel_rfl) (fun _ _ _ h => h) (Or.inl ⟨by kernel_rfl, ?_⟩) (by assumption) ?_
  rotate_left
  · intro w hSw
    (try dsimp only at hSw)
    go_simp
    try (with_reducible rfl)
  (try simp only [Act.put, List.getElem_toArray, List.getElem_cons_succ, List.getElem_cons_zero, List.setIfInBounds_toArray, List.set_cons_zero, List.set_cons_succ])
  refine wpAnyH_take (i := 3) (v := ?_) rfl (by kernel_rfl) (by kernel_rfl) (by kernel_rfl) (fun _ _ _ h => h) (Or.inl ⟨by kernel_rfl, ?_⟩) (by assumption) ?_
  rotate_left
  · intro w hSw
    (try dsimp only at hSw)
    go_simp
    try (with_reducible rfl)
  (try simp only [Act.put, List.getElem_toArray, List.getElem_cons_succ, List.getElem_cons_zero, List.setIfInBounds_toArray, List.set_cons_zero, List.set_cons_succ])
  refine wpAnyH_take (i := 4) (v := ?_) rfl (by kernel_rfl) (by kernel_rfl) (by kernel_rfl) (fun _ _ _ h => h) (Or.inl ⟨by kernel_rfl, ?_⟩) (by assumption) ?_
  rotate_left
  · intro w hSw
    (try dsimp only at hSw)
    go_simp
    try (with_reducible rfl)
  (try simp only [Act.put, List.getElem_toArray, List.getElem_cons_succ, List.getElem_cons_zero, List.setIfInBounds_toArray, List.set_cons_zero, List.set_cons_succ])
  refine wpAnyH_take (i := 5) (v := ?_) rfl (by kernel_rfl) (by kernel_rfl) (by kernel_rfl) (fun _ _ _ h => h) (Or.inl ⟨by kernel_rfl, ?_⟩) (by assumption) ?_
  rotate_left
  · intro w hSw
    (try dsimp only at hSw)
    go_simp
    try (with_reducible rfl)
  (try simp only [Act.put, List.getElem_toArray, List.getElem_cons_succ, List.getElem_cons_zero, List.setIfInBounds_toArray, List.set_cons_zero, List.set_cons_succ])
  refine wpAnyH_take (i := 6) (v := .int .i64 (AT + n)) rfl (by kernel_rfl) (by kernel_rfl) (by kernel_rfl) (fun _ _ _ h => h) (Or.inl ⟨by kernel_rfl, ?_⟩) (by assumption) ?_
  · intro w hSw
    go_simp
    rw [IntKind.wrap_i64]; omega
  (try simp only [Act.put, List.getElem_toArray, List.getElem_cons_succ, List.getElem_cons_zero, List.setIfInBounds_toArray, List.set_cons_zero, List.set_cons_succ])
  obtain ⟨ua, hua⟩ : ∃ ua, w1.drew = ua := ⟨_, rfl⟩
  rw [hua] at hHeld
  (try rw [hua])
  clear hua c0 c1
  have zua : w1.heap.size ≤ ua.heap.size := hHeld.1.size
  refine wpAnyH_ready (rs := [2, 8]) (by kernel_rfl) (by simp) ?_
  refine AllReadyH.cons rfl (fun K hK => ?_) (AllReadyH.cons rfl (fun K hK => ?_) AllReadyH.nil)
  · go_simp
    rw [HVE2.out]
    refine (HCC.out _ (HU1.out.trans (hHeld.1.mono HU1.out.size))).mono ?_
    rintro e u6w ⟨u6, rfl, hown6, hbb6⟩
    have hb6 := hbb6.mono zua
    have z6 : w1.heap.size ≤ u6w.heap.size := Nat.le_trans zua hbb6.size
    have HO6 := Lib.hid (own_base hown6 zua)
    have HL6 := Lib.hid hown6.lt
    obtain ⟨A6, cap6, rfl⟩ := own_slice hown6
    clear hown6
    go_wp2_with (fail)
    refine hK.out _ _ ?_ (fun hHeld => ?_)
    · exact ⟨hHeld.1.trans (hb6), ((hb6).cell (p := ⟨w.heap.size, 0, none⟩) (by show w.heap.size < _; omega)).trans hHeld.2.1, ((hb6).cell (p := ⟨w.heap.size, 1, none⟩) (by show w.heap.size < _; omega)).trans hHeld.2.2⟩
    clear hK K
    (try simp only [Act.put, List.getElem_toArray, List.getElem_cons_succ, List.getElem_cons_zero, List.setIfInBounds_toArray, List.set_cons_zero, List.set_cons_succ])
    refine wpAnyH_take (i := 7) (v := ?_) rfl (by kernel_rfl) (by kernel_rfl) (by kernel_rfl) (fun _ _ _ h => h) (Or.inl ⟨by kernel_rfl, ?_⟩) (by assumption) ?_
    rotate_left
    · intro w hSw
      (try dsimp only at hSw)
      go_simp
      try (with_reducible rfl)
    (try simp only [Act.put, List.getElem_toArray, List.getElem_cons_succ, List.getElem_cons_zero, List.setIfInBounds_toArray, List.set_cons_zero, List.set_cons_succ])
    refine wpAnyH_ready (rs := [8]) (by kernel_rfl) (by simp) ?_
    refine AllReadyH.cons rfl (fun K hK => ?_) AllReadyH.nil
    go_simp
    have bx8 := Box.new u6w 41 #[.slice none 0 0, .int .i64 0]
    have hbb8 : Below u6w.heap.size u6w (u6w.alloc (.cells #[.slice none 0 0, .int .i64 0] 41)) := below1 u6w _
    obtain ⟨u8w, hw8⟩ : ∃ u8w, (u6w.alloc (.cells #[.slice none 0 0, .int .i64 0] 41)) = u8w := ⟨_, rfl⟩
    rw [hw8] at bx8 hbb8
    rw [hw8]
    clear hw8
    have hb8 := hbb8.mono z6
    have z8 : w1.heap.size ≤ u8w.heap.size := Nat.le_trans z6 hbb8.size
    refine hK.out _ _ ⟨hHeld.1.trans (hb8), ((hb8).cell (p := ⟨w.heap.size, 0, none⟩) (by show w.heap.size < _; omega)).trans hHeld.2.1, ((hb8).cell (p := ⟨w.heap.size, 1, none⟩) (by show w.heap.size < _; omega)).trans hHeld.2.2⟩ (fun hHeld => ?_)
    clear hK K
    (try simp only [Act.put, List.getElem_toArray, List.getElem_cons_succ, List.getElem_cons_zero, List.setIfInBounds_toArray, List.set_cons_zero, List.set_cons_succ])
    have HO8 := Lib.hid (own_below HO6.out hbb8)
    have had : Hid (w1.heap.size ≤ u6w.heap.size) := Lib.hid z6
    refine wpAnyH_ready (rs := [9]) (by kernel_rfl) (by simp) ?_
    refine AllReadyH.cons rfl (fun K hK => ?_) AllReadyH.nil
    refine step_store_box rfl 41 (.tmp 8) (.tmp 38) rfl (u6w.heap.size) #[(.slice A6 t.ents.length cap6), .int .i64 (AT + n)] rfl rfl 41 _ bx8 info_trl rfl (tc_own _ HO8.out) ?_
    intro w9 hx9 hu9 hz9
    have HZ9 := Lib.hid hz9
    have hb9 : Below w1.heap.size u8w w9 := hu9.own (by first | exact z6 | omega) (by first | exact hHeld.1.size | omega)
    have HO9 : Hid (w9.ownsRow w1.heap.size 48 3 (.slice A6 t.ents.length cap6) t.ents.length (flat ec t.ents)) := Lib.hid (own_grown HO8.out hu9 (.inr (fun ee => by have := (HL6.out _ ee).2; omega)))
    refine hK.out _ _ ⟨hHeld.1.trans (hb9), ((hb9).cell (p := ⟨w.heap.size, 0, none⟩) (by show w.heap.size < _; omega)).trans hHeld.2.1, ((hb9).cell (p := ⟨w.heap.size, 1, none⟩) (by show w.heap.size < _; omega)).trans hHeld.2.2⟩ (fun hHeld => ?_)
    clear hK K
    (try simp only [Act.put, List.getElem_toArray, List.getElem_cons_succ, List.getElem_cons_zero, List.setIfInBounds_toArray, List.set_cons_zero, List.set_cons_succ])
    refine wpAnyH_done (by kernel_rfl) ?_ _
    have HU9 := Lib.hid (HU1.out.trans (hHeld.1.mono HU1.out.size))
    have HB9 := Lib.hid (HB1.out.below hHeld.1 HB1.out.lt)
    have HR9 := Lib.hid (HR1.out.below hHeld.1 HR1.out.lt)
    have HX9 : Hid (Box w9 (u6w.heap.size) 41 (tc (.slice A6 t.ents.length cap6) (AT + n))) := Lib.hid hx9
    obtain ⟨ad, had⟩ : ∃ ad, u6w.heap.size = ad := ⟨_, rfl⟩
    have hadz : w1.heap.size ≤ ad := by rw [← had]; omega
    have hzr1 := HR1.out.lt
    rw [had] at HX9
    rw [had]
    have HHO2 := Lib.hid (HHO.out ⟨t.ents, AT + n⟩ (.slice A6 t.ents.length cap6))
    obtain ⟨D1, hD1⟩ : ∃ d, (Traily.here ⟨t.ents, AT + n⟩).doc = d := ⟨_, rfl⟩
    obtain ⟨E1, hE1⟩ : ∃ d, byt (Traily.here ⟨t.ents, AT + n⟩).state = d := ⟨_, rfl⟩
    obtain ⟨F1, hF1⟩ : ∃ d, byt (Traily.here ⟨t.ents, AT + n⟩).url = d := ⟨_, rfl⟩
    obtain ⟨D2, hD2⟩ : ∃ d, (Traily.here t).doc = d := ⟨_, rfl⟩
    obtain ⟨E2, hE2⟩ : ∃ d, byt (Traily.here t).state = d := ⟨_, rfl⟩
    obtain ⟨F2, hF2⟩ : ∃ d, byt (Traily.here t).url = d := ⟨_, rfl⟩
    rw [hD1, hE1, hF1] at HHO2
    rw [hD2, hE2, hF2] at HHR
    rw [hD1, hD2] at HGO
    rw [HAT.out] at HHR HB9
    have hf1 := fun w => (field_ent F1 E1 D1 w).2
    have hf2 := fun w => (field_ent F2 E2 D2 w).2
    have HRR : Hid (∀ w', Below w9.heap.size w9 w' → TrRd w' ⟨t.ents, AT + n⟩ (.slice A6 t.ents.length cap6)) := Lib.hid (fun w' h => Rd.own (own_below HO9.out h))
    clear hD1 hE1 hF1 hD2 hE2 hF2 hHeld hx9 hu9 hb9 had
    by_cases y3 : D1 = D2
    · have hq : (D1 != D2) = false := by simp [y3]
      have HGG : Hid (Traily.go t n = .ok (⟨t.ents, AT + n⟩, false)) := Lib.hid (by rw [HGO.out]; simp [y3])
      clear y3
      go_upto_region 7 with (fail)
      have HKC : Hid (∀ wa wb : World, (Below w.heap.size w wa ∧ Box wa ad 41 (tc (.slice A6 t.ents.length cap6) (AT + n)) ∧ Box wa w.heap.size 41 (tc v AT) ∧ (∃ old : Array Value, old.size = 2 ∧ Box wa (w.heap.size + 1) 41 old) ∧ wa.ownsRow w1.heap.size 48 3 (.slice A6 t.ents.length cap6) t.ents.length (flat ec t.ents)) → Below wa.heap.size wa wb → (Below w.heap.size w wb ∧ Box wb ad 41 (tc (.slice A6 t.ents.length cap6) (AT + n)) ∧ Box wb w.heap.size 41 (tc v AT) ∧ (∃ old : Array Value, old.size = 2 ∧ Box wb (w.heap.size + 1) 41 old) ∧ wb.ownsRow w1.heap.size 48 3 (.slice A6 t.ents.length cap6) t.ents.length (flat ec t.ents))) := Lib.hid (fun wa wb h hb => ⟨h.1.trans (hb.mono h.1.size), h.2.1.below hb h.2.1.lt, h.2.2.1.below hb h.2.2.1.lt, (match h.2.2.2.1 with | ⟨old, h1, h2⟩ => ⟨old, h1, h2.below hb h2.lt⟩), own_below h.2.2.2.2 hb⟩)
      refine wp_region_held_drew (S := fun w' => Below w.heap.size w w' ∧ Box w' ad 41 (tc (.slice A6 t.ents.length cap6) (AT + n)) ∧ Box w' w.heap.size 41 (tc v AT) ∧ (∃ old : Array Value, old.size = 2 ∧ Box w' (w.heap.size + 1) 41 old) ∧ w'.ownsRow w1.heap.size 48 3 (.slice A6 t.ents.length cap6) t.ents.length (flat ec t.ents)) (by kernel_rfl) ⟨HU9.out.drew, Box.drew HX9.out, Box.drew HB9.out, ⟨_, rfl, Box.drew HR9.out⟩, own_below HO9.out (Below.refl _ w9).drew⟩ (fun hHeld => ?_)
      refine wpAnyH_take (i := 0) (v := _) rfl (by kernel_rfl) (by kernel_rfl) (by kernel_rfl) (fun _ _ _ h => h) (yields_load_box (by kernel_rfl) 41 (.tmp 8) rfl (ad) 41 ((tc (.slice A6 t.ents.length cap6) (AT + n))) _ rfl (fun _ h => h.2.1) Tryz.underlying41 rfl info_trl) (by assumption) ?_
      (try simp only [Act.put, List.getElem_toArray, List.getElem_cons_succ, List.getElem_cons_zero, List.setIfInBounds_toArray, List.set_cons_zero, List.set_cons_succ])
      refine wpAnyH_take (i := 1) (v := _) rfl (by kernel_rfl) (by kernel_rfl) (by kernel_rfl) (fun _ _ _ h => h) (yields_load_box (by kernel_rfl) 41 (.tmp 8) rfl (ad) 41 ((tc (.slice A6 t.ents.length cap6) (AT + n))) _ rfl (fun _ h => h.2.1) Tryz.underlying41 rfl info_trl) (by assumption) ?_
      (try simp only [Act.put, List.getElem_toArray, List.getElem_cons_succ, List.getElem_cons_zero, List.setIfInBounds_toArray, List.set_cons_zero, List.set_cons_succ])
      refine wpAnyH_take (i := 4) (v := _) rfl (by kernel_rfl) (by kernel_rfl) (by kernel_rfl) (fun _ _ _ h => h) (yields_load_box (by kernel_rfl) 41 (.tmp 2) rfl (w.heap.size) 41 ((tc v AT)) _ rfl (fun _ h => h.2.2.1) Tryz.underlying41 rfl info_trl) (by assumption) ?_
      (try simp only [Act.put, List.getElem_toArray, List.getElem_cons_succ, List.getElem_cons_zero, List.setIfInBounds_toArray, List.set_cons_zero, List.set_cons_succ])
      refine wpAnyH_ready (rs := [2]) (by kernel_rfl) (by simp) ?_
      refine AllReadyH.cons rfl (fun K hK => ?_) AllReadyH.nil
      go_simp
      refine (HHO2.out _ HRO.out (Rd.own hHeld.2.2.2.2)).mono ?_
      rintro e w5 ⟨rfl, hb5⟩
      go_wp2_with (fail)
      refine hK.out _ _ ?_ (fun hHeld => ?_)
      · exact HKC.out _ _ hHeld hb5
      clear hK K
      (try simp only [Act.put, List.getElem_toArray, List.getElem_cons_succ, List.getElem_cons_zero, List.setIfInBounds_toArray, List.set_cons_zero, List.set_cons_succ])
      refine wpAnyH_take (i := 3) (v := ?_) rfl (by kernel_rfl) (by kernel_rfl) (by kernel_rfl) (fun _ _ _ h => h) (Or.inl ⟨by kernel_rfl, ?_⟩) (by assumption) ?_
      rotate_left
      · intro w hSw
        (try dsimp only at hSw)
        go_simp
        try (with_reducible rfl)
      (try simp only [Act.put, List.getElem_toArray, List.getElem_cons_succ, List.getElem_cons_zero, List.setIfInBounds_toArray, List.set_cons_zero, List.set_cons_succ])
      refine wpAnyH_ready (rs := [5]) (by kernel_rfl) (by simp) ?_
      refine AllReadyH.cons rfl (fun K hK => ?_) AllReadyH.nil
      go_simp
      refine (HHR.out _ hHeld.1).mono ?_
      rintro e w5 ⟨rfl, hb5⟩
      go_wp2_with (fail)
      refine hK.out _ _ ?_ (fun hHeld => ?_)
      · exact HKC.out _ _ hHeld hb5
      clear hK K
      (try simp only [Act.put, List.getElem_toArray, List.getElem_cons_succ, List.getElem_cons_zero, List.setIfInBounds_toArray, List.set_cons_zero, List.set_cons_succ])
      refine wpAnyH_take (i := 6) (v := ?_) rfl (by kernel_rfl) (by kernel_rfl) (by kernel_rfl) (fun _ _ _ h => h) (Or.inl ⟨by kernel_rfl, ?_⟩) (by assumption) ?_
      rotate_left
      · intro w hSw
        (try dsimp only at hSw)
        go_simp
        try (with_reducible rfl)
      (try simp only [Act.put, List.getElem_toArray, List.getElem_cons_succ, List.getElem_cons_zero, List.setIfInBounds_toArray, List.set_cons_zero, List.set_cons_succ])
      refine wpAnyH_take (i := 7) (v := ?_) rfl (by kernel_rfl) (by kernel_rfl) (by kernel_rfl) (fun _ _ _ h => h) (Or.inl ⟨by kernel_rfl, ?_⟩) (by assumption) ?_
      rotate_left
      · intro w hSw
        (try dsimp only at hSw)
        go_simp
        try (with_reducible rfl)
      (try simp only [Act.put, List.getElem_toArray, List.getElem_cons_succ, List.getElem_cons_zero, List.setIfInBounds_toArray, List.set_cons_zero, List.set_cons_succ])
      obtain ⟨old, hod, hbo⟩ := hHeld.2.2.2.1
      refine wpAnyH_ready (rs := [8]) (by kernel_rfl) (by simp) ?_
      refine AllReadyH.cons rfl (fun K hK => ?_) AllReadyH.nil
      refine step_store_box rfl 41 (.tmp 4) (.tmp 39) rfl (w.heap.size + 1) (tc (.slice A6 t.ents.length cap6) (AT + n)) rfl rfl 41 old hbo info_trl hod (tc_own _ HO9.out) ?_
      intro w8 hxz hu8 hz8
      have HZ8 := Lib.hid hz8
      refine hK.out _ _ ⟨hHeld.1.trans (hu8.own (by omega) hHeld.1.size), Box.grown hHeld.2.1 hu8 (by intro h; injection h with h; omega), Box.grown hHeld.2.2.1 hu8 (by intro h; injection h with h; omega), ⟨_, rfl, hxz⟩, own_far hHeld.2.2.2.2 hu8 (by omega)⟩ (fun hHeld => ?_)
      clear hK K
      (try simp only [Act.put, List.getElem_toArray, List.getElem_cons_succ, List.getElem_cons_zero, List.setIfInBounds_toArray, List.set_cons_zero, List.set_cons_succ])
      refine wpAnyH_take (i := 9) (v := ?_) rfl (by kernel_rfl) (by kernel_rfl) (by kernel_rfl) (fun _ _ _ h => h) (Or.inl ⟨by kernel_rfl, ?_⟩) (by assumption) ?_
      rotate_left
      · intro w hSw
        (try dsimp only at hSw)
        go_simp
        try (with_reducible rfl)
      (try simp only [Act.put, List.getElem_toArray, List.getElem_cons_succ, List.getElem_cons_zero, List.setIfInBounds_toArray, List.set_cons_zero, List.set_cons_succ])
      refine wpAnyH_take (i := 10) (v := ?_) rfl (by kernel_rfl) (by kernel_rfl) (by kernel_rfl) (fun _ _ _ h => h) (Or.inl ⟨by kernel_rfl, ?_⟩) (by assumption) ?_
      rotate_left
      · intro w hSw
        (try dsimp only at hSw)
        go_simp
        try (with_reducible rfl)
      (try simp only [Act.put, List.getElem_toArray, List.getElem_cons_succ, List.getElem_cons_zero, List.setIfInBounds_toArray, List.set_cons_zero, List.set_cons_succ])
      refine wpAnyH_done (by kernel_rfl) ?_ _
      have hzq := HR1.out.lt
      go_wp2
      refine bodyPost_ret (results_btt rfl (Back.mk' (w.heap.size + 1) 41 _ rfl hxz Tryz.underlying41 rfl info_trl)) rfl ?_
      exact .inl ⟨_, false, (.slice A6 t.ents.length cap6), HGG.out, rfl, own_base hHeld.2.2.2.2 (by have := HU1.out.size; omega), hHeld.1⟩
    · have hq : (D1 != D2) = true := by simp [y3]
      have HGG : Hid (Traily.go t n = .ok (⟨t.ents, AT + n⟩, true)) := Lib.hid (by rw [HGO.out]; simp [y3])
      clear y3
      go_upto_region 7 with (fail)
      have HKC : Hid (∀ wa wb : World, (Below w.heap.size w wa ∧ Box wa ad 41 (tc (.slice A6 t.ents.length cap6) (AT + n)) ∧ Box wa w.heap.size 41 (tc v AT) ∧ (∃ old : Array Value, old.size = 2 ∧ Box wa (w.heap.size + 1) 41 old) ∧ wa.ownsRow w1.heap.size 48 3 (.slice A6 t.ents.length cap6) t.ents.length (flat ec t.ents)) → Below wa.heap.size wa wb → (Below w.heap.size w wb ∧ Box wb ad 41 (tc (.slice A6 t.ents.length cap6) (AT + n)) ∧ Box wb w.heap.size 41 (tc v AT) ∧ (∃ old : Array Value, old.size = 2 ∧ Box wb (w.heap.size + 1) 41 old) ∧ wb.ownsRow w1.heap.size 48 3 (.slice A6 t.ents.length cap6) t.ents.length (flat ec t.ents))) := Lib.hid (fun wa wb h hb => ⟨h.1.trans (hb.mono h.1.size), h.2.1.below hb h.2.1.lt, h.2.2.1.below hb h.2.2.1.lt, (match h.2.2.2.1 with | ⟨old, h1, h2⟩ => ⟨old, h1, h2.below hb h2.lt⟩), own_below h.2.2.2.2 hb⟩)
      refine wp_region_held_drew (S := fun w' => Below w.heap.size w w' ∧ Box w' ad 41 (tc (.slice A6 t.ents.length cap6) (AT + n)) ∧ Box w' w.heap.size 41 (tc v AT) ∧ (∃ old : Array Value, old.size = 2 ∧ Box w' (w.heap.size + 1) 41 old) ∧ w'.ownsRow w1.heap.size 48 3 (.slice A6 t.ents.length cap6) t.ents.length (flat ec t.ents)) (by kernel_rfl) ⟨HU9.out.drew, Box.drew HX9.out, Box.drew HB9.out, ⟨_, rfl, Box.drew HR9.out⟩, own_below HO9.out (Below.refl _ w9).drew⟩ (fun hHeld => ?_)
      refine wpAnyH_take (i := 0) (v := _) rfl (by kernel_rfl) (by kernel_rfl) (by kernel_rfl) (fun _ _ _ h => h) (yields_load_box (by kernel_rfl) 41 (.tmp 8) rfl (ad) 41 ((tc (.slice A6 t.ents.length cap6) (AT + n))) _ rfl (fun _ h => h.2.1) Tryz.underlying41 rfl info_trl) (by assumption) ?_
      (try simp only [Act.put, List.getElem_toArray, List.getElem_cons_succ, List.getElem_cons_zero, List.setIfInBounds_toArray, List.set_cons_zero, List.set_cons_succ])
      refine wpAnyH_take (i := 1) (v := _) rfl (by kernel_rfl) (by kernel_rfl) (by kernel_rfl) (fun _ _ _ h => h) (yields_load_box (by kernel_rfl) 41 (.tmp 8) rfl (ad) 41 ((tc (.slice A6 t.ents.length cap6) (AT + n))) _ rfl (fun _ h => h.2.1) Tryz.underlying41 rfl info_trl) (by assumption) ?_
      (try simp only [Act.put, List.getElem_toArray, List.getElem_cons_succ, List.getElem_cons_zero, List.setIfInBounds_toArray, List.set_cons_zero, List.set_cons_succ])
      refine wpAnyH_take (i := 4) (v := _) rfl (by kernel_rfl) (by kernel_rfl) (by kernel_rfl) (fun _ _ _ h => h) (yields_load_box (by kernel_rfl) 41 (.tmp 2) rfl (w.heap.size) 41 ((tc v AT)) _ rfl (fun _ h => h.2.2.1) Tryz.underlying41 rfl info_trl) (by assumption) ?_
      (try simp only [Act.put, List.getElem_toArray, List.getElem_cons_succ, List.getElem_cons_zero, List.setIfInBounds_toArray, List.set_cons_zero, List.set_cons_succ])
      refine wpAnyH_ready (rs := [2]) (by kernel_rfl) (by simp) ?_
      refine AllReadyH.cons rfl (fun K hK => ?_) AllReadyH.nil
      go_simp
      refine (HHO2.out _ HRO.out (Rd.own hHeld.2.2.2.2)).mono ?_
      rintro e w5 ⟨rfl, hb5⟩
      go_wp2_with (fail)
      refine hK.out _ _ ?_ (fun hHeld => ?_)
      · exact HKC.out _ _ hHeld hb5
      clear hK K
      (try simp only [Act.put, List.getElem_toArray, List.getElem_cons_succ, List.getElem_cons_zero, List.setIfInBounds_toArray, List.set_cons_zero, List.set_cons_succ])
      refine wpAnyH_take (i := 3) (v := ?_) rfl (by kernel_rfl) (by kernel_rfl) (by kernel_rfl) (fun _ _ _ h => h) (Or.inl ⟨by kernel_rfl, ?_⟩) (by assumption) ?_
      rotate_left
      · intro w hSw
        (try dsimp only at hSw)
        go_simp
        try (with_reducible rfl)
      (try simp only [Act.put, List.getElem_toArray, List.getElem_cons_succ, List.getElem_cons_zero, List.setIfInBounds_toArray, List.set_cons_zero, List.set_cons_succ])
      refine wpAnyH_ready (rs := [5]) (by kernel_rfl) (by simp) ?_
      refine AllReadyH.cons rfl (fun K hK => ?_) AllReadyH.nil
      go_simp
      refine (HHR.out _ hHeld.1).mono ?_
      rintro e w5 ⟨rfl, hb5⟩
      go_wp2_with (fail)
      refine hK.out _ _ ?_ (fun hHeld => ?_)
      · exact HKC.out _ _ hHeld hb5
      clear hK K
      (try simp only [Act.put, List.getElem_toArray, List.getElem_cons_succ, List.getElem_cons_zero, List.setIfInBounds_toArray, List.set_cons_zero, List.set_cons_succ])
      refine wpAnyH_take (i := 6) (v := ?_) rfl (by kernel_rfl) (by kernel_rfl) (by kernel_rfl) (fun _ _ _ h => h) (Or.inl ⟨by kernel_rfl, ?_⟩) (by assumption) ?_
      rotate_left
      · intro w hSw
        (try dsimp only at hSw)
        go_simp
        try (with_reducible rfl)
      (try simp only [Act.put, List.getElem_toArray, List.getElem_cons_succ, List.getElem_cons_zero, List.setIfInBounds_toArray, List.set_cons_zero, List.set_cons_succ])
      refine wpAnyH_take (i := 7) (v := ?_) rfl (by kernel_rfl) (by kernel_rfl) (by kernel_rfl) (fun _ _ _ h => h) (Or.inl ⟨by kernel_rfl, ?_⟩) (by assumption) ?_
      rotate_left
      · intro w hSw
        (try dsimp only at hSw)
        go_simp
        try (with_reducible rfl)
      (try simp only [Act.put, List.getElem_toArray, List.getElem_cons_succ, List.getElem_cons_zero, List.setIfInBounds_toArray, List.set_cons_zero, List.set_cons_succ])
      obtain ⟨old, hod, hbo⟩ := hHeld.2.2.2.1
      refine wpAnyH_ready (rs := [8]) (by kernel_rfl) (by simp) ?_
      refine AllReadyH.cons rfl (fun K hK => ?_) AllReadyH.nil
      refine step_store_box rfl 41 (.tmp 4) (.tmp 39) rfl (w.heap.size + 1) (tc (.slice A6 t.ents.length cap6) (AT + n)) rfl rfl 41 old hbo info_trl hod (tc_own _ HO9.out) ?_
      intro w8 hxz hu8 hz8
      have HZ8 := Lib.hid hz8
      refine hK.out _ _ ⟨hHeld.1.trans (hu8.own (by omega) hHeld.1.size), Box.grown hHeld.2.1 hu8 (by intro h; injection h with h; omega), Box.grown hHeld.2.2.1 hu8 (by intro h; injection h with h; omega), ⟨_, rfl, hxz⟩, own_far hHeld.2.2.2.2 hu8 (by omega)⟩ (fun hHeld => ?_)
      clear hK K
      (try simp only [Act.put, List.getElem_toArray, List.getElem_cons_succ, List.getElem_cons_zero, List.setIfInBounds_toArray, List.set_cons_zero, List.set_cons_succ])
      refine wpAnyH_take (i := 9) (v := ?_) rfl (by kernel_rfl) (by kernel_rfl) (by kernel_rfl) (fun _ _ _ h => h) (Or.inl ⟨by kernel_rfl, ?_⟩) (by assumption) ?_
      rotate_left
      · intro w hSw
        (try dsimp only at hSw)
        go_simp
        try (with_reducible rfl)
      (try simp only [Act.put, List.getElem_toArray, List.getElem_cons_succ, List.getElem_cons_zero, List.setIfInBounds_toArray, List.set_cons_zero, List.set_cons_succ])
      refine wpAnyH_take (i := 10) (v := ?_) rfl (by kernel_rfl) (by kernel_rfl) (by kernel_rfl) (fun _ _ _ h => h) (Or.inl ⟨by kernel_rfl, ?_⟩) (by assumption) ?_
      rotate_left
      · intro w hSw
        (try dsimp only at hSw)
        go_simp
        try (with_reducible rfl)
      (try simp only [Act.put, List.getElem_toArray, List.getElem_cons_succ, List.getElem_cons_zero, List.setIfInBounds_toArray, List.set_cons_zero, List.set_cons_succ])
      refine wpAnyH_done (by kernel_rfl) ?_ _
      have hzq := HR1.out.lt
      go_wp2
      refine bodyPost_ret (results_btt rfl (Back.mk' (w.heap.size + 1) 41 _ rfl hxz Tryz.underlying41 rfl info_trl)) rfl ?_
      exact .inl ⟨_, true, (.slice A6 t.ents.length cap6), HGG.out, rfl, own_base hHeld.2.2.2.2 (by have := HU1.out.size; omega), hHeld.1⟩
  · go_simp
    have bx8 := Box.new ua 41 #[.slice none 0 0, .int .i64 0]
    have hbb8 : Below ua.heap.size ua (ua.alloc (.cells #[.slice none 0 0, .int .i64 0] 41)) := below1 ua _
    obtain ⟨u8w, hw8⟩ : ∃ u8w, (ua.alloc (.cells #[.slice none 0 0, .int .i64 0] 41)) = u8w := ⟨_, rfl⟩
    rw [hw8] at bx8 hbb8
    rw [hw8]
    clear hw8
    have hb8 := hbb8.mono zua
    have z8 : w1.heap.size ≤ u8w.heap.size := Nat.le_trans zua hbb8.size
    refine hK.out _ _ ⟨hHeld.1.trans (hb8), ((hb8).cell (p := ⟨w.heap.size, 0, none⟩) (by show w.heap.size < _; omega)).trans hHeld.2.1, ((hb8).cell (p := ⟨w.heap.size, 1, none⟩) (by show w.heap.size < _; omega)).trans hHeld.2.2⟩ (fun hHeld => ?_)
    clear hK K
    (try simp only [Act.put, List.getElem_toArray, List.getElem_cons_succ, List.getElem_cons_zero, List.setIfInBounds_toArray, List.set_cons_zero, List.set_cons_succ])
    refine wpAnyH_ready (rs := [2]) (by kernel_rfl) (by simp) ?_
    refine AllReadyH.cons rfl (fun K hK => ?_) AllReadyH.nil
    go_simp
    rw [HVE2.out]
    refine (HCC.out _ (HU1.out.trans (hHeld.1.mono HU1.out.size))).mono ?_
    rintro e u6w ⟨u6, rfl, hown6, hbb6⟩
    have hb6 := hbb6.mono z8
    have z6 : w1.heap.size ≤ u6w.heap.size := Nat.le_trans z8 hbb6.size
    have HO6 := Lib.hid (own_base hown6 z8)
    have HL6 := Lib.hid hown6.lt
    obtain ⟨A6, cap6, rfl⟩ := own_slice hown6
    clear hown6
    go_wp2_with (fail)
    refine hK.out _ _ ?_ (fun hHeld => ?_)
    · exact ⟨hHeld.1.trans (hb6), ((hb6).cell (p := ⟨w.heap.size, 0, none⟩) (by show w.heap.size < _; omega)).trans hHeld.2.1, ((hb6).cell (p := ⟨w.heap.size, 1, none⟩) (by show w.heap.size < _; omega)).trans hHeld.2.2⟩
    clear hK K
    (try simp only [Act.put, List.getElem_toArray, List.getElem_cons_succ, List.getElem_cons_zero, List.setIfInBounds_toArray, List.set_cons_zero, List.set_cons_succ])
    refine wpAnyH_take (i := 7) (v := ?_) rfl (by kernel_rfl) (by kernel_rfl) (by kernel_rfl) (fun _ _ _ h => h) (Or.inl ⟨by kernel_rfl, ?_⟩) (by assumption) ?_
    rotate_left
    · intro w hSw
      (try dsimp only at hSw)
      go_simp
      try (with_reducible rfl)
    (try simp only [Act.put, List.getElem_toArray, List.getElem_cons_succ, List.getElem_cons_zero, List.setIfInBounds_toArray, List.set_cons_zero, List.set_cons_succ])
    have bx6 := bx8.below hbb6 bx8.lt
    have hlt8 := bx8.lt
    refine wpAnyH_ready (rs := [9]) (by kernel_rfl) (by simp) ?_
    refine AllReadyH.cons rfl (fun K hK => ?_) AllReadyH.nil
    refine step_store_box rfl 41 (.tmp 8) (.tmp 38) rfl (ua.heap.size) #[(.slice A6 t.ents.length cap6), .int .i64 (AT + n)] rfl rfl 41 _ bx6 info_trl rfl (tc_own _ HO6.out) ?_
    intro w9 hx9 hu9 hz9
    have HZ9 := Lib.hid hz9
    have hb9 : Below w1.heap.size u6w w9 := hu9.own (by first | exact zua | omega) (by first | exact hHeld.1.size | omega)
    have HO9 : Hid (w9.ownsRow w1.heap.size 48 3 (.slice A6 t.ents.length cap6) t.ents.length (flat ec t.ents)) := Lib.hid (own_grown HO6.out hu9 (.inr (fun ee => by have := (HL6.out _ ee).1; omega)))
    refine hK.out _ _ ⟨hHeld.1.trans (hb9), ((hb9).cell (p := ⟨w.heap.size, 0, none⟩) (by show w.heap.size < _; omega)).trans hHeld.2.1, ((hb9).cell (p := ⟨w.heap.size, 1, none⟩) (by show w.heap.size < _; omega)).trans hHeld.2.2⟩ (fun hHeld => ?_)
    clear hK K
    (try simp only [Act.put, List.getElem_toArray, List.getElem_cons_succ, List.getElem_cons_zero, List.setIfInBounds_toArray, List.set_cons_zero, List.set_cons_succ])
    refine wpAnyH_done (by kernel_rfl) ?_ _
    have HU9 := Lib.hid (HU1.out.trans (hHeld.1.mono HU1.out.size))
    have HB9 := Lib.hid (HB1.out.below hHeld.1 HB1.out.lt)
    have HR9 := Lib.hid (HR1.out.below hHeld.1 HR1.out.lt)
    have HX9 : Hid (Box w9 (ua.heap.size) 41 (tc (.slice A6 t.ents.length cap6) (AT + n))) := Lib.hid hx9
    obtain ⟨ad, had⟩ : ∃ ad, ua.heap.size = ad := ⟨_, rfl⟩
    have hadz : w1.heap.size ≤ ad := by rw [← had]; omega
    have hzr1 := HR1.out.lt
    rw [had] at HX9
    rw [had]
    have HHO2 := Lib.hid (HHO.out ⟨t.ents, AT + n⟩ (.slice A6 t.ents.length cap6))
    obtain ⟨D1, hD1⟩ : ∃ d, (Traily.here ⟨t.ents, AT + n⟩).doc = d := ⟨_, rfl⟩
    obtain ⟨E1, hE1⟩ : ∃ d, byt (Traily.here ⟨t.ents, AT + n⟩).state = d := ⟨_, rfl⟩
    obtain ⟨F1, hF1⟩ : ∃ d, byt (Traily.here ⟨t.ents, AT + n⟩).url = d := ⟨_, rfl⟩
    obtain ⟨D2, hD2⟩ : ∃ d, (Traily.here t).doc = d := ⟨_, rfl⟩
    obtain ⟨E2, hE2⟩ : ∃ d, byt (Traily.here t).state = d := ⟨_, rfl⟩
    obtain ⟨F2, hF2⟩ : ∃ d, byt (Traily.here t).url = d := ⟨_, rfl⟩
    rw [hD1, hE1, hF1] at HHO2
    rw [hD2, hE2, hF2] at HHR
    rw [hD1, hD2] at HGO
    rw [HAT.out] at HHR HB9
    have hf1 := fun w => (field_ent F1 E1 D1 w).2
    have hf2 := fun w => (field_ent F2 E2 D2 w).2
    have HRR : Hid (∀ w', Below w9.heap.size w9 w' → TrRd w' ⟨t.ents, AT + n⟩ (.slice A6 t.ents.length cap6)) := Lib.hid (fun w' h => Rd.own (own_below HO9.out h))
    clear hD1 hE1 hF1 hD2 hE2 hF2 hHeld hx9 hu9 hb9 had
    by_cases y3 : D1 = D2
    · have hq : (D1 != D2) = false := by simp [y3]
      have HGG : Hid (Traily.go t n = .ok (⟨t.ents, AT + n⟩, false)) := Lib.hid (by rw [HGO.out]; simp [y3])
      clear y3
      go_upto_region 7 with (fail)
      have HKC : Hid (∀ wa wb : World, (Below w.heap.size w wa ∧ Box wa ad 41 (tc (.slice A6 t.ents.length cap6) (AT + n)) ∧ Box wa w.heap.size 41 (tc v AT) ∧ (∃ old : Array Value, old.size = 2 ∧ Box wa (w.heap.size + 1) 41 old) ∧ wa.ownsRow w1.heap.size 48 3 (.slice A6 t.ents.length cap6) t.ents.length (flat ec t.ents)) → Below wa.heap.size wa wb → (Below w.heap.size w wb ∧ Box wb ad 41 (tc (.slice A6 t.ents.length cap6) (AT + n)) ∧ Box wb w.heap.size 41 (tc v AT) ∧ (∃ old : Array Value, old.size = 2 ∧ Box wb (w.heap.size + 1) 41 old) ∧ wb.ownsRow w1.heap.size 48 3 (.slice A6 t.ents.length cap6) t.ents.length (flat ec t.ents))) := Lib.hid (fun wa wb h hb => ⟨h.1.trans (hb.mono h.1.size), h.2.1.below hb h.2.1.lt, h.2.2.1.below hb h.2.2.1.lt, (match h.2.2.2.1 with | ⟨old, h1, h2⟩ => ⟨old, h1, h2.below hb h2.lt⟩), own_below h.2.2.2.2 hb⟩)
      refine wp_region_held_drew (S := fun w' => Below w.heap.size w w' ∧ Box w' ad 41 (tc (.slice A6 t.ents.length cap6) (AT + n)) ∧ Box w' w.heap.size 41 (tc v AT) ∧ (∃ old : Array Value, old.size = 2 ∧ Box w' (w.heap.size + 1) 41 old) ∧ w'.ownsRow w1.heap.size 48 3 (.slice A6 t.ents.length cap6) t.ents.length (flat ec t.ents)) (by kernel_rfl) ⟨HU9.out.drew, Box.drew HX9.out, Box.drew HB9.out, ⟨_, rfl, Box.drew HR9.out⟩, own_below HO9.out (Below.refl _ w9).drew⟩ (fun hHeld => ?_)
      refine wpAnyH_take (i := 0) (v := _) rfl (by kernel_rfl) (by kernel_rfl) (by kernel_rfl) (fun _ _ _ h => h) (yields_load_box (by kernel_rfl) 41 (.tmp 8) rfl (ad) 41 ((tc (.slice A6 t.ents.length cap6) (AT + n))) _ rfl (fun _ h => h.2.1) Tryz.underlying41 rfl info_trl) (by assumption) ?_
      (try simp only [Act.put, List.getElem_toArray, List.getElem_cons_succ, List.getElem_cons_zero, List.setIfInBounds_toArray, List.set_cons_zero, List.set_cons_succ])
      refine wpAnyH_take (i := 1) (v := _) rfl (by kernel_rfl) (by kernel_rfl) (by kernel_rfl) (fun _ _ _ h => h) (yields_load_box (by kernel_rfl) 41 (.tmp 8) rfl (ad) 41 ((tc (.slice A6 t.ents.length cap6) (AT + n))) _ rfl (fun _ h => h.2.1) Tryz.underlying41 rfl info_trl) (by assumption) ?_
      (try simp only [Act.put, List.getElem_toArray, List.getElem_cons_succ, List.getElem_cons_zero, List.setIfInBounds_toArray, List.set_cons_zero, List.set_cons_succ])
      refine wpAnyH_take (i := 4) (v := _) rfl (by kernel_rfl) (by kernel_rfl) (by kernel_rfl) (fun _ _ _ h => h) (yields_load_box (by kernel_rfl) 41 (.tmp 2) rfl (w.heap.size) 41 ((tc v AT)) _ rfl (fun _ h => h.2.2.1) Tryz.underlying41 rfl info_trl) (by assumption) ?_
      (try simp only [Act.put, List.getElem_toArray, List.getElem_cons_succ, List.getElem_cons_zero, List.setIfInBounds_toArray, List.set_cons_zero, List.set_cons_succ])
      refine wpAnyH_ready (rs := [2]) (by kernel_rfl) (by simp) ?_
      refine AllReadyH.cons rfl (fun K hK => ?_) AllReadyH.nil
      go_simp
      refine (HHO2.out _ HRO.out (Rd.own hHeld.2.2.2.2)).mono ?_
      rintro e w5 ⟨rfl, hb5⟩
      go_wp2_with (fail)
      refine hK.out _ _ ?_ (fun hHeld => ?_)
      · exact HKC.out _ _ hHeld hb5
      clear hK K
      (try simp only [Act.put, List.getElem_toArray, List.getElem_cons_succ, List.getElem_cons_zero, List.setIfInBounds_toArray, List.set_cons_zero, List.set_cons_succ])
      refine wpAnyH_take (i := 3) (v := ?_) rfl (by kernel_rfl) (by kernel_rfl) (by kernel_rfl) (fun _ _ _ h => h) (Or.inl ⟨by kernel_rfl, ?_⟩) (by assumption) ?_
      rotate_left
      · intro w hSw
        (try dsimp only at hSw)
        go_simp
        try (with_reducible rfl)
      (try simp only [Act.put, List.getElem_toArray, List.getElem_cons_succ, List.getElem_cons_zero, List.setIfInBounds_toArray, List.set_cons_zero, List.set_cons_succ])
      refine wpAnyH_ready (rs := [5]) (by kernel_rfl) (by simp) ?_
      refine AllReadyH.cons rfl (fun K hK => ?_) AllReadyH.nil
      go_simp
      refine (HHR.out _ hHeld.1).mono ?_
      rintro e w5 ⟨rfl, hb5⟩
      go_wp2_with (fail)
      refine hK.out _ _ ?_ (fun hHeld => ?_)
      · exact HKC.out _ _ hHeld hb5
      clear hK K
      (try simp only [Act.put, List.getElem_toArray, List.getElem_cons_succ, List.getElem_cons_zero, List.setIfInBounds_toArray, List.set_cons_zero, List.set_cons_succ])
      refine wpAnyH_take (i := 6) (v := ?_) rfl (by kernel_rfl) (by kernel_rfl) (by kernel_rfl) (fun _ _ _ h => h) (Or.inl ⟨by kernel_rfl, ?_⟩) (by assumption) ?_
      rotate_left
      · intro w hSw
        (try dsimp only at hSw)
        go_simp
        try (with_reducible rfl)
      (try simp only [Act.put, List.getElem_toArray, List.getElem_cons_succ, List.getElem_cons_zero, List.setIfInBounds_toArray, List.set_cons_zero, List.set_cons_succ])
      refine wpAnyH_take (i := 7) (v := ?_) rfl (by kernel_rfl) (by kernel_rfl) (by kernel_rfl) (fun _ _ _ h => h) (Or.inl ⟨by kernel_rfl, ?_⟩) (by assumption) ?_
      rotate_left
      · intro w hSw
        (try dsimp only at hSw)
        go_simp
        try (with_reducible rfl)
      (try simp only [Act.put, List.getElem_toArray, List.getElem_cons_succ, List.getElem_cons_zero, List.setIfInBounds_toArray, List.set_cons_zero, List.set_cons_succ])
      obtain ⟨old, hod, hbo⟩ := hHeld.2.2.2.1
      refine wpAnyH_ready (rs := [8]) (by kernel_rfl) (by simp) ?_
      refine AllReadyH.cons rfl (fun K hK => ?_) AllReadyH.nil
      refine step_store_box rfl 41 (.tmp 4) (.tmp 39) rfl (w.heap.size + 1) (tc (.slice A6 t.ents.length cap6) (AT + n)) rfl rfl 41 old hbo info_trl hod (tc_own _ HO9.out) ?_
      intro w8 hxz hu8 hz8
      have HZ8 := Lib.hid hz8
      refine hK.out _ _ ⟨hHeld.1.trans (hu8.own (by omega) hHeld.1.size), Box.grown hHeld.2.1 hu8 (by intro h; injection h with h; omega), Box.grown hHeld.2.2.1 hu8 (by intro h; injection h with h; omega), ⟨_, rfl, hxz⟩, own_far hHeld.2.2.2.2 hu8 (by omega)⟩ (fun hHeld => ?_)
      clear hK K
      (try simp only [Act.put, List.getElem_toArray, List.getElem_cons_succ, List.getElem_cons_zero, List.setIfInBounds_toArray, List.set_cons_zero, List.set_cons_succ])
      refine wpAnyH_take (i := 9) (v := ?_) rfl (by kernel_rfl) (by kernel_rfl) (by kernel_rfl) (fun _ _ _ h => h) (Or.inl ⟨by kernel_rfl, ?_⟩) (by assumption) ?_
      rotate_left
      · intro w hSw
        (try dsimp only at hSw)
        go_simp
        try (with_reducible rfl)
      (try simp only [Act.put, List.getElem_toArray, List.getElem_cons_succ, List.getElem_cons_zero, List.setIfInBounds_toArray, List.set_cons_zero, List.set_cons_succ])
      refine wpAnyH_take (i := 10) (v := ?_) rfl (by kernel_rfl) (by kernel_rfl) (by kernel_rfl) (fun _ _ _ h => h) (Or.inl ⟨by kernel_rfl, ?_⟩) (by assumption) ?_
      rotate_left
      · intro w hSw
        (try dsimp only at hSw)
        go_simp
        try (with_reducible rfl)
      (try simp only [Act.put, List.getElem_toArray, List.getElem_cons_succ, List.getElem_cons_zero, List.setIfInBounds_toArray, List.set_cons_zero, List.set_cons_succ])
      refine wpAnyH_done (by kernel_rfl) ?_ _
      have hzq := HR1.out.lt
      go_wp2
      refine bodyPost_ret (results_btt rfl (Back.mk' (w.heap.size + 1) 41 _ rfl hxz Tryz.underlying41 rfl info_trl)) rfl ?_
      exact .inl ⟨_, false, (.slice A6 t.ents.length cap6), HGG.out, rfl, own_base hHeld.2.2.2.2 (by have := HU1.out.size; omega), hHeld.1⟩
    · have hq : (D1 != D2) = true := by simp [y3]
      have HGG : Hid (Traily.go t n = .ok (⟨t.ents, AT + n⟩, true)) := Lib.hid (by rw [HGO.out]; simp [y3])
      clear y3
      go_upto_region 7 with (fail)
      have HKC : Hid (∀ wa wb : World, (Below w.heap.size w wa ∧ Box wa ad 41 (tc (.slice A6 t.ents.length cap6) (AT + n)) ∧ Box wa w.heap.size 41 (tc v AT) ∧ (∃ old : Array Value, old.size = 2 ∧ Box wa (w.heap.size + 1) 41 old) ∧ wa.ownsRow w1.heap.size 48 3 (.slice A6 t.ents.length cap6) t.ents.length (flat ec t.ents)) → Below wa.heap.size wa wb → (Below w.heap.size w wb ∧ Box wb ad 41 (tc (.slice A6 t.ents.length cap6) (AT + n)) ∧ Box wb w.heap.size 41 (tc v AT) ∧ (∃ old : Array Value, old.size = 2 ∧ Box wb (w.heap.size + 1) 41 old) ∧ wb.ownsRow w1.heap.size 48 3 (.slice A6 t.ents.length cap6) t.ents.length (flat ec t.ents))) := Lib.hid (fun wa wb h hb => ⟨h.1.trans (hb.mono h.1.size), h.2.1.below hb h.2.1.lt, h.2.2.1.below hb h.2.2.1.lt, (match h.2.2.2.1 with | ⟨old, h1, h2⟩ => ⟨old, h1, h2.below hb h2.lt⟩), own_below h.2.2.2.2 hb⟩)
      refine wp_region_held_drew (S := fun w' => Below w.heap.size w w' ∧ Box w' ad 41 (tc (.slice A6 t.ents.length cap6) (AT + n)) ∧ Box w' w.heap.size 41 (tc v AT) ∧ (∃ old : Array Value, old.size = 2 ∧ Box w' (w.heap.size + 1) 41 old) ∧ w'.ownsRow w1.heap.size 48 3 (.slice A6 t.ents.length cap6) t.ents.length (flat ec t.ents)) (by kernel_rfl) ⟨HU9.out.drew, Box.drew HX9.out, Box.drew HB9.out, ⟨_, rfl, Box.drew HR9.out⟩, own_below HO9.out (Below.refl _ w9).drew⟩ (fun hHeld => ?_)
      refine wpAnyH_take (i := 0) (v := _) rfl (by kernel_rfl) (by kernel_rfl) (by kernel_rfl) (fun _ _ _ h => h) (yields_load_box (by kernel_rfl) 41 (.tmp 8) rfl (ad) 41 ((tc (.slice A6 t.ents.length cap6) (AT + n))) _ rfl (fun _ h => h.2.1) Tryz.underlying41 rfl info_trl) (by assumption) ?_
      (try simp only [Act.put, List.getElem_toArray, List.getElem_cons_succ, List.getElem_cons_zero, List.setIfInBounds_toArray, List.set_cons_zero, List.set_cons_succ])
      refine wpAnyH_take (i := 1) (v := _) rfl (by kernel_rfl) (by kernel_rfl) (by kernel_rfl) (fun _ _ _ h => h) (yields_load_box (by kernel_rfl) 41 (.tmp 8) rfl (ad) 41 ((tc (.slice A6 t.ents.length cap6) (AT + n))) _ rfl (fun _ h => h.2.1) Tryz.underlying41 rfl info_trl) (by assumption) ?_
      (try simp only [Act.put, List.getElem_toArray, List.getElem_cons_succ, List.getElem_cons_zero, List.setIfInBounds_toArray, List.set_cons_zero, List.set_cons_succ])
      refine wpAnyH_take (i := 4) (v := _) rfl (by kernel_rfl) (by kernel_rfl) (by kernel_rfl) (fun _ _ _ h => h) (yields_load_box (by kernel_rfl) 41 (.tmp 2) rfl (w.heap.size) 41 ((tc v AT)) _ rfl (fun _ h => h.2.2.1) Tryz.underlying41 rfl info_trl) (by assumption) ?_
      (try simp only [Act.put, List.getElem_toArray, List.getElem_cons_succ, List.getElem_cons_zero, List.setIfInBounds_toArray, List.set_cons_zero, List.set_cons_succ])
      refine wpAnyH_ready (rs := [2]) (by kernel_rfl) (by simp) ?_
      refine AllReadyH.cons rfl (fun K hK => ?_) AllReadyH.nil
      go_simp
      refine (HHO2.out _ HRO.out (Rd.own hHeld.2.2.2.2)).mono ?_
      rintro e w5 ⟨rfl, hb5⟩
      go_wp2_with (fail)
      refine hK.out _ _ ?_ (fun hHeld => ?_)
      · exact HKC.out _ _ hHeld hb5
      clear hK K
      (try simp only [Act.put, List.getElem_toArray, List.getElem_cons_succ, List.getElem_cons_zero, List.setIfInBounds_toArray, List.set_cons_zero, List.set_cons_succ])
      refine wpAnyH_take (i := 3) (v := ?_) rfl (by kernel_rfl) (by kernel_rfl) (by kernel_rfl) (fun _ _ _ h => h) (Or.inl ⟨by kernel_rfl, ?_⟩) (by assumption) ?_
      rotate_left
      · intro w hSw
        (try dsimp only at hSw)
        go_simp
        try (with_reducible rfl)
      (try simp only [Act.put, List.getElem_toArray, List.getElem_cons_succ, List.getElem_cons_zero, List.setIfInBounds_toArray, List.set_cons_zero, List.set_cons_succ])
      refine wpAnyH_ready (rs := [5]) (by kernel_rfl) (by simp) ?_
      refine AllReadyH.cons rfl (fun K hK => ?_) AllReadyH.nil
      go_simp
      refine (HHR.out _ hHeld.1).mono ?_
      rintro e w5 ⟨rfl, hb5⟩
      go_wp2_with (fail)
      refine hK.out _ _ ?_ (fun hHeld => ?_)
      · exact HKC.out _ _ hHeld hb5
      clear hK K
      (try simp only [Act.put, List.getElem_toArray, List.getElem_cons_succ, List.getElem_cons_zero, List.setIfInBounds_toArray, List.set_cons_zero, List.set_cons_succ])
      refine wpAnyH_take (i := 6) (v := ?_) rfl (by kernel_rfl) (by kernel_rfl) (by kernel_rfl) (fun _ _ _ h => h) (Or.inl ⟨by kernel_rfl, ?_⟩) (by assumption) ?_
      rotate_left
      · intro w hSw
        (try dsimp only at hSw)
        go_simp
        try (with_reducible rfl)
      (try simp only [Act.put, List.getElem_toArray, List.getElem_cons_succ, List.getElem_cons_zero, List.setIfInBounds_toArray, List.set_cons_zero, List.set_cons_succ])
      refine wpAnyH_take (i := 7) (v := ?_) rfl (by kernel_rfl) (by kernel_rfl) (by kernel_rfl) (fun _ _ _ h => h) (Or.inl ⟨by kernel_rfl, ?_⟩) (by assumption) ?_
      rotate_left
      · intro w hSw
        (try dsimp only at hSw)
        go_simp
        try (with_reducible rfl)
      (try simp only [Act.put, List.getElem_toArray, List.getElem_cons_succ, List.getElem_cons_zero, List.setIfInBounds_toArray, List.set_cons_zero, List.set_cons_succ])
      obtain ⟨old, hod, hbo⟩ := hHeld.2.2.2.1
      refine wpAnyH_ready (rs := [8]) (by kernel_rfl) (by simp) ?_
      refine AllReadyH.cons rfl (fun K hK => ?_) AllReadyH.nil
      refine step_store_box rfl 41 (.tmp 4) (.tmp 39) rfl (w.heap.size + 1) (tc (.slice A6 t.ents.length cap6) (AT + n)) rfl rfl 41 old hbo info_trl hod (tc_own _ HO9.out) ?_
      intro w8 hxz hu8 hz8
      have HZ8 := Lib.hid hz8
      refine hK.out _ _ ⟨hHeld.1.trans (hu8.own (by omega) hHeld.1.size), Box.grown hHeld.2.1 hu8 (by intro h; injection h with h; omega), Box.grown hHeld.2.2.1 hu8 (by intro h; injection h with h; omega), ⟨_, rfl, hxz⟩, own_far hHeld.2.2.2.2 hu8 (by omega)⟩ (fun hHeld => ?_)
      clear hK K
      (try simp only [Act.put, List.getElem_toArray, List.getElem_cons_succ, List.getElem_cons_zero, List.setIfInBounds_toArray, List.set_cons_zero, List.set_cons_succ])
      refine wpAnyH_take (i := 9) (v := ?_) rfl (by kernel_rfl) (by kernel_rfl) (by kernel_rfl) (fun _ _ _ h => h) (Or.inl ⟨by kernel_rfl, ?_⟩) (by assumption) ?_
      rotate_left
      · intro w hSw
        (try dsimp only at hSw)
        go_simp
        try (with_reducible rfl)
      (try simp only [Act.put, List.getElem_toArray, List.getElem_cons_succ, List.getElem_cons_zero, List.setIfInBounds_toArray, List.set_cons_zero, List.set_cons_succ])
      refine wpAnyH_take (i := 10) (v := ?_) rfl (by kernel_rfl) (by kernel_rfl) (by kernel_rfl) (fun _ _ _ h => h) (Or.inl ⟨by kernel_rfl, ?_⟩) (by assumption) ?_
      rotate_left
      · intro w hSw
        (try dsimp only at hSw)
        go_simp
        try (with_reducible rfl)
      (try simp only [Act.put, List.getElem_toArray, List.getElem_cons_succ, List.getElem_cons_zero, List.setIfInBounds_toArray, List.set_cons_zero, List.set_cons_succ])
      refine wpAnyH_done (by kernel_rfl) ?_ _
      have hzq := HR1.out.lt
      go_wp2
      refine bodyPost_ret (results_btt rfl (Back.mk' (w.heap.size + 1) 41 _ rfl hxz Tryz.underlying41 rfl info_trl)) rfl ?_
      exact .inl ⟨_, true, (.slice A6 t.ents.length cap6), HGG.out, rfl, own_base hHeld.2.2.2.2 (by have := HU1.out.size; omega), hHeld.1⟩
end Go.Proofs.YtdolmjeiakdfhaaGreatDoor
