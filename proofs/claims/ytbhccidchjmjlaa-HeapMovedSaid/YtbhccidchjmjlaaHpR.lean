/-
  HeapMoved returns true. Conditions: the cells and the roots read as rows; the roots take no more bytes than a row may.
-/
import Derived.Test.YtbhccidchjmjlaaHpQ
namespace Go.Proofs.Ytbhccidchjmjlaa
set_option linter.unusedSimpArgs false
set_option linter.unusedVariables false
open Go.RowKit

set_option maxRecDepth 100000 in
set_option maxHeartbeats 2000000 in
theorem equal_long (l m : List Valu.V) (v u : Value) (w : World) (hv : RdL w 3 vc l v) (hu : RdL w 3 vc m u) (hl : l.length ≤ 4611686018427387904) (hm : m.length ≤ 4611686018427387904) :
    Calls Try.prog 13 #[v, u] w fun e w' => e = .returned (.bool (decide (l = m))) ∧ Below w.heap.size w w' := by
  obtain ⟨A, cap, rfl, hcap1, hcap2, hrow⟩ := hv
  obtain ⟨A2, cap2, rfl, hcap3, hcap4, hrow2⟩ := hu
  have HR := Lib.hid hrow
  have HR2 := Lib.hid hrow2
  clear hrow hrow2
  go_enter Try.func13, Try.ntmps13
  by_cases hlm : l.length = m.length
  · have hne : ((l.length : Int) != (m.length : Int)) = false := by simp [hlm]
    have HLM := Lib.hid hlm
    clear hlm
    go_wp2
    go_loopg [5, 13] l.length (fun gg _ s13 wr => ∃ kk : Nat, kk ≤ l.length ∧ l.length - kk ≤ gg ∧ s13 = .int .i64 (kk : Int) ∧ Hid (Below w.heap.size w wr) ∧ Hid (∀ (j : Nat) (x y : Valu.V), j < kk → l[j]? = some x → m[j]? = some y → x = y))
    case atStart => exact ⟨0, Nat.zero_le _, by omega, rfl, Below.refl _ w, fun j x y hj => absurd hj (Nat.not_lt_zero _)⟩
    case round =>
      obtain ⟨kk, hkk, hg, rfl, BW, AA⟩ := hrel
      by_cases hlt : kk < l.length
      · have hltz : (kk : Int) < (l.length : Int) := by omega
        have hltz2 : (kk : Int) < (m.length : Int) := by have := HLM.out; omega
        obtain ⟨x, hx⟩ : ∃ x, l[kk]? = some x := ⟨_, List.getElem?_eq_getElem hlt⟩
        obtain ⟨y, hy⟩ : ∃ y, m[kk]? = some y := ⟨_, List.getElem?_eq_getElem (by have := HLM.out; omega)⟩
        obtain ⟨g0, o0, rfl, hg0, hrg⟩ := HR.out (by omega)
        obtain ⟨g1, o1, rfl, hg1, hrg1⟩ := HR2.out (by have := HLM.out; omega)
        have hr0 : Hid (wr.rangeAt g0 (o0 + kk * 3) (vc x).toList) := fun i u hu => by
          rw [BW.out.cell (p := ⟨g0, o0 + kk * 3 + i, none⟩) hg0]
          exact RdL.elem (f := vc) (fun _ => rfl) hrg hx i u hu
        have hr1 : Hid (wr.rangeAt g1 (o1 + kk * 3) (vc y).toList) := fun i u hu => by
          rw [BW.out.cell (p := ⟨g1, o1 + kk * 3 + i, none⟩) hg1]
          exact RdL.elem (f := vc) (fun _ => rfl) hrg1 hy i u hu
        have HX := Lib.hid hx
        have HY := Lib.hid hy
        clear hx hy hrg hrg1
        obtain ⟨b, hb⟩ : ∃ b, decide (x = y) = b := ⟨_, rfl⟩
        have hnq := fun w => neq_val x y w
        rw [hb] at hnq
        have HB := Lib.hid hb
        clear hb
        cases b with
        | false =>
          go_upto_region 6 with (fail)
          refine wp_region_held_drew (S := fun w' => w'.rangeAt g0 (o0 + kk * 3) (vc x).toList ∧ w'.rangeAt g1 (o1 + kk * 3) (vc y).toList) (by kernel_rfl) ⟨hr0.out, hr1.out⟩ (fun hHeld => ?_)
          refine wpAnyH_take (i := 0) (v := ?_) rfl (by kernel_rfl) (by kernel_rfl) (by kernel_rfl) (fun _ _ _ h => h) (Or.inl ⟨by kernel_rfl, ?_⟩) (by assumption) ?_
          rotate_left
          · intro w hSw
            (try dsimp only at hSw)
            go_simp
            try (with_reducible rfl)
          (try simp only [Act.put, List.getElem_toArray, List.getElem_cons_zero, List.setIfInBounds_toArray, List.set_cons_zero, List.set_cons_succ])
          refine wpAnyH_take (i := 1) (v := ?_) rfl (by kernel_rfl) (by kernel_rfl) (by kernel_rfl) (fun _ _ _ h => h) (Or.inl ⟨by kernel_rfl, ?_⟩) (by assumption) ?_
          rotate_left
          · intro w hSw
            (try dsimp only at hSw)
            go_simp
            try (with_reducible rfl)
          (try simp only [Act.put, List.getElem_toArray, List.getElem_cons_succ, List.getElem_cons_zero, List.setIfInBounds_toArray, List.set_cons_zero, List.set_cons_succ])
          refine wpAnyH_take (i := 2) (v := ?_) rfl (by kernel_rfl) (by kernel_rfl) (by kernel_rfl) (fun _ _ _ h => h) (Or.inl ⟨by kernel_rfl, ?_⟩) (by assumption) ?_
          rotate_left
          · intro w hSw
            (try dsimp only at hSw)
            go_simp
            try (with_reducible rfl)
          (try simp only [Act.put, List.getElem_toArray, List.getElem_cons_succ, List.getElem_cons_zero, List.setIfInBounds_toArray, List.set_cons_zero, List.set_cons_succ])
          refine wpAnyH_take (i := 3) (v := _) rfl (by kernel_rfl) (by kernel_rfl) (by kernel_rfl) (fun _ _ _ h => h) (yieldsIf_load_mid (by kernel_rfl) 31 (.tmp 18) rfl (g0) (o0 + kk * 3) rfl ((vc x).toList) _ (fun _ h => h.1) Try.underlying31 rfl info_val) (by assumption) ?_
          (try simp only [Act.put, List.getElem_toArray, List.getElem_cons_succ, List.getElem_cons_zero, List.setIfInBounds_toArray, List.set_cons_zero, List.set_cons_succ])
          refine wpAnyH_take (i := 4) (v := ?_) rfl (by kernel_rfl) (by kernel_rfl) (by kernel_rfl) (fun _ _ _ h => h) (Or.inl ⟨by kernel_rfl, ?_⟩) (by assumption) ?_
          rotate_left
          · intro w hSw
            (try dsimp only at hSw)
            go_simp
            try (with_reducible rfl)
          (try simp only [Act.put, List.getElem_toArray, List.getElem_cons_succ, List.getElem_cons_zero, List.setIfInBounds_toArray, List.set_cons_zero, List.set_cons_succ])
          refine wpAnyH_take (i := 5) (v := ?_) rfl (by kernel_rfl) (by kernel_rfl) (by kernel_rfl) (fun _ _ _ h => h) (Or.inl ⟨by kernel_rfl, ?_⟩) (by assumption) ?_
          rotate_left
          · intro w hSw
            (try dsimp only at hSw)
            go_simp
            try (with_reducible rfl)
          (try simp only [Act.put, List.getElem_toArray, List.getElem_cons_succ, List.getElem_cons_zero, List.setIfInBounds_toArray, List.set_cons_zero, List.set_cons_succ])
          refine wpAnyH_take (i := 6) (v := ?_) rfl (by kernel_rfl) (by kernel_rfl) (by kernel_rfl) (fun _ _ _ h => h) (Or.inl ⟨by kernel_rfl, ?_⟩) (by assumption) ?_
          rotate_left
          · intro w hSw
            (try dsimp only at hSw)
            go_simp
            try (with_reducible rfl)
          (try simp only [Act.put, List.getElem_toArray, List.getElem_cons_succ, List.getElem_cons_zero, List.setIfInBounds_toArray, List.set_cons_zero, List.set_cons_succ])
          refine wpAnyH_take (i := 7) (v := _) rfl (by kernel_rfl) (by kernel_rfl) (by kernel_rfl) (fun _ _ _ h => h) (yieldsIf_load_mid (by kernel_rfl) 31 (.tmp 22) rfl (g1) (o1 + kk * 3) rfl ((vc y).toList) _ (fun _ h => h.2) Try.underlying31 rfl info_val) (by assumption) ?_
          (try simp only [Act.put, List.getElem_toArray, List.getElem_cons_succ, List.getElem_cons_zero, List.setIfInBounds_toArray, List.set_cons_zero, List.set_cons_succ])
          refine wpAnyH_take (i := 8) (v := ?_) rfl (by kernel_rfl) (by kernel_rfl) (by kernel_rfl) (fun _ _ _ h => h) (Or.inl ⟨by kernel_rfl, ?_⟩) (by assumption) ?_
          rotate_left
          · intro w hSw
            (try dsimp only at hSw)
            go_simp
            try (with_reducible rfl)
          (try simp only [Act.put, List.getElem_toArray, List.getElem_cons_succ, List.getElem_cons_zero, List.setIfInBounds_toArray, List.set_cons_zero, List.set_cons_succ])
          refine wpAnyH_done (by kernel_rfl) ?_ _
          go_wp2
          go_ret
          refine ⟨?_, BW.out.drew⟩
          rw [decide_eq_false (take_ne HX.out HY.out (of_decide_eq_false HB.out))]; rfl
        | true =>
          go_upto_region 6 with (fail)
          refine wp_region_held_drew (S := fun w' => w'.rangeAt g0 (o0 + kk * 3) (vc x).toList ∧ w'.rangeAt g1 (o1 + kk * 3) (vc y).toList) (by kernel_rfl) ⟨hr0.out, hr1.out⟩ (fun hHeld => ?_)
          refine wpAnyH_take (i := 0) (v := ?_) rfl (by kernel_rfl) (by kernel_rfl) (by kernel_rfl) (fun _ _ _ h => h) (Or.inl ⟨by kernel_rfl, ?_⟩) (by assumption) ?_
          rotate_left
          · intro w hSw
            (try dsimp only at hSw)
            go_simp
            try (with_reducible rfl)
          (try simp only [Act.put, List.getElem_toArray, List.getElem_cons_zero, List.setIfInBounds_toArray, List.set_cons_zero, List.set_cons_succ])
          refine wpAnyH_take (i := 1) (v := ?_) rfl (by kernel_rfl) (by kernel_rfl) (by kernel_rfl) (fun _ _ _ h => h) (Or.inl ⟨by kernel_rfl, ?_⟩) (by assumption) ?_
          rotate_left
          · intro w hSw
            (try dsimp only at hSw)
            go_simp
            try (with_reducible rfl)
          (try simp only [Act.put, List.getElem_toArray, List.getElem_cons_succ, List.getElem_cons_zero, List.setIfInBounds_toArray, List.set_cons_zero, List.set_cons_succ])
          refine wpAnyH_take (i := 2) (v := ?_) rfl (by kernel_rfl) (by kernel_rfl) (by kernel_rfl) (fun _ _ _ h => h) (Or.inl ⟨by kernel_rfl, ?_⟩) (by assumption) ?_
          rotate_left
          · intro w hSw
            (try dsimp only at hSw)
            go_simp
            try (with_reducible rfl)
          (try simp only [Act.put, List.getElem_toArray, List.getElem_cons_succ, List.getElem_cons_zero, List.setIfInBounds_toArray, List.set_cons_zero, List.set_cons_succ])
          refine wpAnyH_take (i := 3) (v := _) rfl (by kernel_rfl) (by kernel_rfl) (by kernel_rfl) (fun _ _ _ h => h) (yieldsIf_load_mid (by kernel_rfl) 31 (.tmp 18) rfl (g0) (o0 + kk * 3) rfl ((vc x).toList) _ (fun _ h => h.1) Try.underlying31 rfl info_val) (by assumption) ?_
          (try simp only [Act.put, List.getElem_toArray, List.getElem_cons_succ, List.getElem_cons_zero, List.setIfInBounds_toArray, List.set_cons_zero, List.set_cons_succ])
          refine wpAnyH_take (i := 4) (v := ?_) rfl (by kernel_rfl) (by kernel_rfl) (by kernel_rfl) (fun _ _ _ h => h) (Or.inl ⟨by kernel_rfl, ?_⟩) (by assumption) ?_
          rotate_left
          · intro w hSw
            (try dsimp only at hSw)
            go_simp
            try (with_reducible rfl)
          (try simp only [Act.put, List.getElem_toArray, List.getElem_cons_succ, List.getElem_cons_zero, List.setIfInBounds_toArray, List.set_cons_zero, List.set_cons_succ])
          refine wpAnyH_take (i := 5) (v := ?_) rfl (by kernel_rfl) (by kernel_rfl) (by kernel_rfl) (fun _ _ _ h => h) (Or.inl ⟨by kernel_rfl, ?_⟩) (by assumption) ?_
          rotate_left
          · intro w hSw
            (try dsimp only at hSw)
            go_simp
            try (with_reducible rfl)
          (try simp only [Act.put, List.getElem_toArray, List.getElem_cons_succ, List.getElem_cons_zero, List.setIfInBounds_toArray, List.set_cons_zero, List.set_cons_succ])
          refine wpAnyH_take (i := 6) (v := ?_) rfl (by kernel_rfl) (by kernel_rfl) (by kernel_rfl) (fun _ _ _ h => h) (Or.inl ⟨by kernel_rfl, ?_⟩) (by assumption) ?_
          rotate_left
          · intro w hSw
            (try dsimp only at hSw)
            go_simp
            try (with_reducible rfl)
          (try simp only [Act.put, List.getElem_toArray, List.getElem_cons_succ, List.getElem_cons_zero, List.setIfInBounds_toArray, List.set_cons_zero, List.set_cons_succ])
          refine wpAnyH_take (i := 7) (v := _) rfl (by kernel_rfl) (by kernel_rfl) (by kernel_rfl) (fun _ _ _ h => h) (yieldsIf_load_mid (by kernel_rfl) 31 (.tmp 22) rfl (g1) (o1 + kk * 3) rfl ((vc y).toList) _ (fun _ h => h.2) Try.underlying31 rfl info_val) (by assumption) ?_
          (try simp only [Act.put, List.getElem_toArray, List.getElem_cons_succ, List.getElem_cons_zero, List.setIfInBounds_toArray, List.set_cons_zero, List.set_cons_succ])
          refine wpAnyH_take (i := 8) (v := ?_) rfl (by kernel_rfl) (by kernel_rfl) (by kernel_rfl) (fun _ _ _ h => h) (Or.inl ⟨by kernel_rfl, ?_⟩) (by assumption) ?_
          rotate_left
          · intro w hSw
            (try dsimp only at hSw)
            go_simp
            try (with_reducible rfl)
          (try simp only [Act.put, List.getElem_toArray, List.getElem_cons_succ, List.getElem_cons_zero, List.setIfInBounds_toArray, List.set_cons_zero, List.set_cons_succ])
          refine wpAnyH_done (by kernel_rfl) ?_ _
          go_wp2
          go_roundg (l.length - (kk + 1))
          case measure => omega
          case rel =>
            refine ⟨kk + 1, by omega, by omega, by go_num, BW.out.drew, (show Hid _ from fun j x' y' hj hx' hy' => ?_)⟩
            by_cases e : j = kk
            · subst e
              have h1 := HX.out
              have h2 := HY.out
              rw [hx'] at h1
              rw [hy'] at h2
              injection h1 with h1
              injection h2 with h2
              rw [h1, h2]; exact of_decide_eq_true HB.out
            · exact AA.out j x' y' (by omega) hx' hy'
      · have hltz : ¬ (kk : Int) < (l.length : Int) := by omega
        go_wp2
        go_ret
        refine ⟨?_, BW.out⟩
        rw [decide_eq_true (take_all HLM.out (fun j x y hj h1 h2 => AA.out j x y (by omega) h1 h2))]; rfl
  · have hne : ((l.length : Int) != (m.length : Int)) = true := by simp; omega
    have HLM := Lib.hid hlm
    go_wp2
    go_ret
    refine ⟨?_, Below.refl _ w⟩
    rw [decide_eq_false (fun e => HLM.out (by rw [e]))]; rfl
set_option maxRecDepth 100000 in
set_option maxHeartbeats 8000000 in
theorem moved_walk (h : List CellV) (hv : Value) (l : List Valu.V) (v : Value) (w : World) (hr : HRd w h hv) (hl : RdL w 3 vc l v) (hz : Szs l) (hlz : l.length * 32 ≤ 140737488355328) :
    Calls Try.prog 4 #[hv, v] w fun en w' => en = .returned (.bool true) ∧ Below w.heap.size w w' := by
  have HMV := Lib.hid (Move_any h hv l v w hr hl hz hlz)
  have HH := Lib.hid hr
  have HL := Lib.hid hl
  have HZ := Lib.hid hz
  have HLV := Lib.hid heapLives_true
  obtain ⟨C, hC⟩ : ∃ C, Hepy.askedH (cells h) l = C := ⟨_, rfl⟩
  have HMQ : Hid (Hepy.move (cells h) l = if C ≠ 0 then ([], [], C) else (Hepy.moved (cells h) l, Hepy.movedR (cells h) l, 0)) := by show _ = _; unfold Hepy.move; rw [hC]
  have HC := Lib.hid hC
  obtain ⟨UA, ucap, rfl, _⟩ := hr.r
  obtain ⟨A, cap, rfl, hc1, hc2, -⟩ := hl
  obtain ⟨mh, mr, me, hme⟩ : ∃ mh mr me, Hepy.move (cells h) l = (mh, mr, me) := ⟨_, _, _, rfl⟩
  rw [hme] at HMV HMQ
  clear hr hC hme hz
  go_enter Try.func4, Try.ntmps4
  go_wp2_with (fail)
  refine (HMV.out).mono ?_
  rintro en W ⟨v1, v2, h1, rfl, hc1', hrd1, hrr1, hbW⟩
  have HU := Lib.hid hbW
  have HD1 := Lib.hid hrd1
  have HR1 : Hid (RdL W 3 vc mr v2) := hrr1
  have HC1 : Hid (cells h1 = mh) := hc1'
  obtain ⟨A1, cap1, rfl, _⟩ := hrd1.r
  obtain ⟨A2, cap2, rfl, _⟩ := hrr1
  clear hbW HMV hrd1 hc1'
  simp only
  go_wp2_with (fail)
  refine (HLV.out _).mono ?_
  rintro en W1 ⟨rfl, hb1⟩
  have HU1 := Lib.hid (HU.out.trans (hb1.mono HU.out.size))
  have HD2 := Lib.hid (HD1.out.below hb1)
  have HR2 := Lib.hid (HR1.out.below hb1)
  have hz1 := HU1.out.size
  clear hb1 HR1 HD1
  by_cases y : C = 0
  · subst y
    have hq := HMQ.out
    simp only [ne_eq, not_true_eq_false, if_false] at hq
    injection hq with hq1 hq2
    injection hq2 with hq2 hq3
    subst hq3
    have g1 : (((0 : Nat) : Int) != 0) = false := by simp
    obtain ⟨hright, hfit⟩ := Hepy.asked_zero.1 HC.out
    have hmrl : mr.length = l.length := by rw [hq2]; unfold Hepy.movedR; simp
    have hszr : Szs mr := fun v hv => by
      rw [hq2] at hv
      unfold Hepy.movedR at hv
      obtain ⟨y, hy, rfl⟩ := List.mem_map.1 hv
      have := HZ.out y hy
      unfold Hepy.ren; split <;> exact this
    have HSZR := Lib.hid hszr
    have hra := Hepy.reach_moved hright hfit
    have hma := Hepy.moved_again hright hfit
    rw [← hq1, ← hq2, ← HC1.out] at hra
    rw [← hq1, ← hq2, ← HC1.out] at hma
    have HAK : Hid (∀ (k : Nat) (x : Valu.V), l[k]? = some x → ∃ y, mr[k]? = some y ∧ Hepy.alike (cells h) x (cells h1) y = (true, 0)) := fun k x hx => by
      refine ⟨Hepy.ren (Hepy.pos (Hepy.walked (cells h) l)) x, ?_, ?_⟩
      · rw [hq2]; unfold Hepy.movedR; rw [List.getElem?_map, hx]; rfl
      · have := Hepy.alike_moved hright hfit (List.mem_of_getElem? hx)
        rw [← hq1, ← HC1.out] at this
        exact this
    have HSH : Hid (Shr h1) := shr_of (by rw [HC1.out, hq1]; exact fun c hc => (Hepy.moved_vals hright hfit c hc).1)
    obtain ⟨rl, re, hre⟩ : ∃ rl re, Hepy.reach (cells h1) mr = (rl, re) := ⟨_, _, rfl⟩
    have HRE := Lib.hid (Reach_any h1 _ mr _ W1 HD2.out HR2.out hszr)
    rw [hre] at HRE hra
    obtain ⟨hr0, hrl0⟩ := hra
    simp only at hr0 hrl0
    subst hr0
    rw [cells_len] at hrl0
    have HRLL := Lib.hid hrl0
    have HMRL := Lib.hid hmrl
    have HMA := Lib.hid hma
    clear hq1 hq2 hright hfit hszr hma hre hrl0 hmrl
    go_upto_region 4 with (fail)
    go_wp2_with (fail)
    refine (HRE.out).mono ?_
    rintro en W2 ⟨v3, rfl, hrd3, hb2⟩
    have HU2 := Lib.hid (HU1.out.trans (hb2.mono hz1))
    have HD3 := Lib.hid (HD2.out.below hb2)
    have HR3 := Lib.hid (HR2.out.below hb2)
    have HM2 := Lib.hid (Move_any h1 _ mr _ W2 HD3.out HR3.out HSZR.out (by rw [HMRL.out]; exact hlz))
    rw [HMA.out] at HM2
    obtain ⟨A3, cap3, rfl, _⟩ := hrd3
    have hz2 := HU2.out.size
    clear hb2 HRE HD2 HR2
    simp only
    go_wp2_with (fail)
    refine (HM2.out).mono ?_
    rintro en W3 ⟨v4, v5, h2, rfl, hc2', hrd4, hrr4, hb3⟩
    have HU3 := Lib.hid (HU2.out.trans (hb3.mono hz2))
    have HD4 := Lib.hid (HD3.out.below hb3)
    have HR4 := Lib.hid (HR3.out.below hb3)
    have HDB := Lib.hid hrd4
    have HRB : Hid (RdL W3 3 vc mr v5) := hrr4
    have HC2 : Hid (cells h2 = cells h1) := hc2'
    have HSH2 : Hid (Shr h2) := fun x hx => by
      have h3 : x.c ∈ cells h2 := by unfold cells; exact List.mem_map.2 ⟨x, hx, rfl⟩
      rw [hc2'] at h3
      obtain ⟨y, hy, he⟩ := List.mem_map.1 h3
      rw [← he]
      exact HSH.out y hy
    obtain ⟨A4, cap4, rfl, _⟩ := hrd4.r
    obtain ⟨A5, cap5, rfl, _⟩ := hrr4
    have hz3 := HU3.out.size
    have HOK : Hid (∀ w', RdL w' 1 ic [0, 0] (.slice (some ⟨W3.heap.size, 0, none⟩) 2 2) → Calls Try.prog 11 #[.slice (some ⟨W3.heap.size, 0, none⟩) 2 2] w' fun e w'' => e = .returned (.bool true) ∧ w'' = w') := fun w' h => ok_any [0, 0] _ w' h
    clear hb3 HM2 HD3 HR3 hrd4 hc2'
    simp only
    go_wp2_with (fail)
    refine (HOK.out _ (rd_box (Box.new W3 _ _) (by rfl) rfl (by omega))).mono ?_
    rintro en W4 ⟨rfl, hw4⟩
    have hb4 : Below W3.heap.size W3 W4 := by rw [hw4]; exact below1 W3 _
    have HU4 := Lib.hid (HU3.out.trans (hb4.mono hz3))
    have HD5 := Lib.hid (HD4.out.below hb4)
    have HR5 := Lib.hid (HR4.out.below hb4)
    have HSC := Lib.hid (samecells_any h2 h1 _ _ W4 (HDB.out.below hb4) HD5.out HSH2.out HSH.out)
    rw [HC2.out, decide_eq_true rfl] at HSC
    have HRB2 := Lib.hid (HRB.out.below hb4)
    have e1 : ((rl.length : Int) != (h1.length : Int)) = false := by rw [HRLL.out]; simp
    have e1N : (rl.length != h1.length) = false := by rw [HRLL.out]; simp
    have hz4 := HU4.out.size
    clear hw4 hb4 HD4 HR4 HDB HRB
    go_wp2_with (fail)
    refine (HSC.out).mono ?_
    rintro en W5 ⟨rfl, hb5⟩
    have HU5 := Lib.hid (HU4.out.trans (hb5.mono hz4))
    have HD6 := Lib.hid (HD5.out.below hb5)
    have HR6 := Lib.hid (HR5.out.below hb5)
    have hmr : mr.length ≤ 4611686018427387904 := by rw [HMRL.out]; omega
    have HEQ := Lib.hid (equal_long mr mr _ _ W5 HR6.out (HRB2.out.below hb5) hmr hmr)
    rw [decide_eq_true rfl] at HEQ
    have hz5 := HU5.out.size
    clear hb5 HD5 HR5 HRB2 hmr
    go_wp2_with (fail)
    refine (HEQ.out).mono ?_
    rintro en W6 ⟨rfl, hb6⟩
    have HU6 := Lib.hid (HU5.out.trans (hb6.mono hz5))
    have HD7 := Lib.hid (HD6.out.below hb6)
    have HR7 := Lib.hid (HR6.out.below hb6)
    have e2 : ((mr.length : Int) != (l.length : Int)) = false := by rw [HMRL.out]; simp
    have e2N : (mr.length != l.length) = false := by rw [HMRL.out]; simp
    have hz6 := HU6.out.size
    clear hb6 HD6 HR6
    go_upto_region 9 with (fail)
    go_loopg [81] l.length (fun gg s81 wr => ∃ j : Nat, j ≤ l.length ∧ l.length - j ≤ gg ∧ s81 = .int .i64 (j : Int) ∧ Hid (Below W6.heap.size W6 wr))
    case atStart => exact ⟨0, Nat.zero_le _, by omega, rfl, Below.refl _ _⟩
    case round =>
      obtain ⟨j, hj, hgg, rfl, BW⟩ := hrel
      have HUr := Lib.hid (HU6.out.trans (BW.out.mono hz6))
      by_cases hlt : j < l.length
      · have hlt2 : decide ((j : Int) < (l.length : Int)) = true := decide_eq_true (by omega)
        have hltz : (j : Int) < (l.length : Int) := by omega
        have hltm : (j : Int) < (mr.length : Int) := by have := HMRL.out; omega
        obtain ⟨x, hx⟩ : ∃ x, l[j]? = some x := ⟨_, List.getElem?_eq_getElem hlt⟩
        obtain ⟨y, hy, hal⟩ := HAK.out j x hx
        have hxz := HZ.out x (List.mem_of_getElem? hx)
        have hyz := HSZR.out y (List.mem_of_getElem? hy)
        have HAL : Hid (∀ w', Below W6.heap.size W6 w' → Calls Try.prog 14 #[.slice UA h.length ucap, .agg (vc x), .slice A1 h1.length cap1, .agg (vc y)] w' fun e w'' => e = .returned (.tuple #[.bool true, .int .i64 ((0 : Nat) : Int)]) ∧ Below w'.heap.size w' w'') := fun w' hb => by
          have := Alike_any h _ x h1 _ y w' (HH.out.below (HU6.out.trans (hb.mono hz6))) (HD7.out.below hb) hxz hyz
          rw [hal] at this
          exact this
        obtain ⟨A8, cap8, e8, _, _, hr8⟩ := HL.out.below HUr.out
        injection e8 with e8 _ e9
        subst e8
        subst e9
        obtain ⟨g8, o8, rfl, hg8, hrg8⟩ := hr8 (by omega)
        obtain ⟨A9, cap9, e9, _, _, hr9⟩ := HR7.out.below BW.out
        injection e9 with e9 _ e10
        subst e9
        subst e10
        obtain ⟨g9, o9, rfl, hg9, hrg9⟩ := hr9 (by omega)
        have r8 : Hid (wr.rangeAt g8 (o8 + j * 3) (vc x).toList) := RdL.elem (k := 3) (f := vc) (fun _ => rfl) hrg8 hx
        have r9 : Hid (wr.rangeAt g9 (o9 + j * 3) (vc y).toList) := RdL.elem (k := 3) (f := vc) (fun _ => rfl) hrg9 hy
        have g2 : (((0 : Nat) : Int) != 0) = false := by simp
        have hzr := BW.out.size
        clear hr8 hr9 hrg8 hrg9 hx hy hal hxz hyz
        go_upto_region 11 with (fail)
        refine wp_region_held_drew (S := fun w' => Below wr.heap.size wr w' ∧ w'.rangeAt g8 (o8 + j * 3) (vc x).toList ∧ w'.rangeAt g9 (o9 + j * 3) (vc y).toList) (by kernel_rfl) ⟨(Below.refl _ wr).drew, r8.out, r9.out⟩ (fun hHeld => ?_)
        refine wpAnyH_take (i := 0) (v := ?_) rfl (by kernel_rfl) (by kernel_rfl) (by kernel_rfl) (fun _ _ _ h => h) (Or.inl ⟨by kernel_rfl, ?_⟩) (by assumption) ?_
        rotate_left
        · intro w hSw
          (try dsimp only at hSw)
          go_simp
          try (with_reducible rfl)
        (try simp only [Act.put, List.getElem_toArray, List.getElem_cons_zero, List.setIfInBounds_toArray, List.set_cons_zero, List.set_cons_succ])
        refine wpAnyH_take (i := 1) (v := ?_) rfl (by kernel_rfl) (by kernel_rfl) (by kernel_rfl) (fun _ _ _ h => h) (Or.inl ⟨by kernel_rfl, ?_⟩) (by assumption) ?_
        rotate_left
        · intro w hSw
          (try dsimp only at hSw)
          go_simp
          try (with_reducible rfl)
        (try simp only [Act.put, List.getElem_toArray, List.getElem_cons_succ, List.getElem_cons_zero, List.setIfInBounds_toArray, List.set_cons_zero, List.set_cons_succ])
        refine wpAnyH_take (i := 2) (v := ?_) rfl (by kernel_rfl) (by kernel_rfl) (by kernel_rfl) (fun _ _ _ h => h) (Or.inl ⟨by kernel_rfl, ?_⟩) (by assumption) ?_
        rotate_left
        · intro w hSw
          (try dsimp only at hSw)
          go_simp
          try (with_reducible rfl)
        (try simp only [Act.put, List.getElem_toArray, List.getElem_cons_succ, List.getElem_cons_zero, List.setIfInBounds_toArray, List.set_cons_zero, List.set_cons_succ])
        refine wpAnyH_take (i := 3) (v := ?_) rfl (by kernel_rfl) (by kernel_rfl) (by kernel_rfl) (fun _ _ _ h => h) (Or.inl ⟨by kernel_rfl, ?_⟩) (by assumption) ?_
        rotate_left
        · intro w hSw
          (try dsimp only at hSw)
          go_simp
          try (with_reducible rfl)
        (try simp only [Act.put, List.getElem_toArray, List.getElem_cons_succ, List.getElem_cons_zero, List.setIfInBounds_toArray, List.set_cons_zero, List.set_cons_succ])
        refine wpAnyH_take (i := 4) (v := _) rfl (by kernel_rfl) (by kernel_rfl) (by kernel_rfl) (fun _ _ _ h => h) (yieldsIf_load_mid (by kernel_rfl) 31 (.tmp 88) rfl (g8) (o8 + j * 3) rfl ((vc x).toList) _ (fun _ h => h.2.1) Try.underlying31 rfl info_val) (by assumption) ?_
        (try simp only [Act.put, List.getElem_toArray, List.getElem_cons_succ, List.getElem_cons_zero, List.setIfInBounds_toArray, List.set_cons_zero, List.set_cons_succ])
        refine wpAnyH_take (i := 5) (v := ?_) rfl (by kernel_rfl) (by kernel_rfl) (by kernel_rfl) (fun _ _ _ h => h) (Or.inl ⟨by kernel_rfl, ?_⟩) (by assumption) ?_
        rotate_left
        · intro w hSw
          (try dsimp only at hSw)
          go_simp
          try (with_reducible rfl)
        (try simp only [Act.put, List.getElem_toArray, List.getElem_cons_succ, List.getElem_cons_zero, List.setIfInBounds_toArray, List.set_cons_zero, List.set_cons_succ])
        refine wpAnyH_take (i := 6) (v := ?_) rfl (by kernel_rfl) (by kernel_rfl) (by kernel_rfl) (fun _ _ _ h => h) (Or.inl ⟨by kernel_rfl, ?_⟩) (by assumption) ?_
        rotate_left
        · intro w hSw
          (try dsimp only at hSw)
          go_simp
          try (with_reducible rfl)
        (try simp only [Act.put, List.getElem_toArray, List.getElem_cons_succ, List.getElem_cons_zero, List.setIfInBounds_toArray, List.set_cons_zero, List.set_cons_succ])
        refine wpAnyH_take (i := 7) (v := ?_) rfl (by kernel_rfl) (by kernel_rfl) (by kernel_rfl) (fun _ _ _ h => h) (Or.inl ⟨by kernel_rfl, ?_⟩) (by assumption) ?_
        rotate_left
        · intro w hSw
          (try dsimp only at hSw)
          go_simp
          try (with_reducible rfl)
        (try simp only [Act.put, List.getElem_toArray, List.getElem_cons_succ, List.getElem_cons_zero, List.setIfInBounds_toArray, List.set_cons_zero, List.set_cons_succ])
        refine wpAnyH_take (i := 8) (v := ?_) rfl (by kernel_rfl) (by kernel_rfl) (by kernel_rfl) (fun _ _ _ h => h) (Or.inl ⟨by kernel_rfl, ?_⟩) (by assumption) ?_
        rotate_left
        · intro w hSw
          (try dsimp only at hSw)
          go_simp
          try (with_reducible rfl)
        (try simp only [Act.put, List.getElem_toArray, List.getElem_cons_succ, List.getElem_cons_zero, List.setIfInBounds_toArray, List.set_cons_zero, List.set_cons_succ])
        refine wpAnyH_take (i := 9) (v := _) rfl (by kernel_rfl) (by kernel_rfl) (by kernel_rfl) (fun _ _ _ h => h) (yieldsIf_load_mid (by kernel_rfl) 31 (.tmp 93) rfl (g9) (o9 + j * 3) rfl ((vc y).toList) _ (fun _ h => h.2.2) Try.underlying31 rfl info_val) (by assumption) ?_
        (try simp only [Act.put, List.getElem_toArray, List.getElem_cons_succ, List.getElem_cons_zero, List.setIfInBounds_toArray, List.set_cons_zero, List.set_cons_succ])
        refine wpAnyH_ready (rs := [10]) (by kernel_rfl) (by simp) ?_
        refine AllReadyH.cons rfl (fun K hK => ?_) AllReadyH.nil
        go_simp
        refine (HAL.out _ (BW.out.trans (hHeld.1.mono hzr))).mono ?_
        rintro en w3 ⟨rfl, hb3⟩
        go_wp2_with (fail)
        refine hK.out _ _ ?_ (fun hHeld => ?_)
        · exact ⟨hHeld.1.trans (hb3.mono hHeld.1.size), fun i u hu => by rw [(hHeld.1.trans (hb3.mono hHeld.1.size)).cell (p := ⟨g8, o8 + j * 3 + i, none⟩) hg8]; exact r8.out i u hu, fun i u hu => by rw [(hHeld.1.trans (hb3.mono hHeld.1.size)).cell (p := ⟨g9, o9 + j * 3 + i, none⟩) hg9]; exact r9.out i u hu⟩
        clear hK K
        (try simp only [Act.put, List.getElem_toArray, List.getElem_cons_succ, List.getElem_cons_zero, List.setIfInBounds_toArray, List.set_cons_zero, List.set_cons_succ])
        refine wpAnyH_take (i := 11) (v := ?_) rfl (by kernel_rfl) (by kernel_rfl) (by kernel_rfl) (fun _ _ _ h => h) (Or.inl ⟨by kernel_rfl, ?_⟩) (by assumption) ?_
        rotate_left
        · intro w hSw
          (try dsimp only at hSw)
          go_simp
          try (with_reducible rfl)
        (try simp only [Act.put, List.getElem_toArray, List.getElem_cons_succ, List.getElem_cons_zero, List.setIfInBounds_toArray, List.set_cons_zero, List.set_cons_succ])
        refine wpAnyH_take (i := 12) (v := ?_) rfl (by kernel_rfl) (by kernel_rfl) (by kernel_rfl) (fun _ _ _ h => h) (Or.inl ⟨by kernel_rfl, ?_⟩) (by assumption) ?_
        rotate_left
        · intro w hSw
          (try dsimp only at hSw)
          go_simp
          try (with_reducible rfl)
        (try simp only [Act.put, List.getElem_toArray, List.getElem_cons_succ, List.getElem_cons_zero, List.setIfInBounds_toArray, List.set_cons_zero, List.set_cons_succ])
        refine wpAnyH_take (i := 13) (v := ?_) rfl (by kernel_rfl) (by kernel_rfl) (by kernel_rfl) (fun _ _ _ h => h) (Or.inl ⟨by kernel_rfl, ?_⟩) (by assumption) ?_
        rotate_left
        · intro w hSw
          (try dsimp only at hSw)
          go_simp
          try (with_reducible rfl)
        (try simp only [Act.put, List.getElem_toArray, List.getElem_cons_succ, List.getElem_cons_zero, List.setIfInBounds_toArray, List.set_cons_zero, List.set_cons_succ])
        refine wpAnyH_take (i := 14) (v := ?_) rfl (by kernel_rfl) (by kernel_rfl) (by kernel_rfl) (fun _ _ _ h => h) (Or.inl ⟨by kernel_rfl, ?_⟩) (by assumption) ?_
        rotate_left
        · intro w hSw
          (try dsimp only at hSw)
          go_simp
          try (with_reducible rfl)
        (try simp only [Act.put, List.getElem_toArray, List.getElem_cons_succ, List.getElem_cons_zero, List.setIfInBounds_toArray, List.set_cons_zero, List.set_cons_succ])
        refine wpAnyH_take (i := 15) (v := ?_) rfl (by kernel_rfl) (by kernel_rfl) (by kernel_rfl) (fun _ _ _ h => h) (Or.inl ⟨by kernel_rfl, ?_⟩) (by assumption) ?_
        rotate_left
        · intro w hSw
          (try dsimp only at hSw)
          go_simp
          try (with_reducible rfl)
        (try simp only [Act.put, List.getElem_toArray, List.getElem_cons_succ, List.getElem_cons_zero, List.setIfInBounds_toArray, List.set_cons_zero, List.set_cons_succ])
        refine wpAnyH_done (by kernel_rfl) ?_ _
        have HB9 := Lib.hid (BW.out.trans (hHeld.1.mono hzr))
        clear hHeld
        go_wp2
        go_roundg (l.length - (j + 1))
        case measure => omega
        case rel => exact ⟨j + 1, by omega, by omega, by go_num, HB9.out⟩
      · have hlt2 : decide ((j : Int) < (l.length : Int)) = false := decide_eq_false (by omega)
        go_wp2
        go_ret
        exact ⟨rfl, HUr.out⟩
  · have hq := HMQ.out
    rw [if_pos y] at hq
    injection hq with hq1 hq2
    injection hq2 with hq2 hq3
    have hh1 : h1.length = 0 := by
      have := HC1.out
      rw [hq1] at this
      have := congrArg List.length this
      rw [cells_len] at this
      exact this
    have hl0 : ((h1.length : Int) == 0) = true := by rw [hh1]; rfl
    have hl0N : (h1.length == 0) = true := by rw [hh1]; rfl
    subst hq3
    have g1 : ((me : Int) != 0) = true := by simp; omega
    have HH1 := Lib.hid hh1
    clear y hq1 hq2 hh1
    go_wp2_with (fail)
    refine (HLV.out _).mono ?_
    rintro en W2 ⟨rfl, hb2⟩
    go_wp2
    go_ret
    exact ⟨rfl, HU1.out.trans (hb2.mono hz1)⟩
end Go.Proofs.Ytbhccidchjmjlaa
