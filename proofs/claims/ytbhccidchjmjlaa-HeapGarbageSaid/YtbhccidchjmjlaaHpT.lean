/-
  HeapSwept returns true. Conditions: the cells and the roots read as rows.
-/
import Derived.Test.YtbhccidchjmjlaaHpS
namespace Go.Proofs.Ytbhccidchjmjlaa
set_option linter.unusedSimpArgs false
set_option linter.unusedVariables false
open Go.RowKit

theorem sorted_pair (l : List Nat) : (Hepy.sorted l).Pairwise (· ≤ ·) := by
  unfold Hepy.sorted
  have := List.pairwise_mergeSort (le := fun x y : Int => decide (x ≤ y)) (fun a b c h1 h2 => by simp only [decide_eq_true_eq] at *; omega) (fun a b => by simp only [Bool.or_eq_true, decide_eq_true_eq]; omega) (l.map fun n : Nat => (n : Int))
  exact this.imp (fun h => by simpa using h)
theorem search_any (l : List Int) (x : Int) (v : Value) (w : World) (hv : RdL w 1 ic l v) (hp : l.Pairwise (· ≤ ·)) (hl : l.length ≤ 1000000) :
    Calls Try.prog 17 #[v, .int .i64 x] w fun e w' => ∃ p, e = .returned (.tuple #[.int .i64 p, .bool (l.contains x)]) ∧ Below w.heap.size w w' := by
  obtain ⟨A, cap, rfl, hc1, hc2, hr1⟩ := hv
  by_cases h0 : 0 < l.length
  · obtain ⟨g, o, rfl, hg, hrg⟩ := hr1 h0
    refine (Try.slices_BinarySearch_int g o l.length cap l x w (Nat.le_refl _) (by omega) (getD_cell hrg) (by rw [List.take_length]; exact hp)).mono ?_
    rintro e w' ⟨rfl, n, rfl⟩
    rw [List.take_length]
    exact ⟨_, rfl, below_drewN (Below.refl _ _) _⟩
  · have h1 : l = [] := List.length_eq_zero_iff.1 (by omega)
    subst h1
    refine (Try.slices_BinarySearch_int_empty A cap x w).mono ?_
    rintro e w' ⟨rfl, rfl⟩
    exact ⟨_, rfl, Below.refl _ _⟩
theorem sorted_has {W : List Nat} {k : Nat} : (Hepy.sorted W).contains (k : Int) = decide (k ∈ W) := by
  rw [Bool.eq_iff_iff, List.contains_iff_mem, decide_eq_true_eq]
  unfold Hepy.sorted
  rw [List.mem_mergeSort, List.mem_map]
  constructor
  · rintro ⟨n, hn, h⟩
    have : n = k := by omega
    rw [← this]; exact hn
  · intro h; exact ⟨k, h, rfl⟩
set_option maxRecDepth 100000 in
set_option maxHeartbeats 8000000 in
theorem swept_walk (h : List CellV) (hv : Value) (l : List Valu.V) (v : Value) (w : World) (hr : HRd w h hv) (hl : RdL w 3 vc l v) (hz : Szs l) :
    Calls Try.prog 7 #[hv, v] w fun en w' => en = .returned (.bool true) ∧ Below w.heap.size w w' := by
  have HRE := Lib.hid (Reach_any h hv l v w hr hl hz)
  have HSW : Hid (∀ w', Below w.heap.size w w' → Calls Try.prog 15 #[hv, v] w' fun e w'' => SweepOut w' (Hepy.sweep (cells h) l) e w'') := fun w' hb => Sweep_any h hv l v w' (hr.below hb) (hl.below hb) hz
  have HH := Lib.hid hr
  have HL := Lib.hid hl
  have HZ := Lib.hid hz
  have HLV := Lib.hid heapLives_true
  obtain ⟨C, hC⟩ : ∃ C, Hepy.askedH (cells h) l = C := ⟨_, rfl⟩
  have HREQ : Hid (Hepy.reach (cells h) l = if C ≠ 0 then ([], C) else (Hepy.sorted (Hepy.walked (cells h) l), 0)) := by show _ = _; unfold Hepy.reach; rw [hC]
  have HSWQ : Hid (Hepy.sweep (cells h) l = if C ≠ 0 then ([], C) else (Hepy.swept (cells h) l, 0)) := by show _ = _; unfold Hepy.sweep; rw [hC]
  have HC := Lib.hid hC
  obtain ⟨UA, ucap, rfl, hu1, hu2, hu3⟩ := hr.r
  have HU3 := Lib.hid hu3
  obtain ⟨A, cap, rfl, hc1, hc2, -⟩ := hl
  obtain ⟨rl, re, hre⟩ : ∃ rl re, Hepy.reach (cells h) l = (rl, re) := ⟨_, _, rfl⟩
  obtain ⟨sl, se, hse⟩ : ∃ sl se, Hepy.sweep (cells h) l = (sl, se) := ⟨_, _, rfl⟩
  rw [hre] at HRE HREQ
  rw [hse] at HSW HSWQ
  clear hr hC hre hse hz hu3
  go_enter Try.func7, Try.ntmps7
  go_wp2_with (fail)
  refine (HRE.out).mono ?_
  rintro en W ⟨v1, rfl, hrd1, hbW⟩
  have HU := Lib.hid hbW
  have HR1 : Hid (RdL W 1 ic rl v1) := hrd1
  obtain ⟨A1, cap1, rfl, _⟩ := hrd1
  clear hbW HRE
  simp only
  go_wp2_with (fail)
  refine (HSW.out _ HU.out).mono ?_
  rintro en V ⟨v2, h2, rfl, hc2', hown2, hel2, hbV⟩
  have HUV := Lib.hid (HU.out.trans (hbV.mono HU.out.size))
  have HRV := Lib.hid (HR1.out.below hbV)
  have HDV : Hid (HRd V h2 v2) := ⟨Rd.own hown2, fun x hx => ((hel2 x hx).1).rd⟩
  have HCS : Hid (cells h2 = sl) := hc2'
  obtain ⟨A2, cap2, rfl⟩ := own_slice hown2
  have hzV := HUV.out.size
  clear hbV hown2 hel2 hc2' HSW HR1
  simp only
  go_wp2_with (fail)
  refine (HLV.out _).mono ?_
  rintro en W1 ⟨rfl, hb1⟩
  have HU1 := Lib.hid (HUV.out.trans (hb1.mono hzV))
  have HR2 := Lib.hid (HRV.out.below hb1)
  have HD2 := Lib.hid (HDV.out.below hb1)
  have hz1 := HU1.out.size
  have HOK : Hid (∀ w', RdL w' 1 ic [(re : Int), (se : Int)] (.slice (some ⟨W1.heap.size, 0, none⟩) 2 2) → Calls Try.prog 11 #[.slice (some ⟨W1.heap.size, 0, none⟩) 2 2] w' fun e w'' => e = .returned (.bool ([(re : Int), (se : Int)].all fun n => decide (n = 0))) ∧ w'' = w') := fun w' h => ok_any _ _ w' h
  obtain ⟨q, hq⟩ : ∃ q, ([(re : Int), (se : Int)].all fun n => decide (n = 0)) = q := ⟨_, rfl⟩
  rw [hq] at HOK
  have HQ := Lib.hid hq
  clear hb1 hq HRV HDV
  go_wp2_with (fail)
  refine (HOK.out _ (rd_box (Box.new W1 _ _) (by rfl) rfl (by omega))).mono ?_
  rintro en W2 ⟨rfl, hw2⟩
  have hb2 : Below W1.heap.size W1 W2 := by rw [hw2]; exact below1 W1 _
  have HU2 := Lib.hid (HU1.out.trans (hb2.mono hz1))
  have HR3 := Lib.hid (HR2.out.below hb2)
  have HD3 := Lib.hid (HD2.out.below hb2)
  have hz2 := HU2.out.size
  clear hw2 hb2 HR2 HD2
  by_cases y : C = 0
  · subst y
    have hq1 := HREQ.out
    have hq2 := HSWQ.out
    simp only [ne_eq, not_true_eq_false, if_false] at hq1 hq2
    injection hq1 with hq3 hq4
    injection hq2 with hq5 hq6
    subst hq4 hq6
    obtain rfl : q = true := by have := HQ.out; rw [← this]; rfl
    obtain ⟨hright, hfit⟩ := Hepy.asked_zero.1 HC.out
    have hcs2 := HCS.out
    rw [hq5] at hcs2
    have hlen2 : h2.length = h.length := by have := congrArg List.length hcs2; rw [cells_len, Hepy.swept_len, cells_len] at this; exact this
    have hle : h.length ≤ 300 := by have := hright.le; rw [cells_len] at this; exact this
    have hrll : rl.length ≤ 1000000 := by
      have hok := (Hepy.walked_came hright.sound (fun v hv => (Hepy.fits_leads (List.all_eq_true.1 hfit v hv)).1)).ok
      have h9 := hok.len
      rw [cells_len] at h9
      have h8 : rl.length = (Hepy.walked (cells h) l).length := by rw [hq3]; unfold Hepy.sorted; simp
      omega
    have hpair : rl.Pairwise (· ≤ ·) := by rw [hq3]; exact sorted_pair _
    have HPAIR := Lib.hid hpair
    have HSH : Hid (Shr h) := fun x hx => by have := hright.vl x.c (by unfold cells; exact List.mem_map.2 ⟨x, hx, rfl⟩); omega
    have hr2 := Hepy.right_swept hright hfit
    have HSH2 : Hid (Shr h2) := fun x hx => by have := hr2.vl x.c (by rw [← hcs2]; unfold cells; exact List.mem_map.2 ⟨x, hx, rfl⟩); omega
    have HAT : Hid (∀ (k : Nat) (x : CellV), h2[k]? = some x → ∃ y, h[k]? = some y ∧ ((rl.contains (k : Int) = true ∧ x.c = y.c) ∨ (rl.contains (k : Int) = false ∧ x.c.kind = 0))) := fun k x hx => by
      have hk : k < h.length := by have := (List.getElem?_eq_some_iff.1 hx).1; omega
      obtain ⟨y, hy⟩ : ∃ y, h[k]? = some y := ⟨_, List.getElem?_eq_getElem hk⟩
      have e1 := at_cells hx
      have e2 := at_cells hy
      rw [hcs2, Hepy.swept_at (by rw [cells_len]; exact hk)] at e1
      refine ⟨y, hy, ?_⟩
      rw [hq3, sorted_has]
      by_cases hm : k ∈ Hepy.walked (cells h) l
      · rw [if_pos hm, e2] at e1
        exact .inl ⟨decide_eq_true hm, e1.symm⟩
      · rw [if_neg hm] at e1
        exact .inr ⟨decide_eq_false hm, by rw [← e1]; rfl⟩
    have hag := Hepy.swept_again hright hfit
    rw [← hcs2] at hag
    have HAG := Lib.hid hag
    have HCK : Hid (Hepy.checkH (cells h2) = 0) := by show _ = _; rw [hcs2]; exact Hepy.check_zero.2 hr2
    have HLN := Lib.hid hlen2
    have HRLL := Lib.hid hrll
    clear hq3 hq5 hright hfit hcs2 hpair hr2 hag hlen2 hrll
    go_upto_region 6 with (fail)
    go_loopg [49] h2.length (fun gg s49 wr => ∃ j : Nat, j ≤ h2.length ∧ h2.length - j ≤ gg ∧ s49 = .int .i64 (j : Int) ∧ Hid (Below W2.heap.size W2 wr))
    case atStart => exact ⟨0, Nat.zero_le _, by omega, rfl, Below.refl _ _⟩
    case round =>
      obtain ⟨j, hj, hgg, rfl, BW⟩ := hrel
      have HUr := Lib.hid (HU2.out.trans (BW.out.mono hz2))
      have hzr := BW.out.size
      by_cases hlt : j < h2.length
      · have hlt2 : decide ((j : Int) < (h2.length : Int)) = true := decide_eq_true (by omega)
        have hltz : (j : Int) < (h2.length : Int) := by omega
        obtain ⟨x, hx⟩ : ∃ x, h2[j]? = some x := ⟨_, List.getElem?_eq_getElem hlt⟩
        have hat := HAT.out j x hx
        have HCX := Lib.hid (HD3.out.n x (List.mem_of_getElem? hx))
        have HSX := Lib.hid (HSH2.out x (List.mem_of_getElem? hx))
        obtain ⟨A8, cap8, e8, _, _, hr8⟩ := (HD3.out.below BW.out).r
        injection e8 with e8 _ e9
        subst e8
        subst e9
        obtain ⟨g8, o8, rfl, hg8, hrg8⟩ := hr8 (by omega)
        have r8 : Hid (wr.rangeAt g8 (o8 + j * 3) (cc x).toList) := RdL.elem (k := 3) (f := cc) (fun _ => rfl) hrg8 hx
        have HATX := Lib.hid hat
        clear hr8 hrg8 hx hat
        go_upto_region 8 with (first | (refine wpList_load_mid rfl 46 (.tmp 52) rfl g8 (o8 + j * 3) rfl (cc x).toList _ r8.out Try.underlying46 rfl info_cell ?_) | (refine wpList_store_box rfl 46 (.tmp 10) (.tmp 53) rfl wr.heap.size (cc x) rfl rfl 46 _ (Box.new wr _ _) info_cell rfl (cc_one x) ?_; intro w6 hx6 hu6 hz6))
        have hb6 : Below wr.heap.size wr w6 := ((Below.refl _ wr).alloc (Nat.le_refl _) _).trans (hu6.own (Nat.le_refl _) (by simp))
        have BW6 := Lib.hid (BW.out.trans (hb6.mono hzr))
        have HX6 := Lib.hid hx6
        have hz6W := BW6.out.size
        have HBS := Lib.hid (search_any rl (j : Int) _ w6 (HR3.out.below BW6.out) HPAIR.out HRLL.out)
        clear hb6 hu6 hx6 hz6 r8 BW
        go_wp2_with (fail)
        refine (HBS.out).mono ?_
        rintro en w7 ⟨pp, rfl, hb7⟩
        have BW7 := Lib.hid (BW6.out.trans (hb7.mono hz6W))
        have HX7 := Lib.hid (HX6.out.below hb7 HX6.out.lt)
        have hz7W := BW7.out.size
        have HU7 := Lib.hid (HU2.out.trans (BW7.out.mono hz2))
        clear hb7 HBS HX6 BW6
        simp only
        obtain ⟨z, hz, hcase⟩ := HATX.out
        have HHZ := Lib.hid hz
        have hjl : j < h.length := (List.getElem?_eq_some_iff.1 hz).1
        have hx7lt := HX7.out.lt
        have k0 : w7.cell? ⟨wr.heap.size, 0, none⟩ = some (.int .i64 x.c.kind) := HX7.out.cell 0
        rcases hcase with ⟨q1, q2⟩ | ⟨q1, q2⟩
        · rw [q1]
          obtain ⟨g9, o9, rfl, hg9, hrg9⟩ := HU3.out (by omega)
          have HSZ1 : Hid (∀ w', Below w7.heap.size w7 w' → RdL w' 3 cc [z] (.slice (some ⟨g9, o9 + j * 3, none⟩) 1 (ucap - j))) := fun w' hb => by
            refine ⟨_, _, rfl, by show 1 ≤ ucap - j; omega, by omega, fun _ => ⟨g9, o9 + j * 3, rfl, Nat.lt_of_lt_of_le hg9 (Nat.le_trans HU7.out.size hb.size), fun i u hu => ?_⟩⟩
            have h5 : (cc z).toList[i]? = some u := by simpa [flat] using hu
            have h6 := RdL.elem (k := 3) (f := cc) (fun _ => rfl) hrg9 hz i u h5
            rw [(HU7.out.trans (hb.mono HU7.out.size)).cell (p := ⟨g9, o9 + j * 3 + i, none⟩) hg9]
            exact h6
          have HCZ := Lib.hid (HH.out.n z (List.mem_of_getElem? hz))
          have HSZZ := Lib.hid (HSH.out z (List.mem_of_getElem? hz))
          have HSC : Hid (∀ w' b, Below w7.heap.size w7 w' → Box w' b 46 (cc x) → Calls Try.prog 12 #[.slice (some ⟨b, 0, none⟩) 1 1, .slice (some ⟨g9, o9 + j * 3, none⟩) 1 (ucap - j)] w' fun e w'' => e = .returned (.bool true) ∧ Below w'.heap.size w' w'') := fun w' b hb hbx => by
            have := samecells_any [x] [z] (.slice (some ⟨b, 0, none⟩) 1 1) (.slice (some ⟨g9, o9 + j * 3, none⟩) 1 (ucap - j)) w' ⟨rd_box hbx (by simp [flat]) rfl (by omega), fun y hy => by rw [List.mem_singleton] at hy; subst hy; exact HCX.out.below (BW7.out.trans (hb.mono hz7W))⟩
              ⟨HSZ1.out w' hb, fun y hy => by rw [List.mem_singleton] at hy; subst hy; exact HCZ.out.below (HU7.out.trans (hb.mono HU7.out.size))⟩ (fun y hy => by rw [List.mem_singleton] at hy; subst hy; exact HSX.out) (fun y hy => by rw [List.mem_singleton] at hy; subst hy; exact HSZZ.out)
            have e : decide (cells [x] = cells [z]) = true := decide_eq_true (by simp [cells, q2])
            rw [e] at this
            exact this
          have hjz : (j : Int) ≤ (j : Int) + 1 := by omega
          have hj1 : ((j : Int) + 1 - (j : Int)).toNat = 1 := by omega
          have hj2 : ((j : Int) + 1).toNat - j = 1 := by omega
          have hj3 : (j : Int) + 1 ≤ (ucap : Int) := by omega
          have hj4 : j + 1 ≤ ucap := by omega
          have hj5 : j ≤ ucap := by omega
          have hjw : IntKind.i64.wrap ((j : Int) + 1) = (j : Int) + 1 := by rw [IntKind.wrap_i64]; omega
          have hjc : 0 ≤ (j : Int) + 1 ∧ (j : Int) + 1 ≤ (ucap : Int) := by omega
          have hjd : j ≤ ((j : Int) + 1).toNat := by omega
          have hje : ¬ ucap = j := by omega
          clear hrg9 hz q2
          go_upto_region 9 with (fail)
          refine wp_region_held_drew (S := fun w' => Below w7.heap.size w7 w' ∧ Box w' wr.heap.size 46 (cc x)) (by kernel_rfl) ⟨(Below.refl _ w7).drew, HX7.out.drew⟩ (fun hHeld => ?_)
          refine wpAnyH_take (i := 0) (v := ?_) rfl (by kernel_rfl) (by kernel_rfl) (by kernel_rfl) (fun _ _ _ h => h) (Or.inl ⟨by kernel_rfl, ?_⟩) (by assumption) ?_
          rotate_left
          · intro w hSw
            (try dsimp only at hSw)
            go_simp
            try (with_reducible rfl)
          (try simp only [Act.put, List.getElem_toArray, List.getElem_cons_zero, List.setIfInBounds_toArray, List.set_cons_zero, List.set_cons_succ])
          refine wpAnyH_take (i := 1) (v := ?_) rfl (by kernel_rfl) (by kernel_rfl) (by kernel_rfl) (fun _ _ _ h => h) (Or.inl ⟨by kernel_rfl, ?_⟩) (by assumption) ?_
          rotate_left
          · intro w hSw
            (try dsimp only at hSw)
            go_simp
            try (with_reducible rfl)
          (try simp only [Act.put, List.getElem_toArray, List.getElem_cons_succ, List.getElem_cons_zero, List.setIfInBounds_toArray, List.set_cons_zero, List.set_cons_succ])
          refine wpAnyH_take (i := 2) (v := _) rfl (by kernel_rfl) (by kernel_rfl) (by kernel_rfl) (fun _ _ _ h => h) (yields_load_box (by kernel_rfl) 46 (.tmp 10) rfl (wr.heap.size) 46 (cc x) _ rfl (fun _ h => h.2) Try.underlying46 rfl info_cell) (by assumption) ?_
          (try simp only [Act.put, List.getElem_toArray, List.getElem_cons_succ, List.getElem_cons_zero, List.setIfInBounds_toArray, List.set_cons_zero, List.set_cons_succ])
          refine wpAnyH_take (i := 4) (v := ?_) rfl (by kernel_rfl) (by kernel_rfl) (by kernel_rfl) (fun _ _ _ h => h) (Or.inl ⟨by kernel_rfl, ?_⟩) (by assumption) ?_
          rotate_left
          · intro w hSw
            (try dsimp only at hSw)
            go_simp
            try (with_reducible rfl)
          (try simp only [Act.put, List.getElem_toArray, List.getElem_cons_succ, List.getElem_cons_zero, List.setIfInBounds_toArray, List.set_cons_zero, List.set_cons_succ])
          refine wpAnyH_take (i := 5) (v := ?_) rfl (by kernel_rfl) (by kernel_rfl) (by kernel_rfl) (fun _ _ _ h => h) (Or.inl ⟨by kernel_rfl, ?_⟩) (by assumption) ?_
          rotate_left
          · intro w hSw
            (try dsimp only at hSw)
            go_simp
            try (with_reducible rfl)
          (try simp only [Act.put, List.getElem_toArray, List.getElem_cons_succ, List.getElem_cons_zero, List.setIfInBounds_toArray, List.set_cons_zero, List.set_cons_succ])
          refine wpAnyH_take (i := 6) (v := ?_) rfl (by kernel_rfl) (by kernel_rfl) (by kernel_rfl) (fun _ _ _ h => h) (Or.inl ⟨by kernel_rfl, ?_⟩) (by assumption) ?_
          rotate_left
          · intro w hSw
            (try dsimp only at hSw)
            go_simp
            try (with_reducible rfl)
          (try simp only [Act.put, List.getElem_toArray, List.getElem_cons_succ, List.getElem_cons_zero, List.setIfInBounds_toArray, List.set_cons_zero, List.set_cons_succ])
          refine wpAnyH_take (i := 7) (v := ?_) rfl (by kernel_rfl) (by kernel_rfl) (by kernel_rfl) (fun _ _ _ h => h) (Or.inl ⟨by kernel_rfl, ?_⟩) (by assumption) ?_
          rotate_left
          · intro w hSw
            (try dsimp only at hSw)
            go_simp
            try (with_reducible rfl)
          (try simp only [Act.put, List.getElem_toArray, List.getElem_cons_succ, List.getElem_cons_zero, List.setIfInBounds_toArray, List.set_cons_zero, List.set_cons_succ])
          refine wpAnyH_take (i := 8) (v := .slice (some ⟨g9, o9 + j * 3, none⟩) 1 (ucap - j)) rfl (by kernel_rfl) (by kernel_rfl) (by kernel_rfl) (fun _ _ _ h => h) (Or.inl ⟨by kernel_rfl, ?_⟩) (by assumption) ?_
          · intro w hSw
            (try dsimp only at hSw)
            go_simp
            all_goals (rw [hjw, if_pos hjc, if_pos hjd, if_neg hje, hj2])
          (try simp only [Act.put, List.getElem_toArray, List.getElem_cons_succ, List.getElem_cons_zero, List.setIfInBounds_toArray, List.set_cons_zero, List.set_cons_succ])
          refine wpAnyH_ready (rs := [3]) (by kernel_rfl) (by simp) ?_
          refine AllReadyH.cons rfl (fun K hK => ?_) AllReadyH.nil
          go_simp
          refine hK.out _ _ ⟨hHeld.1.alloc hHeld.1.size _, hHeld.2.alloc _⟩ (fun hHeld => ?_)
          clear hK K
          (try simp only [Act.put, List.getElem_toArray, List.getElem_cons_succ, List.getElem_cons_zero, List.setIfInBounds_toArray, List.set_cons_zero, List.set_cons_succ])
          refine wpAnyH_ready (rs := [9]) (by kernel_rfl) (by simp) ?_
          refine AllReadyH.cons rfl (fun K hK => ?_) AllReadyH.nil
          go_simp
          refine (HSC.out _ _ hHeld.1 (Box.new _ _ _)).mono ?_
          rintro en w3 ⟨rfl, hb3⟩
          go_wp2_with (fail)
          refine hK.out _ _ ?_ (fun hHeld => ?_)
          · exact ⟨hHeld.1.trans (hb3.mono hHeld.1.size), hHeld.2.below hb3 hHeld.2.lt⟩
          clear hK K
          (try simp only [Act.put, List.getElem_toArray, List.getElem_cons_succ, List.getElem_cons_zero, List.setIfInBounds_toArray, List.set_cons_zero, List.set_cons_succ])
          refine wpAnyH_take (i := 10) (v := ?_) rfl (by kernel_rfl) (by kernel_rfl) (by kernel_rfl) (fun _ _ _ h => h) (Or.inl ⟨by kernel_rfl, ?_⟩) (by assumption) ?_
          rotate_left
          · intro w hSw
            (try dsimp only at hSw)
            go_simp
            try (with_reducible rfl)
          (try simp only [Act.put, List.getElem_toArray, List.getElem_cons_succ, List.getElem_cons_zero, List.setIfInBounds_toArray, List.set_cons_zero, List.set_cons_succ])
          refine wpAnyH_take (i := 11) (v := ?_) rfl (by kernel_rfl) (by kernel_rfl) (by kernel_rfl) (fun _ _ _ h => h) (Or.inl ⟨by kernel_rfl, ?_⟩) (by assumption) ?_
          rotate_left
          · intro w hSw
            (try dsimp only at hSw)
            go_simp
            try (with_reducible rfl)
          (try simp only [Act.put, List.getElem_toArray, List.getElem_cons_succ, List.getElem_cons_zero, List.setIfInBounds_toArray, List.set_cons_zero, List.set_cons_succ])
          refine wpAnyH_take (i := 12) (v := ?_) rfl (by kernel_rfl) (by kernel_rfl) (by kernel_rfl) (fun _ _ _ h => h) (Or.inl ⟨by kernel_rfl, ?_⟩) (by assumption) ?_
          rotate_left
          · intro w hSw
            (try dsimp only at hSw)
            go_simp
            try (with_reducible rfl)
          (try simp only [Act.put, List.getElem_toArray, List.getElem_cons_succ, List.getElem_cons_zero, List.setIfInBounds_toArray, List.set_cons_zero, List.set_cons_succ])
          refine wpAnyH_take (i := 13) (v := ?_) rfl (by kernel_rfl) (by kernel_rfl) (by kernel_rfl) (fun _ _ _ h => h) (Or.inl ⟨by kernel_rfl, ?_⟩) (by assumption) ?_
          rotate_left
          · intro w hSw
            (try dsimp only at hSw)
            go_simp
            try (with_reducible rfl)
          (try simp only [Act.put, List.getElem_toArray, List.getElem_cons_succ, List.getElem_cons_zero, List.setIfInBounds_toArray, List.set_cons_zero, List.set_cons_succ])
          refine wpAnyH_take (i := 14) (v := ?_) rfl (by kernel_rfl) (by kernel_rfl) (by kernel_rfl) (fun _ _ _ h => h) (Or.inl ⟨by kernel_rfl, ?_⟩) (by assumption) ?_
          rotate_left
          · intro w hSw
            (try dsimp only at hSw)
            go_simp
            try (with_reducible rfl)
          (try simp only [Act.put, List.getElem_toArray, List.getElem_cons_succ, List.getElem_cons_zero, List.setIfInBounds_toArray, List.set_cons_zero, List.set_cons_succ])
          refine wpAnyH_take (i := 15) (v := ?_) rfl (by kernel_rfl) (by kernel_rfl) (by kernel_rfl) (fun _ _ _ h => h) (Or.inl ⟨by kernel_rfl, ?_⟩) (by assumption) ?_
          rotate_left
          · intro w hSw
            (try dsimp only at hSw)
            go_simp
            try (with_reducible rfl)
          (try simp only [Act.put, List.getElem_toArray, List.getElem_cons_succ, List.getElem_cons_zero, List.setIfInBounds_toArray, List.set_cons_zero, List.set_cons_succ])
          refine wpAnyH_take (i := 16) (v := undef) rfl (by kernel_rfl) (by kernel_rfl) (by kernel_rfl) (fun _ _ _ h => h) (Or.inr ⟨by kernel_rfl, rfl⟩) (by assumption) ?_
          (try simp only [Act.put, List.getElem_toArray, List.getElem_cons_succ, List.getElem_cons_zero, List.setIfInBounds_toArray, List.set_cons_zero, List.set_cons_succ])
          refine wpAnyH_take (i := 17) (v := undef) rfl (by kernel_rfl) (by kernel_rfl) (by kernel_rfl) (fun _ _ _ h => h) (Or.inr ⟨by kernel_rfl, rfl⟩) (by assumption) ?_
          (try simp only [Act.put, List.getElem_toArray, List.getElem_cons_succ, List.getElem_cons_zero, List.setIfInBounds_toArray, List.set_cons_zero, List.set_cons_succ])
          refine wpAnyH_take (i := 18) (v := undef) rfl (by kernel_rfl) (by kernel_rfl) (by kernel_rfl) (fun _ _ _ h => h) (Or.inr ⟨by kernel_rfl, rfl⟩) (by assumption) ?_
          (try simp only [Act.put, List.getElem_toArray, List.getElem_cons_succ, List.getElem_cons_zero, List.setIfInBounds_toArray, List.set_cons_zero, List.set_cons_succ])
          refine wpAnyH_take (i := 19) (v := ?_) rfl (by kernel_rfl) (by kernel_rfl) (by kernel_rfl) (fun _ _ _ h => h) (Or.inl ⟨by kernel_rfl, ?_⟩) (by assumption) ?_
          rotate_left
          · intro w hSw
            (try dsimp only at hSw)
            go_simp
            try (with_reducible rfl)
          (try simp only [Act.put, List.getElem_toArray, List.getElem_cons_succ, List.getElem_cons_zero, List.setIfInBounds_toArray, List.set_cons_zero, List.set_cons_succ])
          refine wpAnyH_take (i := 20) (v := ?_) rfl (by kernel_rfl) (by kernel_rfl) (by kernel_rfl) (fun _ _ _ h => h) (Or.inl ⟨by kernel_rfl, ?_⟩) (by assumption) ?_
          rotate_left
          · intro w hSw
            (try dsimp only at hSw)
            go_simp
            try (with_reducible rfl)
          (try simp only [Act.put, List.getElem_toArray, List.getElem_cons_succ, List.getElem_cons_zero, List.setIfInBounds_toArray, List.set_cons_zero, List.set_cons_succ])
          refine wpAnyH_done (by kernel_rfl) ?_ _
          have HB9 := Lib.hid (BW7.out.trans (hHeld.1.mono hz7W))
          clear hHeld
          go_wp2
          go_roundg (h2.length - (j + 1))
          case measure => omega
          case rel => exact ⟨j + 1, by omega, by omega, by go_num, HB9.out⟩
        · rw [q1]
          rw [q2] at k0
          clear hz q2
          go_upto_region 9 with (fail)
          refine wp_region_held_drew (S := fun w' => Below w7.heap.size w7 w' ∧ w'.cell? ⟨wr.heap.size, 0, none⟩ = some (.int .i64 0)) (by kernel_rfl) ⟨(Below.refl _ w7).drew, k0⟩ (fun hHeld => ?_)
          refine wpAnyH_take (i := 0) (v := ?_) rfl (by kernel_rfl) (by kernel_rfl) (by kernel_rfl) (fun _ _ _ h => h) (Or.inl ⟨by kernel_rfl, ?_⟩) (by assumption) ?_
          rotate_left
          · intro w hSw
            (try dsimp only at hSw)
            go_simp
            try (with_reducible rfl)
          (try simp only [Act.put, List.getElem_toArray, List.getElem_cons_zero, List.setIfInBounds_toArray, List.set_cons_zero, List.set_cons_succ])
          refine wpAnyH_take (i := 1) (v := ?_) rfl (by kernel_rfl) (by kernel_rfl) (by kernel_rfl) (fun _ _ _ h => h) (Or.inl ⟨by kernel_rfl, ?_⟩) (by assumption) ?_
          rotate_left
          · intro w hSw
            (try dsimp only at hSw)
            go_simp
            try (with_reducible rfl)
          (try simp only [Act.put, List.getElem_toArray, List.getElem_cons_succ, List.getElem_cons_zero, List.setIfInBounds_toArray, List.set_cons_zero, List.set_cons_succ])
          refine wpAnyH_take (i := 2) (v := undef) rfl (by kernel_rfl) (by kernel_rfl) (by kernel_rfl) (fun _ _ _ h => h) (Or.inr ⟨by kernel_rfl, rfl⟩) (by assumption) ?_
          (try simp only [Act.put, List.getElem_toArray, List.getElem_cons_succ, List.getElem_cons_zero, List.setIfInBounds_toArray, List.set_cons_zero, List.set_cons_succ])
          refine wpAnyH_take (i := 3) (v := undef) rfl (by kernel_rfl) (by kernel_rfl) (by kernel_rfl) (fun _ _ _ h => h) (Or.inr ⟨by kernel_rfl, rfl⟩) (by assumption) ?_
          (try simp only [Act.put, List.getElem_toArray, List.getElem_cons_succ, List.getElem_cons_zero, List.setIfInBounds_toArray, List.set_cons_zero, List.set_cons_succ])
          refine wpAnyH_take (i := 4) (v := undef) rfl (by kernel_rfl) (by kernel_rfl) (by kernel_rfl) (fun _ _ _ h => h) (Or.inr ⟨by kernel_rfl, rfl⟩) (by assumption) ?_
          (try simp only [Act.put, List.getElem_toArray, List.getElem_cons_succ, List.getElem_cons_zero, List.setIfInBounds_toArray, List.set_cons_zero, List.set_cons_succ])
          refine wpAnyH_take (i := 5) (v := undef) rfl (by kernel_rfl) (by kernel_rfl) (by kernel_rfl) (fun _ _ _ h => h) (Or.inr ⟨by kernel_rfl, rfl⟩) (by assumption) ?_
          (try simp only [Act.put, List.getElem_toArray, List.getElem_cons_succ, List.getElem_cons_zero, List.setIfInBounds_toArray, List.set_cons_zero, List.set_cons_succ])
          refine wpAnyH_take (i := 6) (v := undef) rfl (by kernel_rfl) (by kernel_rfl) (by kernel_rfl) (fun _ _ _ h => h) (Or.inr ⟨by kernel_rfl, rfl⟩) (by assumption) ?_
          (try simp only [Act.put, List.getElem_toArray, List.getElem_cons_succ, List.getElem_cons_zero, List.setIfInBounds_toArray, List.set_cons_zero, List.set_cons_succ])
          refine wpAnyH_take (i := 7) (v := undef) rfl (by kernel_rfl) (by kernel_rfl) (by kernel_rfl) (fun _ _ _ h => h) (Or.inr ⟨by kernel_rfl, rfl⟩) (by assumption) ?_
          (try simp only [Act.put, List.getElem_toArray, List.getElem_cons_succ, List.getElem_cons_zero, List.setIfInBounds_toArray, List.set_cons_zero, List.set_cons_succ])
          refine wpAnyH_take (i := 8) (v := undef) rfl (by kernel_rfl) (by kernel_rfl) (by kernel_rfl) (fun _ _ _ h => h) (Or.inr ⟨by kernel_rfl, rfl⟩) (by assumption) ?_
          (try simp only [Act.put, List.getElem_toArray, List.getElem_cons_succ, List.getElem_cons_zero, List.setIfInBounds_toArray, List.set_cons_zero, List.set_cons_succ])
          refine wpAnyH_take (i := 9) (v := undef) rfl (by kernel_rfl) (by kernel_rfl) (by kernel_rfl) (fun _ _ _ h => h) (Or.inr ⟨by kernel_rfl, rfl⟩) (by assumption) ?_
          (try simp only [Act.put, List.getElem_toArray, List.getElem_cons_succ, List.getElem_cons_zero, List.setIfInBounds_toArray, List.set_cons_zero, List.set_cons_succ])
          refine wpAnyH_take (i := 10) (v := undef) rfl (by kernel_rfl) (by kernel_rfl) (by kernel_rfl) (fun _ _ _ h => h) (Or.inr ⟨by kernel_rfl, rfl⟩) (by assumption) ?_
          (try simp only [Act.put, List.getElem_toArray, List.getElem_cons_succ, List.getElem_cons_zero, List.setIfInBounds_toArray, List.set_cons_zero, List.set_cons_succ])
          refine wpAnyH_take (i := 11) (v := ?_) rfl (by kernel_rfl) (by kernel_rfl) (by kernel_rfl) (fun _ _ _ h => h) (Or.inl ⟨by kernel_rfl, ?_⟩) (by assumption) ?_
          rotate_left
          · intro w hSw
            (try dsimp only at hSw)
            go_simp
            try (with_reducible rfl)
          (try simp only [Act.put, List.getElem_toArray, List.getElem_cons_succ, List.getElem_cons_zero, List.setIfInBounds_toArray, List.set_cons_zero, List.set_cons_succ])
          refine wpAnyH_take (i := 12) (v := ?_) rfl (by kernel_rfl) (by kernel_rfl) (by kernel_rfl) (fun _ _ _ h => h) (Or.inl ⟨by kernel_rfl, ?_⟩) (by assumption) ?_
          rotate_left
          · intro w hSw
            (try dsimp only at hSw)
            go_simp
            try (with_reducible rfl)
          (try simp only [Act.put, List.getElem_toArray, List.getElem_cons_succ, List.getElem_cons_zero, List.setIfInBounds_toArray, List.set_cons_zero, List.set_cons_succ])
          refine wpAnyH_take (i := 13) (v := ?_) rfl (by kernel_rfl) (by kernel_rfl) (by kernel_rfl) (fun _ _ _ h => h) (Or.inl ⟨by kernel_rfl, ?_⟩) (by assumption) ?_
          rotate_left
          · intro w hSw
            (try dsimp only at hSw)
            go_simp
            try (with_reducible rfl)
          (try simp only [Act.put, List.getElem_toArray, List.getElem_cons_succ, List.getElem_cons_zero, List.setIfInBounds_toArray, List.set_cons_zero, List.set_cons_succ])
          refine wpAnyH_take (i := 14) (v := ?_) rfl (by kernel_rfl) (by kernel_rfl) (by kernel_rfl) (fun _ _ _ h => h) (Or.inl ⟨by kernel_rfl, ?_⟩) (by assumption) ?_
          rotate_left
          · intro w hSw
            (try dsimp only at hSw)
            go_simp
            try (with_reducible rfl)
          (try simp only [Act.put, List.getElem_toArray, List.getElem_cons_succ, List.getElem_cons_zero, List.setIfInBounds_toArray, List.set_cons_zero, List.set_cons_succ])
          refine wpAnyH_take (i := 15) (v := ?_) rfl (by kernel_rfl) (by kernel_rfl) (by kernel_rfl) (fun _ _ _ h => h) (Or.inl ⟨by kernel_rfl, ?_⟩) (by assumption) ?_
          rotate_left
          · intro w hSw
            (try dsimp only at hSw)
            go_simp
            try (with_reducible rfl)
          (try simp only [Act.put, List.getElem_toArray, List.getElem_cons_succ, List.getElem_cons_zero, List.setIfInBounds_toArray, List.set_cons_zero, List.set_cons_succ])
          refine wpAnyH_take (i := 16) (v := ?_) rfl (by kernel_rfl) (by kernel_rfl) (by kernel_rfl) (fun _ _ _ h => h) (Or.inl ⟨by kernel_rfl, ?_⟩) (by assumption) ?_
          rotate_left
          · intro w hSw
            (try dsimp only at hSw)
            go_simp
            try (with_reducible rfl)
          (try simp only [Act.put, List.getElem_toArray, List.getElem_cons_succ, List.getElem_cons_zero, List.setIfInBounds_toArray, List.set_cons_zero, List.set_cons_succ])
          refine wpAnyH_take (i := 17) (v := ?_) rfl (by kernel_rfl) (by kernel_rfl) (by kernel_rfl) (fun _ _ _ h => h) (Or.inl ⟨by kernel_rfl, ?_⟩) (by assumption) ?_
          rotate_left
          · intro w hSw
            (try dsimp only at hSw)
            go_simp
            try (with_reducible rfl)
          (try simp only [Act.put, List.getElem_toArray, List.getElem_cons_succ, List.getElem_cons_zero, List.setIfInBounds_toArray, List.set_cons_zero, List.set_cons_succ])
          refine wpAnyH_take (i := 18) (v := ?_) rfl (by kernel_rfl) (by kernel_rfl) (by kernel_rfl) (fun _ _ _ h => h) (Or.inl ⟨by kernel_rfl, ?_⟩) (by assumption) ?_
          rotate_left
          · intro w hSw
            (try dsimp only at hSw)
            go_simp
            try (with_reducible rfl)
          (try simp only [Act.put, List.getElem_toArray, List.getElem_cons_succ, List.getElem_cons_zero, List.setIfInBounds_toArray, List.set_cons_zero, List.set_cons_succ])
          refine wpAnyH_take (i := 19) (v := ?_) rfl (by kernel_rfl) (by kernel_rfl) (by kernel_rfl) (fun _ _ _ h => h) (Or.inl ⟨by kernel_rfl, ?_⟩) (by assumption) ?_
          rotate_left
          · intro w hSw
            (try dsimp only at hSw)
            go_simp
            try (with_reducible rfl)
          (try simp only [Act.put, List.getElem_toArray, List.getElem_cons_succ, List.getElem_cons_zero, List.setIfInBounds_toArray, List.set_cons_zero, List.set_cons_succ])
          refine wpAnyH_take (i := 20) (v := ?_) rfl (by kernel_rfl) (by kernel_rfl) (by kernel_rfl) (fun _ _ _ h => h) (Or.inl ⟨by kernel_rfl, ?_⟩) (by assumption) ?_
          rotate_left
          · intro w hSw
            (try dsimp only at hSw)
            go_simp
            try (with_reducible rfl)
          (try simp only [Act.put, List.getElem_toArray, List.getElem_cons_succ, List.getElem_cons_zero, List.setIfInBounds_toArray, List.set_cons_zero, List.set_cons_succ])
          refine wpAnyH_done (by kernel_rfl) ?_ _
          have HB9 := Lib.hid (BW7.out.trans (hHeld.1.mono hz7W))
          clear hHeld
          go_wp2
          go_roundg (h2.length - (j + 1))
          case measure => omega
          case rel => exact ⟨j + 1, by omega, by omega, by go_num, HB9.out⟩
      · have hlt2 : decide ((j : Int) < (h2.length : Int)) = false := decide_eq_false (by omega)
        obtain ⟨wi, rfl⟩ : ∃ wi : World, wi = wr := ⟨_, rfl⟩
        have HDi := Lib.hid (HD3.out.below BW.out)
        have HSA := Lib.hid (Sweep_any h2 _ l _ wi HDi.out (HL.out.below HUr.out) HZ.out)
        rw [HAG.out] at HSA
        clear BW
        go_wp2_with (fail)
        refine (HSA.out).mono ?_
        rintro en w3 ⟨v3, h3, rfl, hc3, hown3, hel3, hb3⟩
        have HU9 := Lib.hid (HUr.out.trans (hb3.mono HUr.out.size))
        have HD4 := Lib.hid (HDi.out.below hb3)
        have HDA : Hid (HRd w3 h3 v3) := ⟨Rd.own hown3, fun x hx => ((hel3 x hx).1).rd⟩
        have HC3 : Hid (cells h3 = cells h2) := hc3
        have HSH3 : Hid (Shr h3) := fun x hx => by
          have h9 : x.c ∈ cells h3 := by unfold cells; exact List.mem_map.2 ⟨x, hx, rfl⟩
          rw [hc3] at h9
          obtain ⟨y, hy, he⟩ := List.mem_map.1 h9
          rw [← he]
          exact HSH2.out y hy
        obtain ⟨A3, cap3, rfl⟩ := own_slice hown3
        have HSC := Lib.hid (samecells_any h3 h2 _ _ w3 HDA.out HD4.out HSH3.out HSH2.out)
        rw [HC3.out, decide_eq_true rfl] at HSC
        have e1 : ((h2.length : Int) == (h.length : Int)) = true := by rw [HLN.out]; simp
        have e1N : (h2.length == h.length) = true := by rw [HLN.out]; simp
        have hz3 := HU9.out.size
        clear hb3 hown3 hel3 hc3 HSA
        simp only
        go_wp2_with (fail)
        refine (HSC.out).mono ?_
        rintro en w4 ⟨rfl, hb4⟩
        have HU10 := Lib.hid (HU9.out.trans (hb4.mono hz3))
        have HCH := Lib.hid (Check_any h2 _ w4 (HD4.out.below hb4))
        rw [HCK.out] at HCH
        have hz4 := HU10.out.size
        clear hb4
        go_wp2_with (fail)
        refine (HCH.out).mono ?_
        rintro en w5 ⟨rfl, hb5⟩
        have HU11 := Lib.hid (HU10.out.trans (hb5.mono hz4))
        clear hb5
        go_wp2
        go_ret
        exact ⟨rfl, HU11.out⟩
  · have hq1 := HREQ.out
    have hq2 := HSWQ.out
    rw [if_pos y] at hq1 hq2
    injection hq1 with hq3 hq4
    injection hq2 with hq5 hq6
    subst hq4 hq6
    obtain rfl : q = false := by have := HQ.out; rw [← this]; simp; omega
    have hh2 : h2.length = 0 := by
      have := HCS.out
      rw [hq5] at this
      have := congrArg List.length this
      rw [cells_len] at this
      exact this
    have hl0 : ((h2.length : Int) == 0) = true := by rw [hh2]; rfl
    have hl0N : (h2.length == 0) = true := by rw [hh2]; rfl
    have HH2 := Lib.hid hh2
    clear y hq3 hq5 hh2
    go_wp2_with (fail)
    refine (HLV.out _).mono ?_
    rintro en W3 ⟨rfl, hb3⟩
    go_wp2
    go_ret
    exact ⟨rfl, HU2.out.trans (hb3.mono hz2)⟩
end Go.Proofs.Ytbhccidchjmjlaa
