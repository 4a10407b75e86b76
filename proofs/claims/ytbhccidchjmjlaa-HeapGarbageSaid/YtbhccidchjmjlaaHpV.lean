/-
  HeapGarbage returns true. Conditions: the cells read as a row; the text is no longer than an int tells.
-/
import Derived.Test.YtbhccidchjmjlaaHpT
import Derived.Test.YtbhccidchjmjlaaHpU
namespace Go.Proofs.Ytbhccidchjmjlaa
set_option linter.unusedSimpArgs false
set_option linter.unusedVariables false
open Go.RowKit

set_option maxRecDepth 100000 in
set_option maxHeartbeats 16000000 in
theorem garbage_walk (h : List CellV) (hv : Value) (v : Valu.V) (n : Int) (w : World) (hr : HRd w h hv) (hz : v.s.length ≤ 9223372036854775807) :
    Calls Try.prog 6 #[hv, .agg (vc v), .int .i64 n] w fun en w' => en = .returned (.bool true) ∧ Below w.heap.size w w' := by
  have HSW : Hid (∀ w' x, Below w.heap.size w w' → RdL w' 3 vc [v] x → Calls Try.prog 15 #[hv, x] w' fun e w'' => SweepOut w' (Hepy.sweep (cells h) [v]) e w'') := fun w' x hb hl => Sweep_any h hv [v] x w' (hr.below hb) hl (fun y hy => by rw [List.mem_singleton] at hy; subst hy; exact hz)
  obtain ⟨i0, hi0, hz0_, hz1_, hz2_⟩ := info_parts parts_cell
  have HH := Lib.hid hr
  have HZ := Lib.hid hz
  have HLV := Lib.hid heapLives_true
  obtain ⟨C, hC⟩ : ∃ C, Hepy.askedH (cells h) [v] = C := ⟨_, rfl⟩
  have HC := Lib.hid hC
  have HSWQ : Hid (Hepy.sweep (cells h) [v] = if C ≠ 0 then ([], C) else (Hepy.swept (cells h) [v], 0)) := by show _ = _; unfold Hepy.sweep; rw [hC]
  obtain ⟨UA, ucap, rfl, hu1, hu2, _⟩ := hr.r
  obtain ⟨sl, se, hse⟩ : ∃ sl se, Hepy.sweep (cells h) [v] = (sl, se) := ⟨_, _, rfl⟩
  rw [hse] at HSW HSWQ
  clear hr hC hse hz
  go_enter Try.func6, Try.ntmps6
  go_upto_region 1 with (fail)
  refine gen_world (F := fun W => Box W w.heap.size 31 (vc v) ∧ Below w.heap.size w W) ⟨Box.new w _ _, below1 w _⟩ ?_
  rintro W ⟨bx, hU⟩
  have HBX := Lib.hid bx
  have HU := Lib.hid hU
  have hzW := hU.size
  have hbl := bx.lt
  clear bx hU
  go_wp2_with (refine wpList_load_row rfl 31 (.tmp 4) rfl w.heap.size rfl _ (vc v) (0, 0) _ HBX.out Try.underlying31 rfl info_val ?_)
  refine (HSW.out _ _ (HU.out.trans ((below1 W _).mono hzW)) (rd_box (Box.new W _ _) (by simp [flat]) rfl (by simp))).mono ?_
  obtain ⟨W0, hW0⟩ : ∃ W0, (W.alloc (.cells (vc v) 31)) = W0 := ⟨_, rfl⟩
  have HU0 : Hid (Below w.heap.size w W0) := by show Below _ _ _; rw [← hW0]; exact HU.out.trans ((below1 W _).mono hzW)
  have HB0 : Hid (Box W0 w.heap.size 31 (vc v)) := by show Box _ _ _ _; rw [← hW0]; exact HBX.out.alloc _
  have hbl0 := HB0.out.lt
  rw [hW0]
  clear hW0 HBX
  rintro en W1 ⟨v2, s, rfl, hcs, hown, hel, hb1⟩
  have HU1 := Lib.hid (HU0.out.trans (hb1.mono HU0.out.size))
  have HB1 := Lib.hid (HB0.out.below hb1 hbl0)
  have HCS : Hid (cells s = sl) := hcs
  obtain ⟨A2, cap2, rfl⟩ := own_slice hown
  have HOW := Lib.hid hown
  have HEL := Lib.hid hel
  have hz1 := HU1.out.size
  have hz01 := hb1.size
  clear hb1 hown hel hcs HSW
  simp only
  go_wp2_with (fail)
  refine (HLV.out _).mono ?_
  rintro en W2 ⟨rfl, hb2⟩
  have HU2 := Lib.hid (HU1.out.trans (hb2.mono hz1))
  have HB2 := Lib.hid (HB1.out.below hb2 HB1.out.lt)
  have HOW2 := Lib.hid (own_below HOW.out hb2)
  have HEL2 : Hid (∀ x ∈ s, COwn W2 W0.heap.size x ∧ Apart x.as (.slice A2 s.length cap2) ∧ Apart x.ks (.slice A2 s.length cap2)) := fun x hx => ⟨(HEL.out x hx).1.below hb2, (HEL.out x hx).2⟩
  have hz2 := HU2.out.size
  have hz12 := hb2.size
  clear hb2 HOW HEL HB1
  have HLE : Hid (s.length ≤ h.length) := by
    show _ ≤ _
    have e := congrArg List.length HCS.out
    rw [cells_len] at e
    have q := HSWQ.out
    by_cases y : C = 0
    · rw [if_neg (by simp [y])] at q; injection q with q1 q2; rw [q1, Hepy.swept_len, cells_len] at e; omega
    · rw [if_pos y] at q; injection q with q1 q2; rw [q1] at e; have e2 : s.length = 0 := e; omega
  have hse : C = se := by
    have q := HSWQ.out
    by_cases y : C = 0
    · rw [if_neg (by simp [y])] at q; injection q with q1 q2; omega
    · rw [if_pos y] at q; injection q with q1 q2; omega
  subst hse
  have hlez : (s.length : Int) ≤ (h.length : Int) := by have := HLE.out; omega
  have hlez2 : decide ((s.length : Int) ≤ (h.length : Int)) = true := decide_eq_true hlez
  by_cases y : C = 0 ∧ 0 ≤ n ∧ n ≤ 20
  · obtain ⟨rfl, y1, y2⟩ := y
    obtain ⟨m, rfl⟩ : ∃ m : Nat, n = (m : Int) := ⟨n.toNat, by omega⟩
    have g1 : (((0 : Nat) : Int) != 0) = false := by simp
    have g2 : decide ((m : Int) < 0) = false := decide_eq_false (by omega)
    have g3 : decide ((20 : Int) < (m : Int)) = false := decide_eq_false (by omega)
    have g4 : decide ((m : Int) > 20) = false := decide_eq_false (by omega)
    have hm : m ≤ 20 := by omega
    clear hlez hlez2 y1 y2
    have hsl : sl = Hepy.swept (cells h) [v] := by have q := HSWQ.out; rw [if_neg (by simp)] at q; injection q
    subst hsl
    have hcl : s.length = h.length := by have := congrArg List.length HCS.out; rw [cells_len, Hepy.swept_len, cells_len] at this; exact this
    have hright := (Hepy.asked_zero.1 HC.out).1
    have hle : h.length ≤ 300 := by have := hright.le; rw [cells_len] at this; exact this
    have HCL := Lib.hid hcl
    have HAL := Lib.hid (Hepy.alike_grown HC.out m)
    rw [cells_len] at HAL
    clear hright hcl HSWQ
    go_upto_region 5 with (fail)
    go_loopg [41, 7] m (fun gg s41 s7 wr => ∃ (j : Nat) (acc : List CellV) (A : Option Addr) (cap : Nat), j ≤ m ∧ m - j ≤ gg ∧ s41 = .int .i64 (j : Int) ∧ s7 = .slice A acc.length cap ∧ Hid (cells acc = Hepy.grown (Hepy.swept (cells h) [v]) v j) ∧ Hid (wr.ownsRow W0.heap.size 46 3 (.slice A acc.length cap) acc.length (flat cc acc)) ∧ Hid (∀ x ∈ acc, COwn wr W0.heap.size x ∧ Apart x.as (.slice A acc.length cap) ∧ Apart x.ks (.slice A acc.length cap)) ∧ Hid (Below W0.heap.size W2 wr))
    case atStart => exact ⟨0, s, A2, cap2, Nat.zero_le _, by omega, rfl, rfl, by show _ = _; rw [HCS.out, Hepy.grown_zero], HOW2.out, HEL2.out, Below.refl _ _⟩
    case round =>
      obtain ⟨j, acc, A, cap, hj, hgg, rfl, rfl, HAC, HOWr, HELr, BW⟩ := hrel
      have hzr := BW.out.size
      have HBr := Lib.hid (HB2.out.below BW.out hbl0)
      have HUr := Lib.hid (HU2.out.trans (BW.out.mono (show w.heap.size ≤ W0.heap.size from by omega)))
      have hal : acc.length = h.length + j := by have := congrArg List.length HAC.out; rw [cells_len, Hepy.grown_len, Hepy.swept_len, cells_len] at this; exact this
      by_cases hlt : j < m
      · have hlt2 : decide ((j : Int) < (m : Int)) = true := decide_eq_true (by omega)
        have hltz : (j : Int) < (m : Int) := by omega
        have HLT := Lib.hid HOWr.out.lt
        have HAL2 := Lib.hid hal
        have hal3 : acc.length ≤ 320 := by omega
        clear hal
        go_upto_region 6 with (fail)
        refine wp_region_held_drew (S := fun w' => Below W0.heap.size W2 w' ∧ Box w' w.heap.size 31 (vc v)) (by kernel_rfl) ⟨BW.out.drew, HBr.out.drew⟩ (fun hHeld => ?_)
        have hzd : W0.heap.size ≤ wr.drew.heap.size := by show _ ≤ wr.heap.size; omega
        refine wpAnyH_take (i := 0) (v := ?_) rfl (by kernel_rfl) (by kernel_rfl) (by kernel_rfl) (fun _ _ _ h => h) (Or.inl ⟨by kernel_rfl, ?_⟩) (by assumption) ?_
        rotate_left
        · intro w hSw
          (try dsimp only at hSw)
          go_simp
          try (with_reducible rfl)
        (try simp only [Act.put, List.getElem_toArray, List.getElem_cons_zero, List.setIfInBounds_toArray, List.set_cons_zero, List.set_cons_succ])
        refine wpAnyH_take (i := 1) (v := _) rfl (by kernel_rfl) (by kernel_rfl) (by kernel_rfl) (fun _ _ _ h => h) (yields_load_box (by kernel_rfl) 31 (.tmp 4) rfl (w.heap.size) 31 (vc v) _ rfl (fun _ h => h.2) Try.underlying31 rfl info_val) (by assumption) ?_
        (try simp only [Act.put, List.getElem_toArray, List.getElem_cons_succ, List.getElem_cons_zero, List.setIfInBounds_toArray, List.set_cons_zero, List.set_cons_succ])
        refine wpAnyH_take (i := 2) (v := ?_) rfl (by kernel_rfl) (by kernel_rfl) (by kernel_rfl) (fun _ _ _ h => h) (Or.inl ⟨by kernel_rfl, ?_⟩) (by assumption) ?_
        rotate_left
        · intro w hSw
          (try dsimp only at hSw)
          go_simp
          try (with_reducible rfl)
        (try simp only [Act.put, List.getElem_toArray, List.getElem_cons_succ, List.getElem_cons_zero, List.setIfInBounds_toArray, List.set_cons_zero, List.set_cons_succ])
        refine wpAnyH_take (i := 3) (v := ?_) rfl (by kernel_rfl) (by kernel_rfl) (by kernel_rfl) (fun _ _ _ h => h) (Or.inl ⟨by kernel_rfl, ?_⟩) (by assumption) ?_
        rotate_left
        · intro w hSw
          (try dsimp only at hSw)
          go_simp
          try (with_reducible rfl)
        (try simp only [Act.put, List.getElem_toArray, List.getElem_cons_succ, List.getElem_cons_zero, List.setIfInBounds_toArray, List.set_cons_zero, List.set_cons_succ])
        refine wpAnyH_ready (rs := [4]) (by kernel_rfl) (by simp) ?_
        refine AllReadyH.cons rfl (fun K hK => ?_) AllReadyH.nil
        go_simp
        refine (refTo_any _ _).mono ?_
        rintro en w1 ⟨rfl, hb1⟩
        go_wp2_with (fail)
        refine hK.out _ _ ?_ (fun hHeld => ?_)
        · exact ⟨hHeld.1.trans (hb1.mono hzd), hHeld.2.below hb1 hHeld.2.lt⟩
        clear hK K
        (try simp only [Act.put, List.getElem_toArray, List.getElem_cons_succ, List.getElem_cons_zero, List.setIfInBounds_toArray, List.set_cons_zero, List.set_cons_succ])
        have hbr1 : Below wr.heap.size wr w1 := (Below.refl _ wr).drew.trans hb1
        have hzr1 : wr.heap.size ≤ w1.heap.size := hbr1.size
        have hzw1 : W0.heap.size ≤ w1.heap.size := by omega
        refine wpAnyH_ready (rs := [5]) (by kernel_rfl) (by simp) ?_
        refine AllReadyH.cons rfl (fun K hK => ?_) AllReadyH.nil
        go_simp
        have bxw5 := Box.new w1 31 #[.int .i64 v.k, .int .i64 v.n, .string (byt v.s), .int .i64 4, .int .i64 (acc.length : Int), .string (byt [])]
        have hbw5 : Below w1.heap.size w1 (w1.alloc (.cells #[.int .i64 v.k, .int .i64 v.n, .string (byt v.s), .int .i64 4, .int .i64 (acc.length : Int), .string (byt [])] 31)) := below1 w1 _
        obtain ⟨w5, hw5⟩ : ∃ w5, (w1.alloc (.cells #[.int .i64 v.k, .int .i64 v.n, .string (byt v.s), .int .i64 4, .int .i64 (acc.length : Int), .string (byt [])] 31)) = w5 := ⟨_, rfl⟩
        rw [hw5] at bxw5 hbw5
        rw [hw5]
        clear hw5
        refine hK.out _ _ ⟨hHeld.1.trans (hbw5.mono (hzw1)), hHeld.2.below hbw5 hHeld.2.lt⟩ (fun hHeld => ?_)
        clear hK K
        have hzw5 : W0.heap.size ≤ w5.heap.size := by have := hbw5.size; omega
        (try simp only [Act.put, List.getElem_toArray, List.getElem_cons_succ, List.getElem_cons_zero, List.setIfInBounds_toArray, List.set_cons_zero, List.set_cons_succ])
        refine wpAnyH_take (i := 6) (v := ?_) rfl (by kernel_rfl) (by kernel_rfl) (by kernel_rfl) (fun _ _ _ h => h) (Or.inl ⟨by kernel_rfl, ?_⟩) (by assumption) ?_
        rotate_left
        · intro w hSw
          (try dsimp only at hSw)
          go_simp
          try (with_reducible rfl)
        (try simp only [Act.put, List.getElem_toArray, List.getElem_cons_succ, List.getElem_cons_zero, List.setIfInBounds_toArray, List.set_cons_zero, List.set_cons_succ])
        refine wpAnyH_ready (rs := [7]) (by kernel_rfl) (by simp) ?_
        refine AllReadyH.cons rfl (fun K hK => ?_) AllReadyH.nil
        go_simp
        have bxw7 := Box.new w5 46 #[.int .i64 1, .slice none 0 0, .slice (some ⟨w1.heap.size, 0, none⟩) 2 2]
        have hbw7 : Below w5.heap.size w5 (w5.alloc (.cells #[.int .i64 1, .slice none 0 0, .slice (some ⟨w1.heap.size, 0, none⟩) 2 2] 46)) := below1 w5 _
        obtain ⟨w7, hw7⟩ : ∃ w7, (w5.alloc (.cells #[.int .i64 1, .slice none 0 0, .slice (some ⟨w1.heap.size, 0, none⟩) 2 2] 46)) = w7 := ⟨_, rfl⟩
        rw [hw7] at bxw7 hbw7
        rw [hw7]
        clear hw7
        refine hK.out _ _ ⟨hHeld.1.trans (hbw7.mono (hzw5)), hHeld.2.below hbw7 hHeld.2.lt⟩ (fun hHeld => ?_)
        clear hK K
        have hzw7 : W0.heap.size ≤ w7.heap.size := by have := hbw7.size; omega
        (try simp only [Act.put, List.getElem_toArray, List.getElem_cons_succ, List.getElem_cons_zero, List.setIfInBounds_toArray, List.set_cons_zero, List.set_cons_succ])
        have hzr5 := hbw5.size
        have hbr7 : Below wr.heap.size wr w7 := (hbr1.trans (hbw5.mono hzr1)).trans (hbw7.mono (by omega))
        have HO7 := Lib.hid (own_below HOWr.out hbr7)
        refine wpAnyH_ready (rs := [8]) (by kernel_rfl) (by simp) ?_
        refine AllReadyH.cons rfl (fun K hK => ?_) AllReadyH.nil
        refine step_append_lies _ rfl (.tmp 43) (.tmp 50) 22 rfl W0.heap.size 46 i0 _ 3 56 Try.underlying22 hi0 hz0_ hz1_ hz2_ rfl (by decide) (.slice A acc.length cap) acc.length (flat cc acc) (by simp [Act.eval, Act.put]) HO7.out ⟨w5.heap.size, 0, none⟩ 1 1 [.int .i64 1, .slice none 0 0, .slice (some ⟨w1.heap.size, 0, none⟩) 2 2] (by simp [Act.eval, Act.put]) rfl (by exact World.news_of_block bxw7) (by simp [Value.oneCell']) (by omega) (by unfold maxLen; omega) (by omega) hzw7 w7.heap.size rfl ?_
        intro g8 cap8 w8 hown8 hgr8 hor8 hlt8
        have hb8 : Below W0.heap.size w7 w8 := below_grown hgr8 hzw7 (fun k hk => (HLT.out k hk).1)
        refine hK.out _ _ ⟨hHeld.1.trans hb8, hHeld.2.below hb8 hbl0⟩ (fun hHeld => ?_)
        clear hK K
        (try simp only [Act.put, List.getElem_toArray, List.getElem_cons_succ, List.getElem_cons_zero, List.setIfInBounds_toArray, List.set_cons_zero, List.set_cons_succ])
        refine wpAnyH_take (i := 9) (v := ?_) rfl (by kernel_rfl) (by kernel_rfl) (by kernel_rfl) (fun _ _ _ h => h) (Or.inl ⟨by kernel_rfl, ?_⟩) (by assumption) ?_
        rotate_left
        · intro w hSw
          (try dsimp only at hSw)
          go_simp
          try (with_reducible rfl)
        (try simp only [Act.put, List.getElem_toArray, List.getElem_cons_succ, List.getElem_cons_zero, List.setIfInBounds_toArray, List.set_cons_zero, List.set_cons_succ])
        refine wpAnyH_done (by kernel_rfl) ?_ _
        have HB8 := Lib.hid (hHeld.1)
        have hor9 : (Value.slice A acc.length cap).ownBlock = some g8 ∨ w7.heap.size ≤ g8 := hor8.elim (fun h => .inl h) (fun h => .inr (by rw [h]; exact Nat.le_refl _))
        have hco5 : COwn w5 wr.heap.size (⟨⟨1, [], [v, ⟨4, (acc.length : Int), []⟩]⟩, none, 0, some ⟨w1.heap.size, 0, none⟩, 2⟩ : CellV) := ⟨World.ownsRow_nil _ _ _ _, box_own (k := 3) (n := 2) (cap := 2) (cur := [.int .i64 v.k, .int .i64 v.n, .string (byt v.s), .int .i64 4, .int .i64 (acc.length : Int), .string (byt [])]) hzr1 bxw5 (by omega) (by omega) rfl (by rfl) (by rfl), fun y hy => by
          rcases List.mem_cons.1 hy with h1 | h1
          · rw [h1]; exact HZ.out
          · rw [List.mem_singleton] at h1; rw [h1]; simp⟩
        have HCO7 := Lib.hid (hco5.below hbw7)
        have HEL8 : Hid (∀ y ∈ acc ++ [(⟨⟨1, [], [v, ⟨4, (acc.length : Int), []⟩]⟩, none, 0, some ⟨w1.heap.size, 0, none⟩, 2⟩ : CellV)], COwn w8 W0.heap.size y ∧ Apart y.as (.slice (some ⟨g8, 0, none⟩) (acc.length + 1) cap8) ∧ Apart y.ks (.slice (some ⟨g8, 0, none⟩) (acc.length + 1) cap8)) := fun y hy => by
          rcases List.mem_append.1 hy with h1 | h1
          · obtain ⟨p1, p2, p3⟩ := HELr.out y h1
            have q1 := p1.below hbr7
            exact ⟨q1.far hgr8 p2 p3, apart_next q1.a p2 hor9, apart_next q1.k p3 hor9⟩
          · rw [List.mem_singleton] at h1
            subst h1
            have q1 := HCO7.out
            have p2 := apart_old q1.a (Nat.le_refl _) (fun g hg => (HLT.out g hg).2)
            have p3 := apart_old q1.k (Nat.le_refl _) (fun g hg => (HLT.out g hg).2)
            exact ⟨(q1.far hgr8 p2 p3).base (by omega), apart_next q1.a p2 hor9, apart_next q1.k p3 hor9⟩
        have HO8 : Hid (w8.ownsRow W0.heap.size 46 3 (.slice (some ⟨g8, 0, none⟩) (acc.length + 1) cap8) (acc ++ [(⟨⟨1, [], [v, ⟨4, (acc.length : Int), []⟩]⟩, none, 0, some ⟨w1.heap.size, 0, none⟩, 2⟩ : CellV)]).length (flat cc (acc ++ [(⟨⟨1, [], [v, ⟨4, (acc.length : Int), []⟩]⟩, none, 0, some ⟨w1.heap.size, 0, none⟩, 2⟩ : CellV)]))) := by
          show World.ownsRow _ _ _ _ _ _ _
          rw [flat_append, List.length_append]
          exact hown8
        have HKC : Hid (cells (acc ++ [(⟨⟨1, [], [v, ⟨4, (acc.length : Int), []⟩]⟩, none, 0, some ⟨w1.heap.size, 0, none⟩, 2⟩ : CellV)]) = Hepy.grown (Hepy.swept (cells h) [v]) v (j + 1)) := by
          show _ = _
          rw [Hepy.grown_succ, ← HAC.out, Hepy.swept_len, cells_len]
          simp [cells, Hepy.ring, HAL2.out]
        clear hown8 hgr8 hor8 hor9 hlt8 hb8 hco5 hHeld bxw5 bxw7 hbw5 hbw7 hbr1 hbr7 hb1
        go_wp2
        go_roundg (m - (j + 1))
        case measure => omega
        case rel => exact ⟨j + 1, _, some ⟨g8, 0, none⟩, cap8, by omega, by omega, by go_num, by simp, HKC.out, by show World.ownsRow _ _ _ _ _ _ _; have := HO8.out; simpa using this, by show ∀ x ∈ _, _; have := HEL8.out; simpa using this, HB8.out⟩
      · have hlt2 : decide ((j : Int) < (m : Int)) = false := decide_eq_false (by omega)
        have hjm : j = m := by omega
        subst hjm
        have HRA : Hid (HRd wr acc (.slice A acc.length cap)) := ⟨Rd.own HOWr.out, fun x hx => ((HELr.out x hx).1).rd⟩
        have HAK := Lib.hid (Alike_any h _ v acc _ v wr (HH.out.below HUr.out) HRA.out HZ.out HZ.out)
        rw [HAC.out, HAL.out] at HAK
        have HAL2 := Lib.hid hal
        obtain ⟨wi, rfl⟩ : ∃ wi : World, wi = wr := ⟨_, rfl⟩
        clear BW hal
        go_wp2_with (refine wpList_load_row rfl 31 (.tmp 4) rfl w.heap.size rfl _ (vc v) (0, 0) _ HBr.out Try.underlying31 rfl info_val ?_)
        refine (HAK.out).mono ?_
        rintro en w3 ⟨rfl, hb3⟩
        have HU3 := Lib.hid (HUr.out.trans (hb3.mono HUr.out.size))
        clear hb3
        by_cases hbig : h.length + j ≤ 300
        · rw [if_pos hbig]
          simp only
          go_wp2
          go_ret
          exact ⟨rfl, HU3.out⟩
        · rw [if_neg hbig]
          have hal := HAL2.out
          have hb4 : decide ((acc.length : Int) > 300) = true := decide_eq_true (by omega)
          have hb5 : decide ((300 : Int) < (acc.length : Int)) = true := decide_eq_true (by omega)
          have hb6 : (300 : Int) < (acc.length : Int) := by omega
          have hb7 : 300 < acc.length := by omega
          clear hal
          simp only
          go_wp2
          go_ret
          exact ⟨rfl, HU3.out⟩
  · have Y := Lib.hid y
    have fin : Hid (∀ w', Below w.heap.size w w' → True) := fun _ _ => trivial
    by_cases y1 : C = 0
    · subst y1
      have g1 : (((0 : Nat) : Int) != 0) = false := by simp
      by_cases y2 : n < 0
      · have g2 : decide (n < 0) = true := decide_eq_true y2
        clear y
        go_wp2_with (fail)
        refine (HLV.out _).mono ?_
        rintro en W3 ⟨rfl, hb3⟩
        go_wp2
        go_ret
        exact ⟨rfl, HU2.out.trans (hb3.mono hz2)⟩
      · have g2 : decide (n < 0) = false := decide_eq_false y2
        have g3 : decide ((20 : Int) < n) = true := decide_eq_true (by omega)
        have g4 : decide (n > 20) = true := g3
        have y3 : 20 < n := by omega
        clear y
        go_wp2_with (fail)
        refine (HLV.out _).mono ?_
        rintro en W3 ⟨rfl, hb3⟩
        go_wp2
        go_ret
        exact ⟨rfl, HU2.out.trans (hb3.mono hz2)⟩
    · have g1 : ((C : Int) != 0) = true := by simp; omega
      clear y
      go_wp2_with (fail)
      refine (HLV.out _).mono ?_
      rintro en W3 ⟨rfl, hb3⟩
      go_wp2
      go_ret
      exact ⟨rfl, HU2.out.trans (hb3.mono hz2)⟩
end Go.Proofs.Ytbhccidchjmjlaa
