/-
  Walking from roots, and what is reached: walked. Conditions: the cells and the roots read as rows.
-/
import Derived.Test.YtbhccidchjmjlaaHpE
import Derived.Sort.OwnSortedInts
namespace Go.Proofs.Ytbhccidchjmjlaa
set_option linter.unusedSimpArgs false
set_option linter.unusedVariables false
open Go.RowKit

theorem made_ints (n : Nat) : madeCells (Value.int .i64 0).cells n = (List.replicate n (Value.int .i64 0)).toArray := by
  apply Array.ext
  · simp [madeCells]
  · intro i h1 h2
    simp [madeCells, Value.cells, Nat.mod_one]
theorem make_ints (n : Nat) (hn : n ≤ 1000) (w : World) :
    (Instr.makeSlice 24 (.int .i64 (n : Int)) (.int .i64 (n : Int))).run Try.prog w = .ok (.slice (some ⟨w.heap.size, 0, none⟩) n n) (w.alloc (.cells (List.replicate n (Value.int .i64 0)).toArray 3)) := by
  obtain ⟨i0, hi0, hz0, hz1, hz2⟩ := info_parts parts_int
  have := run_make (P := Try.prog) w 24 3 i0 (.int .i64 0) Try.underlying24 hi0 hz0 .i64 .i64 (n : Int) (n : Int) (by omega) (Int.le_refl _) (by rw [hz2]; omega) (by omega)
  rw [hz1, Int.toNat_natCast, Nat.mul_one, made_ints] at this
  exact this
/-- the first k are -1. -/
def part (n k : Nat) : List Value := List.replicate k (.int .i64 (-1)) ++ List.replicate (n - k) (.int .i64 0)
theorem part_len {n k : Nat} (h : k ≤ n) : (part n k).length = n := by unfold part; simp; omega
theorem part_set {n k : Nat} (h : k < n) : (part n k).set k (.int .i64 (-1)) = part n (k + 1) := by
  unfold part
  rw [List.set_append_right _ _ (by simp), List.length_replicate, Nat.sub_self, show n - k = (n - (k + 1)) + 1 by omega, List.replicate_succ, List.set_cons_zero, List.replicate_succ']
  simp
theorem part_all (n : Nat) : part n n = places n [] := by
  unfold part places
  apply List.ext_getElem?
  intro j
  by_cases hj : j < n
  · simp [hj, place]
  · simp [hj]
set_option maxRecDepth 100000 in
set_option maxHeartbeats 4000000 in
theorem walked_any (h : List CellV) (hv : Value) (l : List Valu.V) (v : Value) (w : World) (hr : HRd w h hv) (hl : RdL w 3 vc l v) (hle : h.length ≤ 300) (hs : Hepy.Sound (cells h)) (hld : ∀ v ∈ l, Hepy.Leads (cells h) v) :
    Calls Try.prog 20 #[hv, v] w fun e w' => ∃ b t B av, e = .returned (.pointer (some ⟨b, 0, none⟩)) ∧ w.heap.size ≤ b ∧ w.heap.size ≤ t ∧ w.heap.size ≤ B ∧ B ≤ w'.heap.size ∧ WS w' B b t hv h.length (Hepy.walked (cells h) l) av ∧ Below w.heap.size w w' := by
  have HH : Hid (∀ w', Below w.heap.size w w' → HRd w' h hv) := fun w' hb => hr.below hb
  have HL := Lib.hid hl
  have HLD := Lib.hid hld
  obtain ⟨UA, ucap, rfl, hu1, hu2, _⟩ := hr.r
  obtain ⟨A, cap, rfl, hc1, hc2, -⟩ := hl
  have hmk := fun w => make_ints h.length (by omega) w
  clear hr hld
  go_enter Try.func20, Try.ntmps20
  go_upto_region 2 with (fail)
  refine gen_world (F := fun W => Box W (w.heap.size + 1) 53 #[.slice UA h.length ucap, .slice (some ⟨w.heap.size, 0, none⟩) h.length h.length, .slice none 0 0] ∧ Box W w.heap.size 3 (List.replicate h.length (Value.int .i64 0)).toArray ∧ Below w.heap.size w W ∧ w.heap.size + 2 ≤ W.heap.size)
    ⟨new2 w _ _ _, (Box.new w _ _).alloc _, (below1 w _).alloc (by simp) _, by simp⟩ ?_
  rintro W ⟨bw, bt, hU, hzW⟩
  have HBW := Lib.hid bw
  have c1 := bw.cell 1
  simp at c1
  clear hmk
  go_upto_region 3 with (fail)
  clear c1 bw
  go_loopg [20] h.length (fun gg s20 wr => ∃ k : Nat, k ≤ h.length ∧ h.length - k ≤ gg ∧ s20 = .int .i64 (k : Int) ∧ Hid (Upd W wr w.heap.size) ∧ Hid (Box wr w.heap.size 3 (part h.length k).toArray))
  case atStart => exact ⟨0, Nat.zero_le _, by omega, rfl, Upd.refl _ _, by show Box _ _ _ _; simpa [part] using bt⟩
  case round =>
    obtain ⟨k, hk, hgg, rfl, BU, BT⟩ := hrel
    have hzr := BU.out.size
    have HBWr := Lib.hid (HBW.out.grown BU.out (by intro h; injection h with h; omega))
    by_cases hlt : k < h.length
    · have hlt2 : decide ((k : Int) < (h.length : Int)) = true := decide_eq_true (by omega)
      have hltz : (k : Int) < (h.length : Int) := by omega
      have c1 := HBWr.out.cell 1
      have ck : wr.cell? ⟨w.heap.size, k, none⟩ = some (.int .i64 0) := by
        rw [BT.out.cell, List.getElem?_toArray]
        unfold part
        rw [List.getElem?_append_right (by simp), List.length_replicate, Nat.sub_self, List.getElem?_replicate, if_pos (by omega)]
      have fk := BT.out.frozen k
      simp at c1
      have BT2 : Hid (Box (wr.setCell ⟨w.heap.size, k, none⟩ (.int .i64 (-1))) w.heap.size 3 (part h.length (k + 1)).toArray) := by
        have h1 := BT.out.set k (.int .i64 (-1))
        rw [List.setIfInBounds_toArray, part_set hlt] at h1
        exact h1
      have BU2 : Hid (Upd W (wr.setCell ⟨w.heap.size, k, none⟩ (.int .i64 (-1))) w.heap.size) := BU.out.set (p := ⟨w.heap.size, k, none⟩) (.inl rfl) _
      clear BT BU
      go_wp2
      go_roundg (h.length - (k + 1))
      case measure => omega
      case rel => exact ⟨k + 1, by omega, by omega, by go_num, BU2.out, BT2.out⟩
    · have hlt2 : decide ((k : Int) < (h.length : Int)) = false := decide_eq_false (by omega)
      obtain rfl : k = h.length := by omega
      obtain ⟨wi, rfl⟩ : ∃ wi : World, wi = wr := ⟨_, rfl⟩
      have HUi : Hid (Below w.heap.size w wi) := hU.trans (BU.out.own (Nat.le_refl _) (by omega))
      have HWSi : Hid (WS wi (w.heap.size + 2) (w.heap.size + 1) w.heap.size (.slice UA h.length ucap) h.length [] (.slice none 0 0)) :=
        ⟨HBWr.out, by rw [← part_all]; exact BT.out, World.ownsRow_nil _ _ _ _, by omega, by omega, by omega⟩
      have hcl : (cells h).length = h.length := cells_len h
      have HCL := Lib.hid hcl
      clear BU BT HBWr bt hU HBW hcl
      go_upto_region 8 with (fail)
      go_loopg [32] l.length (fun gg s32 wr => ∃ (j : Nat) (al : List Nat) (av' : Value), j ≤ l.length ∧ l.length - j ≤ gg ∧ s32 = .int .i64 (j : Int) ∧ Hid (al = (l.take j).foldl (Hepy.come (cells h) ((cells h).length + 1)) []) ∧ Hid (Hepy.Okl (cells h) al) ∧ Hid (WS wr (w.heap.size + 2) (w.heap.size + 1) w.heap.size (.slice UA h.length ucap) h.length al av') ∧ Hid (Below w.heap.size w wr) ∧ w.heap.size + 2 ≤ wr.heap.size)
      case atStart => exact ⟨0, [], _, Nat.zero_le _, by omega, rfl, rfl, Hepy.Okl.nil _, HWSi.out, HUi.out, by omega⟩
      case round =>
        obtain ⟨j, al, av', hj, hgg, rfl, HAL, HOKA, HWA, HBA, hBr⟩ := hrel
        by_cases hlt : j < l.length
        · have hlt2 : decide ((j : Int) < (l.length : Int)) = true := decide_eq_true (by omega)
          have hltz : (j : Int) < (l.length : Int) := by omega
          obtain ⟨y, hy⟩ : ∃ y, l[j]? = some y := ⟨_, List.getElem?_eq_getElem hlt⟩
          have hst : Hid ((l.take (j + 1)).foldl (Hepy.come (cells h) ((cells h).length + 1)) [] = Hepy.come (cells h) ((cells h).length + 1) al y) := by
            show _ = _
            rw [List.take_add_one, hy, List.foldl_append, ← HAL.out]; rfl
          have hcm := Hepy.come_came hs ((cells h).length + 1) al y HOKA.out (HLD.out y (List.mem_of_getElem? hy)) (by omega)
          have HCM := Lib.hid hcm
          have HCALL : Hid (∀ w', WS w' (w.heap.size + 2) (w.heap.size + 1) w.heap.size (.slice UA h.length ucap) h.length al av' → Below w.heap.size w w' → w.heap.size + 2 ≤ w'.heap.size → Calls Try.prog 33 #[.pointer (some ⟨w.heap.size + 1, 0, none⟩), .agg (vc y)] w' fun e w'' => e = .returned (.tuple #[]) ∧ ∃ av2, WS w'' (w.heap.size + 2) (w.heap.size + 1) w.heap.size (.slice UA h.length ucap) h.length (Hepy.come (cells h) ((cells h).length + 1) al y) av2 ∧ Below w.heap.size w' w'') :=
            fun w' h1 h2 h3 => come_any h _ hle hs w.heap.size (w.heap.size + 2) (w.heap.size + 1) w.heap.size ⟨by omega, by omega, by omega⟩ _ al y av' w' h1 (fun w2 hb => HH.out w2 (h2.trans hb)) HOKA.out (HLD.out y (List.mem_of_getElem? hy)) (by rw [cells_len]; omega) h3
          obtain ⟨A7, cap7, e7, _, _, hr7⟩ := HL.out.below HBA.out
          injection e7 with e7 _ e8
          subst e7
          subst e8
          obtain ⟨gk, ok, rfl, hgk, hrk⟩ := hr7 (by omega)
          have hrange : Hid (wr.rangeAt gk (ok + j * 3) (vc y).toList) := RdL.elem (k := 3) (f := vc) (fun _ => rfl) hrk hy
          clear hcm hr7 hrk hy
          go_upto_region 10 with (first | (refine wpList_load_mid rfl 31 (.tmp 34) rfl gk (ok + j * 3) rfl (vc y).toList _ hrange.out Try.underlying31 rfl info_val ?_) | (refine wpList_store_box rfl 31 (.tmp 8) (.tmp 35) rfl wr.heap.size (vc y) rfl rfl 31 _ (Box.new wr _ _) info_val rfl (vc_one y) ?_; intro w6 hx6 hu6 hz6))
          have hb6 : Below wr.heap.size wr w6 := ((Below.refl _ wr).alloc (Nat.le_refl _) _).trans (hu6.own (Nat.le_refl _) (by simp))
          have HX6 := Lib.hid hx6
          have HW6 := Lib.hid (HWA.out.below hb6)
          have HB6 := Lib.hid (HBA.out.trans (hb6.mono (by omega)))
          have hB6 : w.heap.size + 2 ≤ w6.heap.size := Nat.le_trans hBr hb6.size
          clear hb6 hu6 hx6 hrange
          go_wp2_with (refine wpList_load_row rfl 31 (.tmp 8) rfl wr.heap.size rfl _ (vc y) (0, 0) _ HX6.out Try.underlying31 rfl info_val ?_)
          refine (HCALL.out w6 HW6.out HB6.out hB6).mono ?_
          rintro en w7 ⟨rfl, av2, hw7, hb7⟩
          have HW7 := Lib.hid hw7
          have HB7 := Lib.hid (HB6.out.trans hb7)
          have hz7 := hb7.size
          clear hw7 hb7
          go_wp2
          go_roundg (l.length - (j + 1))
          case measure => omega
          case rel => exact ⟨j + 1, _, av2, by omega, by omega, by go_num, hst.out.symm, HCM.out.ok, HW7.out, HB7.out, by omega⟩
        · have hlt2 : decide ((j : Int) < (l.length : Int)) = false := decide_eq_false (by omega)
          have HFIN : Hid (Hepy.walked (cells h) l = al) := by
            show _ = _
            rw [HAL.out, List.take_of_length_le (by omega)]; rfl
          go_wp2
          go_ret
          exact ⟨w.heap.size + 1, w.heap.size, w.heap.size + 2, av', rfl, by omega, by omega, by omega, hBr, by rw [HFIN.out]; exact HWA.out, HBA.out⟩
theorem sort_any (l : List Int) (base : Nat) (v : Value) (w : World) (hown : w.ownsRow base 3 1 v l.length (ints l)) (hl : l.length ≤ 1000000) :
    Calls Try.prog 21 #[v] w fun e w' => e = .returned (.tuple #[]) ∧ w'.ownsRow base 3 1 v l.length (ints (l.mergeSort fun x y => decide (x ≤ y))) ∧ w.grownBy w' v.ownBlock := by
  rcases hown.2 with ⟨rfl, h0⟩ | ⟨g, cap, cur, rfl, hb, hg, hn, hc, hs, ht⟩
  · have h0 : l = [] := List.length_eq_zero_iff.1 h0
    subst h0
    refine (Try.slices_Sort_int_none none 0 w).mono ?_
    rintro e w' ⟨rfl, rfl⟩
    exact ⟨rfl, by simpa using hown, rfl, rfl, rfl, Nat.le_refl _, fun _ _ _ => rfl⟩
  · refine (Try.slices_Sort_int g 0 cap l w (holds_of_blockI hg (by rw [← Nat.mul_one l.length]; exact ht)) (Array.getElem?_eq_some_iff.1 hg).1 (by omega)).mono ?_
    rintro e w' ⟨rfl, n, os, rfl⟩
    exact ⟨rfl, ownsRow_sortedI (List.length_mergeSort l) hb hg hn hc hs, grownBy_sortedI _⟩
end Go.Proofs.Ytbhccidchjmjlaa
