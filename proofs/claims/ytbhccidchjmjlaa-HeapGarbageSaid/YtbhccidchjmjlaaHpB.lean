/-
  May a value stand in a heap? Do names rise? Is it a cell? Conditions: the cells read as a row.
-/
import Derived.Test.YtbhccidchjmjlaaHpA
namespace Go.Proofs.Ytbhccidchjmjlaa
set_option linter.unusedSimpArgs false
set_option linter.unusedVariables false
open Go.RowKit

theorem gen_world {P : Program} {c : Code} {Q : Exit → Act → World → Prop} {a : Act} {w0 : World} {F : World → Prop} (hf : F w0) (h : ∀ W, F W → Code.wp P c Q a W) : Code.wp P c Q a w0 := h w0 hf
theorem cells_len (h : List CellV) : (cells h).length = h.length := by simp [cells]
set_option maxRecDepth 100000 in
set_option maxHeartbeats 1000000 in
theorem fits_any (h : List CellV) (u : Value) (v : Valu.V) (w : World) (hr : HRd w h u) (hz : v.s.length ≤ 9223372036854775807) :
    Calls Try.prog 32 #[u, .agg (vc v)] w fun e w' => e = .returned (.bool (Hepy.fits (cells h) v)) ∧ Below w.heap.size w w' := by
  have HCK := Lib.hid (fun w => check_any v w hz)
  have HRF := Lib.hid (fun w => ref_any v w)
  obtain ⟨c, hc⟩ : ∃ c, Valu.check v = c := ⟨_, rfl⟩
  obtain ⟨n, hn⟩ : ∃ n, Hepy.ref v = n := ⟨_, rfl⟩
  have HF : Hid (Hepy.fits (cells h) v = (c && (decide (n < 0) || (decide (n < (h.length : Int)) && decide ((Hepy.at_ (cells h) n.toNat).kind ≠ 0))))) := by
    show _ = _
    unfold Hepy.fits
    rw [hc, hn, cells_len]
  rw [hc] at HCK
  rw [hn] at HRF
  have HR := Lib.hid hr
  obtain ⟨A, cap, rfl, hc1, hc2, hrow⟩ := hr.r
  have HROW := Lib.hid hrow
  clear hr hrow hc hn
  go_enter Try.func32, Try.ntmps32
  go_upto_region 1 with (fail)
  refine gen_world (F := fun W => Box W w.heap.size 31 (vc v) ∧ Below w.heap.size w W) ⟨Box.new w _ _, below1 w _⟩ ?_
  rintro W ⟨bv, hU⟩
  have hzv := bv.lt
  go_wp2_with (refine wpList_load_row rfl 31 (.tmp 3) rfl w.heap.size rfl _ (vc v) (0, 0) _ bv Try.underlying31 rfl info_val ?_)
  refine (HRF.out _).mono ?_
  rintro en W1 ⟨rfl, hb1⟩
  have bv1 := bv.below hb1 hzv
  have HU1 := Lib.hid (hU.trans (hb1.mono hU.size))
  clear hU hb1 bv
  go_wp2_with (refine wpList_load_row rfl 31 (.tmp 3) rfl w.heap.size rfl _ (vc v) (0, 0) _ bv1 Try.underlying31 rfl info_val ?_)
  refine (HCK.out _).mono ?_
  rintro en W2 ⟨rfl, hb2⟩
  have HU2 := Lib.hid (HU1.out.trans (hb2.mono HU1.out.size))
  clear hb2 bv1
  cases c with
  | false =>
    go_wp2
    go_ret
    exact ⟨ret_bool (by rw [HF.out]; rfl), HU2.out⟩
  | true =>
    by_cases y1 : n < 0
    · have d1 : decide (n < 0) = true := decide_eq_true y1
      clear y1
      go_wp2
      go_ret
      exact ⟨ret_bool (by rw [HF.out, d1]; rfl), HU2.out⟩
    · have d1 : decide (n < 0) = false := decide_eq_false y1
      by_cases y2 : n < (h.length : Int)
      · obtain ⟨N, rfl⟩ : ∃ N : Nat, n = (N : Int) := ⟨n.toNat, by omega⟩
        have hN : N < h.length := by omega
        have d2 : decide ((N : Int) < (h.length : Int)) = true := decide_eq_true y2
        have d2N : decide (N < h.length) = true := decide_eq_true hN
        obtain ⟨x, hx⟩ : ∃ x, h[N]? = some x := ⟨_, List.getElem?_eq_getElem hN⟩
        obtain ⟨g, o, rfl, hg, hrg⟩ := HROW.out (by omega)
        have hk := (HU2.out.cell (p := ⟨g, o + N * 3 + 0, none⟩) hg).trans (RdL.elem (k := 3) (f := cc) (fun _ => rfl) hrg hx 0 _ rfl)
        have hat := at_cells hx
        simp only [Nat.add_zero] at hk
        obtain ⟨k, hkk⟩ : ∃ k, x.c.kind = k := ⟨_, rfl⟩
        have HF2 : Hid (Hepy.fits (cells h) v = decide (k ≠ 0)) := by
          show _ = _
          rw [HF.out, Int.toNat_natCast, hat, hkk, d1, d2]; simp
        rw [hkk] at hk
        clear hrg hx hat hkk y1
        by_cases y3 : k = 0
        · subst y3
          go_wp2
          go_ret
          exact ⟨ret_bool (by rw [HF2.out]; rfl), HU2.out⟩
        · have e3 : (k != 0) = true := by simp [y3]
          have e4 : (k == 0) = false := by simp [y3]
          have Y3 := Lib.hid y3
          clear y3
          go_wp2
          go_ret
          exact ⟨ret_bool (by rw [HF2.out, decide_eq_true Y3.out]), HU2.out⟩
      · have d2 : decide (n < (h.length : Int)) = false := decide_eq_false y2
        clear y1
        go_wp2
        go_ret
        exact ⟨ret_bool (by rw [HF.out, d1, d2]; rfl), HU2.out⟩
theorem rising_yes : ∀ l : List (List UInt8), (∀ j a b, l[j]? = some a → l[j + 1]? = some b → Op.bytesLess a b = true) → Hepy.rising l = true
  | [], _ => rfl
  | [_], _ => rfl
  | a :: b :: r, h => by
    rw [Hepy.rising, h 0 a b rfl rfl, rising_yes (b :: r) (fun j x y hx hy => h (j + 1) x y (by simpa using hx) (by simpa using hy))]
    rfl
theorem rising_no : ∀ (l : List (List UInt8)) (j : Nat) (a b : List UInt8), l[j]? = some a → l[j + 1]? = some b → Op.bytesLess a b = false → Hepy.rising l = false
  | [], j, _, _, h, _, _ => by simp at h
  | [_], 0, _, _, _, h, _ => by simp at h
  | [_], j + 1, _, _, h, _, _ => by simp at h
  | x :: y :: r, 0, a, b, h, h2, h3 => by
    simp at h h2
    subst h h2
    rw [Hepy.rising, h3]; rfl
  | x :: y :: r, j + 1, a, b, h, h2, h3 => by
    rw [Hepy.rising, rising_no (y :: r) j a b (by simpa using h) (by simpa using h2) h3]
    simp
set_option maxRecDepth 100000 in
set_option maxHeartbeats 1000000 in
theorem rising_any (l : List (List UInt8)) (v : Value) (w : World) (hv : RdL w 1 bc l v) :
    Calls Try.prog 40 #[v] w fun e w' => e = .returned (.bool (Hepy.rising l)) ∧ Below w.heap.size w w' := by
  obtain ⟨A, cap, rfl, hc1, hc2, hrow⟩ := hv
  have HR := Lib.hid hrow
  clear hrow
  go_enter Try.func40, Try.ntmps40
  go_upto_region 2 with (fail)
  go_loopg [3] l.length (fun gg s3 wr => ∃ k : Nat, (1 ≤ k ∧ (k ≤ l.length ∨ k = 1)) ∧ l.length - k ≤ gg ∧ s3 = .int .i64 (k : Int) ∧ Hid (Below w.heap.size w wr) ∧ Hid (∀ j a b, j + 1 < k → l[j]? = some a → l[j + 1]? = some b → Op.bytesLess a b = true))
  case atStart => exact ⟨1, ⟨Nat.le_refl _, .inr rfl⟩, by omega, rfl, Below.refl _ _, fun j a b h => by omega⟩
  case round =>
    obtain ⟨k, ⟨hk1, hk2⟩, hgg, rfl, BW, AA⟩ := hrel
    by_cases hlt : k < l.length
    · have hlt2 : decide ((k : Int) < (l.length : Int)) = true := decide_eq_true (by omega)
      have hltN : decide (k < l.length) = true := decide_eq_true hlt
      obtain ⟨i, hi⟩ : ∃ i, k = i + 1 := ⟨k - 1, by omega⟩
      obtain ⟨a, ha⟩ : ∃ a, l[i]? = some a := ⟨_, List.getElem?_eq_getElem (by omega)⟩
      obtain ⟨b, hb⟩ : ∃ b, l[k]? = some b := ⟨_, List.getElem?_eq_getElem hlt⟩
      obtain ⟨g, o, rfl, hg, hrg⟩ := HR.out (by omega)
      have ca := (BW.out.cell (p := ⟨g, o + i * 1 + 0, none⟩) hg).trans (RdL.elem (k := 1) (f := bc) (fun _ => rfl) hrg ha 0 _ rfl)
      have cb := (BW.out.cell (p := ⟨g, o + k * 1 + 0, none⟩) hg).trans (RdL.elem (k := 1) (f := bc) (fun _ => rfl) hrg hb 0 _ rfl)
      simp only [Nat.mul_one, Nat.add_zero] at ca cb
      obtain ⟨q, hq⟩ : ∃ q, Op.bytesLess a b = q := ⟨_, rfl⟩
      have hq2 : Op.bytesLess (byt a).toList (byt b).toList = q := by rw [byt_list, byt_list]; exact hq
      have HQ := Lib.hid hq
      have HA := Lib.hid ha
      have HB : Hid (l[i + 1]? = some b) := by rw [← hi]; exact hb
      have hki : (k : Int) - 1 = (i : Int) := by omega
      have hil : (i : Int) < (l.length : Int) := by omega
      have hkl : (k : Int) < (l.length : Int) := by omega
      have hwi : IntKind.i64.wrap (i : Int) = (i : Int) := by rw [IntKind.wrap_i64]; omega
      have HI := Lib.hid hi
      clear hrg ha hb hi hq
      go_upto_region 4 with (fail)
      refine wp_region_held_drew (S := fun w' => w'.cell? ⟨g, o + i, none⟩ = some (.string (byt a)) ∧ w'.cell? ⟨g, o + k, none⟩ = some (.string (byt b))) (by kernel_rfl) ⟨ca, cb⟩ (fun hHeld => ?_)
      refine wpAnyH_take (i := 0) (v := ?_) rfl (by kernel_rfl) (by kernel_rfl) (by kernel_rfl) (fun _ _ _ h => h) (Or.inl ⟨by kernel_rfl, ?_⟩) (by assumption) ?_
      rotate_left
      · intro w hSw
        (try dsimp only at hSw)
        go_simp
        try (with_reducible rfl)
      (try simp only [Act.put, List.getElem_toArray, List.getElem_cons_zero, List.setIfInBounds_toArray, List.set_cons_zero, List.set_cons_succ])
      refine wpAnyH_take (i := 1) (v := ?_) rfl (by kernel_rfl) (by kernel_rfl) (by kernel_rfl) (fun _ _ _ h => h) (Or.inl ⟨by kernel_rfl, ?_⟩) (by assumption) ?_
      rotate_left
      · intro w hSw
        (try dsimp only at hSw)
        go_simp
        try (with_reducible rfl)
      (try simp only [Act.put, List.getElem_toArray, List.getElem_cons_succ, List.getElem_cons_zero, List.setIfInBounds_toArray, List.set_cons_zero, List.set_cons_succ])
      refine wpAnyH_take (i := 2) (v := ?_) rfl (by kernel_rfl) (by kernel_rfl) (by kernel_rfl) (fun _ _ _ h => h) (Or.inl ⟨by kernel_rfl, ?_⟩) (by assumption) ?_
      rotate_left
      · intro w hSw
        (try dsimp only at hSw)
        go_simp
        try (with_reducible rfl)
      (try simp only [Act.put, List.getElem_toArray, List.getElem_cons_succ, List.getElem_cons_zero, List.setIfInBounds_toArray, List.set_cons_zero, List.set_cons_succ])
      refine wpAnyH_take (i := 3) (v := ?_) rfl (by kernel_rfl) (by kernel_rfl) (by kernel_rfl) (fun _ _ _ h => h) (Or.inl ⟨by kernel_rfl, ?_⟩) (by assumption) ?_
      rotate_left
      · intro w hSw
        (try dsimp only at hSw)
        go_simp
        try (with_reducible rfl)
      (try simp only [Act.put, List.getElem_toArray, List.getElem_cons_succ, List.getElem_cons_zero, List.setIfInBounds_toArray, List.set_cons_zero, List.set_cons_succ])
      refine wpAnyH_take (i := 4) (v := ?_) rfl (by kernel_rfl) (by kernel_rfl) (by kernel_rfl) (fun _ _ _ h => h) (Or.inl ⟨by kernel_rfl, ?_⟩) (by assumption) ?_
      rotate_left
      · intro w hSw
        (try dsimp only at hSw)
        go_simp
        try (with_reducible rfl)
      (try simp only [Act.put, List.getElem_toArray, List.getElem_cons_succ, List.getElem_cons_zero, List.setIfInBounds_toArray, List.set_cons_zero, List.set_cons_succ])
      refine wpAnyH_take (i := 5) (v := ?_) rfl (by kernel_rfl) (by kernel_rfl) (by kernel_rfl) (fun _ _ _ h => h) (Or.inl ⟨by kernel_rfl, ?_⟩) (by assumption) ?_
      rotate_left
      · intro w hSw
        (try dsimp only at hSw)
        go_simp
        try (with_reducible rfl)
      (try simp only [Act.put, List.getElem_toArray, List.getElem_cons_succ, List.getElem_cons_zero, List.setIfInBounds_toArray, List.set_cons_zero, List.set_cons_succ])
      refine wpAnyH_take (i := 6) (v := ?_) rfl (by kernel_rfl) (by kernel_rfl) (by kernel_rfl) (fun _ _ _ h => h) (Or.inl ⟨by kernel_rfl, ?_⟩) (by assumption) ?_
      rotate_left
      · intro w hSw
        (try dsimp only at hSw)
        go_simp
        try (with_reducible rfl)
      (try simp only [Act.put, List.getElem_toArray, List.getElem_cons_succ, List.getElem_cons_zero, List.setIfInBounds_toArray, List.set_cons_zero, List.set_cons_succ])
      refine wpAnyH_take (i := 7) (v := ?_) rfl (by kernel_rfl) (by kernel_rfl) (by kernel_rfl) (fun _ _ _ h => h) (Or.inl ⟨by kernel_rfl, ?_⟩) (by assumption) ?_
      rotate_left
      · intro w hSw
        (try dsimp only at hSw)
        go_simp
        try (with_reducible rfl)
      (try simp only [Act.put, List.getElem_toArray, List.getElem_cons_succ, List.getElem_cons_zero, List.setIfInBounds_toArray, List.set_cons_zero, List.set_cons_succ])
      refine wpAnyH_take (i := 8) (v := ?_) rfl (by kernel_rfl) (by kernel_rfl) (by kernel_rfl) (fun _ _ _ h => h) (Or.inl ⟨by kernel_rfl, ?_⟩) (by assumption) ?_
      rotate_left
      · intro w hSw
        (try dsimp only at hSw)
        go_simp
        try (with_reducible rfl)
      (try simp only [Act.put, List.getElem_toArray, List.getElem_cons_succ, List.getElem_cons_zero, List.setIfInBounds_toArray, List.set_cons_zero, List.set_cons_succ])
      refine wpAnyH_take (i := 9) (v := ?_) rfl (by kernel_rfl) (by kernel_rfl) (by kernel_rfl) (fun _ _ _ h => h) (Or.inl ⟨by kernel_rfl, ?_⟩) (by assumption) ?_
      rotate_left
      · intro w hSw
        (try dsimp only at hSw)
        go_simp
        try (with_reducible rfl)
      (try simp only [Act.put, List.getElem_toArray, List.getElem_cons_succ, List.getElem_cons_zero, List.setIfInBounds_toArray, List.set_cons_zero, List.set_cons_succ])
      refine wpAnyH_done (by kernel_rfl) ?_ _
      cases q with
      | true =>
        go_wp2
        go_roundg (l.length - (k + 1))
        case measure => omega
        case rel =>
          refine ⟨k + 1, ⟨by omega, .inl (by omega)⟩, by omega, by go_num, BW.out.drew, (show Hid _ from fun j x y hj hx hy => ?_)⟩
          by_cases e : j = i
          · subst e
            have h1 := HA.out
            have h2 := HB.out
            rw [hx] at h1
            rw [hy] at h2
            injection h1 with h1
            injection h2 with h2
            rw [h1, h2]; exact HQ.out
          · exact AA.out j x y (by have := HI.out; omega) hx hy
      | false =>
        go_wp2
        go_ret
        exact ⟨ret_bool (rising_no l i a b HA.out HB.out HQ.out).symm, BW.out.drew⟩
    · have hlt2 : decide ((k : Int) < (l.length : Int)) = false := decide_eq_false (by omega)
      have hltN : decide (k < l.length) = false := decide_eq_false hlt
      go_wp2
      go_ret
      exact ⟨ret_bool (rising_yes l (fun j a b ha hb => AA.out j a b (by have := (List.getElem?_eq_some_iff.1 hb).1; omega) ha hb)).symm, BW.out⟩
theorem egC : ∀ args w, (callFunc 42 args).run Try.prog w = .ok (.enter 42 args) w := Go.Proofs.enters_of Try.func42 (by kernel_rfl) rfl
set_option maxHeartbeats 1000000 in
theorem cell1_any (h : List CellV) (u : Value) (v : Valu.V) (b : Nat) (w : World) (hr : HRd w h u) (hz : v.s.length ≤ 9223372036854775807) (hb : w.cell? ⟨b, 0, none⟩ = some u) :
    Calls Try.prog 42 (#[.agg (vc v)] ++ #[.pointer (some ⟨b, 0, none⟩)]) w fun e w' => e = .returned (.bool (!Hepy.fits (cells h) v)) ∧ Below w.heap.size w w' := by
  have hlt := block_lt_of_cell hb
  have hU : Below w.heap.size w (w.alloc (.cells (vc v) 31)) := below1 w _
  have c0 := (hU.cell (p := ⟨b, 0, none⟩) hlt).trans hb
  have bv := Box.new w 31 (vc v)
  have HF := Lib.hid (fits_any h u v (w.alloc (.cells (vc v) 31)) (hr.below hU) hz)
  have HU := Lib.hid hU
  obtain ⟨A, cap, rfl, _⟩ := hr.r
  clear hr hb hU
  go_enter Try.func42, Try.ntmps42
  go_wp2_with (refine wpList_load_row rfl 31 (.tmp 2) rfl w.heap.size rfl _ (vc v) (0, 0) _ bv Try.underlying31 rfl info_val ?_)
  refine (HF.out).mono ?_
  rintro e w1 ⟨rfl, hb1⟩
  go_wp2
  go_ret
  exact ⟨rfl, HU.out.trans (hb1.mono HU.out.size)⟩
end Go.Proofs.Ytbhccidchjmjlaa
