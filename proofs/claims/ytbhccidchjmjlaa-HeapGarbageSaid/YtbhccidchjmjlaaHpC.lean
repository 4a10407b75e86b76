/-
  Is it a cell? Is it a heap? May it be asked? Conditions: the cells read as a row.
-/
import Derived.Test.YtbhccidchjmjlaaHpB
namespace Go.Proofs.Ytbhccidchjmjlaa
set_option linter.unusedSimpArgs false
set_option linter.unusedVariables false
open Go.RowKit

theorem any_not (h : List Hepy.Cell) (l : List Valu.V) : (l.any fun v => !Hepy.fits h v) = !l.all (Hepy.fits h) := by
  rw [List.all_eq_not_any_not]; simp
set_option maxRecDepth 100000 in
set_option maxHeartbeats 4000000 in
theorem cell_any (h : List CellV) (u : Value) (x : CellV) (w : World) (hr : HRd w h u) (hx : CRd w x) (hl : x.c.vals.length ≤ 1000000) :
    Calls Try.prog 31 #[u, .agg (cc x)] w fun e w' => e = .returned (.bool (Hepy.cellOk (cells h) x.c)) ∧ Below w.heap.size w w' := by
  have HRI : Hid (∀ w', Below w.heap.size w w' → Calls Try.prog 40 #[x.as] w' fun e w'' => e = .returned (.bool (Hepy.rising x.c.names)) ∧ Below w'.heap.size w' w'') := fun w' hb => rising_any x.c.names x.as w' (hx.a.below hb)
  have HCF : Hid (∀ w', Below w.heap.size w w' → w'.cell? ⟨w.heap.size, 0, none⟩ = some u → Calls Try.prog 41 #[x.ks, .func (.func 42) #[] #[.pointer (some ⟨w.heap.size, 0, none⟩)]] w' fun e w'' => e = .returned (.bool (!x.c.vals.all (Hepy.fits (cells h)))) ∧ Below w'.heap.size w' w'') := fun w' hb hc => by
    have := contains_val x.c.vals (fun v => !Hepy.fits (cells h) v) 42 #[.pointer (some ⟨w.heap.size, 0, none⟩)] x.ks w' egC (fun v hv w1 hb1 => cell1_any h u v w.heap.size w1 (hr.below (hb.trans (hb1.mono hb.size))) (hx.z v hv) ((hb1.cell (p := ⟨w.heap.size, 0, none⟩) (block_lt_of_cell hc)).trans hc)) (hx.k.below hb) hl
    rw [any_not] at this
    exact this
  obtain ⟨r, hri⟩ : ∃ r, Hepy.rising x.c.names = r := ⟨_, rfl⟩
  obtain ⟨f, hf⟩ : ∃ f, x.c.vals.all (Hepy.fits (cells h)) = f := ⟨_, rfl⟩
  have HOK : Hid (Hepy.cellOk (cells h) x.c = (Hepy.shape x.c && (r && f))) := by
    show _ = _
    unfold Hepy.cellOk
    rw [hri, hf]
  rw [hri] at HRI
  rw [hf] at HCF
  have hna : x.c.names.length ≤ 9223372036854775807 := by
    obtain ⟨_, _, e, h1, h2, _⟩ := hx.a
    injection e with _ _ e
    omega
  obtain ⟨⟨kind, names, vals⟩, A, ca, K, ck⟩ := x
  simp only at hl hna HRI HCF HOK
  obtain ⟨UA, ucap, rfl, _⟩ := hr.r
  clear hr hx hri hf
  go_enter Try.func31, Try.ntmps31
  go_upto_region 1 with (fail)
  refine gen_world (F := fun W => Box W w.heap.size 22 #[.slice UA h.length ucap] ∧ Box W (w.heap.size + 1) 46 #[.int .i64 kind, .slice A names.length ca, .slice K vals.length ck] ∧ Below w.heap.size w W) ⟨(Box.new w _ _).alloc _, new2 w _ _ _, (below1 w _).alloc (by simp) _⟩ ?_
  rintro W ⟨b2, b3, hU⟩
  have n0 := b2.cell 0
  have k0 := b3.cell 0
  have k1 := b3.cell 1
  have k2 := b3.cell 2
  simp at n0 k0 k1 k2
  have HU := Lib.hid hU
  have HB2 := Lib.hid b2
  have HB3 := Lib.hid b3
  have hzw := b3.lt
  clear hU b2 b3
  rcases kinds kind with rfl | rfl | rfl | rfl | rfl | rfl | ⟨h0, h1, h2, h3, h4, h5⟩
  · by_cases y1 : 0 < vals.length
    · have d1 : decide ((vals.length : Int) > 0) = true := decide_eq_true (by omega)
      have d1N : decide (0 < vals.length) = true := decide_eq_true y1
      have HS : Hid (Hepy.shape ⟨0, names, vals⟩ = false) := by show _ = _; unfold Hepy.shape; simp; intro h; rw [h] at y1; simp at y1
      clear y1
      go_wp2
      go_ret
      exact ⟨ret_bool (by rw [HOK.out]; rw [HS.out]; rfl), HU.out⟩
    · have d1 : decide ((vals.length : Int) > 0) = false := decide_eq_false (by omega)
      have d1N : decide (0 < vals.length) = false := decide_eq_false y1
      have HV : Hid (vals.length = 0) := by show _ = _; omega
      clear y1
      by_cases y5 : names.length = 0
      · have e5 : ((names.length : Int) == 0) = true := by rw [y5]; simp
        have e5N : (names.length == 0) = true := by rw [y5]; simp
        have HS : Hid (Hepy.shape ⟨0, names, vals⟩ = true) := by show _ = _; unfold Hepy.shape; simp [HV.out, y5]
        have Y5 := Lib.hid y5
        clear y5
        go_wp2_with (fail)
        refine (HRI.out _ HU.out).mono ?_
        rintro en W1 ⟨rfl, hb1⟩
        have HU1 := Lib.hid (HU.out.trans (hb1.mono HU.out.size))
        have HB4 := Lib.hid (HB2.out.below hb1 HB2.out.lt)
        have k3 := (HB3.out.below hb1 HB3.out.lt).cell 2
        simp at k3
        clear hb1
        cases r with
        | false =>
          go_wp2
          go_ret
          exact ⟨ret_bool (by rw [HOK.out]; rw [HS.out]; rfl), HU1.out⟩
        | true =>
          go_wp2_with (fail)
          refine (HCF.out _ HU1.out (HB4.out.cell 0)).mono ?_
          rintro en W2 ⟨rfl, hb2⟩
          have HU2 := Lib.hid (HU1.out.trans (hb2.mono HU1.out.size))
          clear hb2
          cases f
          all_goals
            go_wp2
            go_ret
            exact ⟨ret_bool (by rw [HOK.out, HS.out]; rfl), HU2.out⟩
      · have e5 : ((names.length : Int) == 0) = false := by rw [beq_eq_false_iff_ne]; omega
        have e5N : (names.length == 0) = false := by rw [beq_eq_false_iff_ne]; exact y5
        have HS : Hid (Hepy.shape ⟨0, names, vals⟩ = false) := by show _ = _; unfold Hepy.shape; simp [HV.out, y5]
        have Y5 := Lib.hid y5
        clear y5
        go_wp2
        go_ret
        exact ⟨ret_bool (by rw [HOK.out]; rw [HS.out]; rfl), HU.out⟩
  · by_cases y5 : names.length = 0
    · have e5 : ((names.length : Int) == 0) = true := by rw [y5]; simp
      have e5N : (names.length == 0) = true := by rw [y5]; simp
      have HS : Hid (Hepy.shape ⟨1, names, vals⟩ = true) := by show _ = _; unfold Hepy.shape; simp [y5]
      have Y5 := Lib.hid y5
      clear y5
      go_wp2_with (fail)
      refine (HRI.out _ HU.out).mono ?_
      rintro en W1 ⟨rfl, hb1⟩
      have HU1 := Lib.hid (HU.out.trans (hb1.mono HU.out.size))
      have HB4 := Lib.hid (HB2.out.below hb1 HB2.out.lt)
      have k3 := (HB3.out.below hb1 HB3.out.lt).cell 2
      simp at k3
      clear hb1
      cases r with
      | false =>
        go_wp2
        go_ret
        exact ⟨ret_bool (by rw [HOK.out]; rw [HS.out]; rfl), HU1.out⟩
      | true =>
        go_wp2_with (fail)
        refine (HCF.out _ HU1.out (HB4.out.cell 0)).mono ?_
        rintro en W2 ⟨rfl, hb2⟩
        have HU2 := Lib.hid (HU1.out.trans (hb2.mono HU1.out.size))
        clear hb2
        cases f
        all_goals
          go_wp2
          go_ret
          exact ⟨ret_bool (by rw [HOK.out, HS.out]; rfl), HU2.out⟩
    · have e5 : ((names.length : Int) == 0) = false := by rw [beq_eq_false_iff_ne]; omega
      have e5N : (names.length == 0) = false := by rw [beq_eq_false_iff_ne]; exact y5
      have HS : Hid (Hepy.shape ⟨1, names, vals⟩ = false) := by show _ = _; unfold Hepy.shape; simp [y5]
      have Y5 := Lib.hid y5
      clear y5
      go_wp2
      go_ret
      exact ⟨ret_bool (by rw [HOK.out]; rw [HS.out]; rfl), HU.out⟩
  · by_cases y5 : names.length = vals.length
    · have e5 : ((names.length : Int) == (vals.length : Int)) = true := by rw [y5]; simp
      have e5N : (names.length == vals.length) = true := by rw [y5]; simp
      have HS : Hid (Hepy.shape ⟨2, names, vals⟩ = true) := by show _ = _; unfold Hepy.shape; simp [y5]
      have Y5 := Lib.hid y5
      clear y5
      go_wp2_with (fail)
      refine (HRI.out _ HU.out).mono ?_
      rintro en W1 ⟨rfl, hb1⟩
      have HU1 := Lib.hid (HU.out.trans (hb1.mono HU.out.size))
      have HB4 := Lib.hid (HB2.out.below hb1 HB2.out.lt)
      have k3 := (HB3.out.below hb1 HB3.out.lt).cell 2
      simp at k3
      clear hb1
      cases r with
      | false =>
        go_wp2
        go_ret
        exact ⟨ret_bool (by rw [HOK.out]; rw [HS.out]; rfl), HU1.out⟩
      | true =>
        go_wp2_with (fail)
        refine (HCF.out _ HU1.out (HB4.out.cell 0)).mono ?_
        rintro en W2 ⟨rfl, hb2⟩
        have HU2 := Lib.hid (HU1.out.trans (hb2.mono HU1.out.size))
        clear hb2
        cases f
        all_goals
          go_wp2
          go_ret
          exact ⟨ret_bool (by rw [HOK.out, HS.out]; rfl), HU2.out⟩
    · have e5 : ((names.length : Int) == (vals.length : Int)) = false := by rw [beq_eq_false_iff_ne]; omega
      have e5N : (names.length == vals.length) = false := by rw [beq_eq_false_iff_ne]; exact y5
      have HS : Hid (Hepy.shape ⟨2, names, vals⟩ = false) := by show _ = _; unfold Hepy.shape; simp [y5]
      have Y5 := Lib.hid y5
      clear y5
      go_wp2
      go_ret
      exact ⟨ret_bool (by rw [HOK.out]; rw [HS.out]; rfl), HU.out⟩
  · by_cases y5 : names.length = 0
    · have e5 : ((names.length : Int) == 0) = true := by rw [y5]; simp
      have e5N : (names.length == 0) = true := by rw [y5]; simp
      have HS : Hid (Hepy.shape ⟨3, names, vals⟩ = true) := by show _ = _; unfold Hepy.shape; simp [y5]
      have Y5 := Lib.hid y5
      clear y5
      go_wp2_with (fail)
      refine (HRI.out _ HU.out).mono ?_
      rintro en W1 ⟨rfl, hb1⟩
      have HU1 := Lib.hid (HU.out.trans (hb1.mono HU.out.size))
      have HB4 := Lib.hid (HB2.out.below hb1 HB2.out.lt)
      have k3 := (HB3.out.below hb1 HB3.out.lt).cell 2
      simp at k3
      clear hb1
      cases r with
      | false =>
        go_wp2
        go_ret
        exact ⟨ret_bool (by rw [HOK.out]; rw [HS.out]; rfl), HU1.out⟩
      | true =>
        go_wp2_with (fail)
        refine (HCF.out _ HU1.out (HB4.out.cell 0)).mono ?_
        rintro en W2 ⟨rfl, hb2⟩
        have HU2 := Lib.hid (HU1.out.trans (hb2.mono HU1.out.size))
        clear hb2
        cases f
        all_goals
          go_wp2
          go_ret
          exact ⟨ret_bool (by rw [HOK.out, HS.out]; rfl), HU2.out⟩
    · have e5 : ((names.length : Int) == 0) = false := by rw [beq_eq_false_iff_ne]; omega
      have e5N : (names.length == 0) = false := by rw [beq_eq_false_iff_ne]; exact y5
      have HS : Hid (Hepy.shape ⟨3, names, vals⟩ = false) := by show _ = _; unfold Hepy.shape; simp [y5]
      have Y5 := Lib.hid y5
      clear y5
      go_wp2
      go_ret
      exact ⟨ret_bool (by rw [HOK.out]; rw [HS.out]; rfl), HU.out⟩
  · go_wp2
    go_ret
    exact ⟨ret_bool (by rw [HOK.out]; simp [Hepy.shape]), HU.out⟩
  · go_wp2
    go_ret
    exact ⟨ret_bool (by rw [HOK.out]; simp [Hepy.shape]), HU.out⟩
  · have HS : Hid (Hepy.shape ⟨kind, names, vals⟩ = false) := by show _ = _; unfold Hepy.shape; simp_all
    go_wp2
    go_ret
    exact ⟨ret_bool (by rw [HOK.out]; rw [HS.out]; rfl), HU.out⟩
end Go.Proofs.Ytbhccidchjmjlaa
