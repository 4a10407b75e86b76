/-
  Check and asked: walked. Conditions: the cells, and the roots, read as rows.
-/
import Derived.Test.YtbhccidchjmjlaaHpC
namespace Go.Proofs.Ytbhccidchjmjlaa
set_option linter.unusedSimpArgs false
set_option linter.unusedVariables false
open Go.RowKit

/-- texts are no longer than an int tells. -/
def Szs (l : List Valu.V) : Prop := ∀ v ∈ l, v.s.length ≤ 9223372036854775807
theorem any_hit {α : Type} {p : α → Bool} {l : List α} {k : Nat} {x : α} (h : l[k]? = some x) (hp : p x = true) : l.any p = true := List.any_eq_true.2 ⟨x, List.mem_of_getElem? h, hp⟩
theorem any_miss {α : Type} {p : α → Bool} {l : List α} (h : ∀ (j : Nat) (y : α), l[j]? = some y → p y = false) : l.any p = false := by
  rw [List.any_eq_false]
  intro x hx
  obtain ⟨j, hj⟩ := List.getElem?_of_mem hx
  rw [h j x hj]; simp
theorem all_hit {α : Type} {p : α → Bool} {l : List α} {k : Nat} {x : α} (h : l[k]? = some x) (hp : p x = false) : l.all p = false := by
  rw [List.all_eq_false]
  exact ⟨x, List.mem_of_getElem? h, by rw [hp]; simp⟩
theorem all_yes {α : Type} {p : α → Bool} {l : List α} (h : ∀ (j : Nat) (y : α), l[j]? = some y → p y = true) : l.all p = true := by
  rw [List.all_eq_true]
  intro x hx
  obtain ⟨j, hj⟩ := List.getElem?_of_mem hx
  exact h j x hj
set_option maxRecDepth 100000 in
set_option maxHeartbeats 4000000 in
theorem Check_any (h : List CellV) (u : Value) (w : World) (hr : HRd w h u) :
    Calls Try.prog 18 #[u] w fun e w' => e = .returned (.int .i64 (Hepy.checkH (cells h) : Int)) ∧ Below w.heap.size w w' := by
  have HR := Lib.hid hr
  have HCE : Hid (∀ x ∈ h, x.c.vals.length ≤ 1000000 → ∀ w', Below w.heap.size w w' → Calls Try.prog 31 #[u, .agg (cc x)] w' fun e w'' => e = .returned (.bool (Hepy.cellOk (cells h) x.c)) ∧ Below w'.heap.size w' w'') := fun x hx hl w' hb => cell_any h u x w' (hr.below hb) ((hr.n x hx).below hb) hl
  obtain ⟨A, cap, rfl, hc1, hc2, hrow⟩ := hr.r
  have HROW := Lib.hid hrow
  have HCK : Hid (Hepy.checkH (cells h) = if 300 < h.length then 2 else if h.any (fun x => decide (200 < x.c.vals.length)) then 2 else if h.all (fun x => Hepy.cellOk (cells h) x.c) then 0 else 3) := by
    show _ = _
    unfold Hepy.checkH
    rw [cells_len]
    simp only [cells, List.any_map, List.all_map]
    rfl
  clear hr hrow
  by_cases y0 : h.length > 300
  · have d0 : decide ((h.length : Int) > 300) = true := decide_eq_true (by omega)
    have Y0 := Lib.hid y0
    clear y0
    go_enter Try.func18, Try.ntmps18
    go_wp2
    go_ret
    exact ⟨ret_int (by rw [HCK.out, if_pos Y0.out]; rfl), Below.refl _ _⟩
  · have d0 : decide ((h.length : Int) > 300) = false := decide_eq_false (by omega)
    have hh : h.length ≤ 300 := by omega
    have HC1 : Hid (Hepy.checkH (cells h) = if h.any (fun x => decide (200 < x.c.vals.length)) then 2 else if h.all (fun x => Hepy.cellOk (cells h) x.c) then 0 else 3) := by show _ = _; rw [HCK.out, if_neg (by omega)]
    clear y0
    go_enter Try.func18, Try.ntmps18
    go_upto_region 4 with (fail)
    go_loopg [12] h.length (fun gg s12 wr => ∃ k : Nat, k ≤ h.length ∧ h.length - k ≤ gg ∧ s12 = .int .i64 (k : Int) ∧ Hid (Below w.heap.size w wr) ∧ Hid (∀ j x, j < k → h[j]? = some x → x.c.vals.length ≤ 200))
    case atStart => exact ⟨0, Nat.zero_le _, by omega, rfl, Below.refl _ _, fun j x hj => absurd hj (Nat.not_lt_zero _)⟩
    case round =>
      obtain ⟨k, hk, hgg, rfl, BW, AA⟩ := hrel
      by_cases hlt : k < h.length
      · have hlt2 : decide ((k : Int) < (h.length : Int)) = true := decide_eq_true (by omega)
        have hltz : (k : Int) < (h.length : Int) := by omega
        obtain ⟨x, hx⟩ : ∃ x, h[k]? = some x := ⟨_, List.getElem?_eq_getElem hlt⟩
        obtain ⟨g, o, rfl, hg, hrg⟩ := HROW.out (by omega)
        have hrange : Hid (wr.rangeAt g (o + k * 3) (cc x).toList) := fun i u hu => by
          rw [BW.out.cell (p := ⟨g, o + k * 3 + i, none⟩) hg]
          exact RdL.elem (k := 3) (f := cc) (fun _ => rfl) hrg hx i u hu
        have HX := Lib.hid hx
        clear hrg hx
        go_upto_region 6 with (first | (refine wpList_load_mid rfl 46 (.tmp 14) rfl g (o + k * 3) rfl (cc x).toList _ hrange.out Try.underlying46 rfl info_cell ?_) | (refine wpList_store_box rfl 46 (.tmp 4) (.tmp 15) rfl wr.heap.size (cc x) rfl rfl 46 _ (Box.new wr _ _) info_cell rfl (cc_one x) ?_; intro w6 hx6 hu6 hz6))
        have hb6 : Below wr.heap.size wr w6 := ((Below.refl _ wr).alloc (Nat.le_refl _) _).trans (hu6.own (Nat.le_refl _) (by simp))
        have BW6 := Lib.hid (BW.out.trans (hb6.mono BW.out.size))
        have c2 : w6.cell? ⟨wr.heap.size, 2, none⟩ = some (.slice x.K x.c.vals.length x.ck) := hx6.cell 2
        obtain ⟨nv, hnv⟩ : ∃ nv, x.c.vals.length = nv := ⟨_, rfl⟩
        rw [hnv] at c2
        have HNV := Lib.hid hnv
        clear hb6 hu6 hx6 hrange hnv BW
        by_cases y1 : nv > 200
        · have d1 : decide ((nv : Int) > 200) = true := decide_eq_true (by omega)
          have Y1 := Lib.hid y1
          clear y1
          go_wp2
          go_ret
          exact ⟨ret_int (by rw [HC1.out, if_pos (any_hit HX.out (decide_eq_true (by rw [HNV.out]; exact Y1.out)))]; rfl), BW6.out⟩
        · have d1 : decide ((nv : Int) > 200) = false := decide_eq_false (by omega)
          go_wp2
          go_roundg (h.length - (k + 1))
          case measure => omega
          case rel =>
            refine ⟨k + 1, by omega, by omega, by go_num, BW6.out, (show Hid _ from fun j z hj hz => ?_)⟩
            by_cases e : j = k
            · subst e
              have := HX.out
              rw [hz] at this
              injection this with this
              rw [this, HNV.out]; omega
            · exact AA.out j z (by omega) hz
      · have hlt2 : decide ((k : Int) < (h.length : Int)) = false := decide_eq_false (by omega)
        have HALL : Hid (∀ x ∈ h, x.c.vals.length ≤ 200) := fun x hx => by
          obtain ⟨j, hj⟩ := List.getElem?_of_mem hx
          exact AA.out j x (by have := (List.getElem?_eq_some_iff.1 hj).1; omega) hj
        have HC2 : Hid (Hepy.checkH (cells h) = if h.all (fun x => Hepy.cellOk (cells h) x.c) then 0 else 3) := by
          show _ = _
          rw [HC1.out, any_miss (fun j y hj => decide_eq_false (by have := HALL.out y (List.mem_of_getElem? hj); omega))]
          simp
        obtain ⟨wi, rfl⟩ : ∃ wi : World, wi = wr := ⟨_, rfl⟩
        have BWi := Lib.hid BW.out
        clear BW AA
        go_upto_region 10 with (fail)
        go_loopg [23] h.length (fun gg s23 wr => ∃ k : Nat, k ≤ h.length ∧ h.length - k ≤ gg ∧ s23 = .int .i64 (k : Int) ∧ Hid (Below w.heap.size w wr) ∧ Hid (∀ j x, j < k → h[j]? = some x → Hepy.cellOk (cells h) x.c = true))
        case atStart => exact ⟨0, Nat.zero_le _, by omega, rfl, BWi.out, fun j x hj => absurd hj (Nat.not_lt_zero _)⟩
        case round =>
          obtain ⟨k, hk, hgg, rfl, BW, AA⟩ := hrel
          by_cases hlt : k < h.length
          · have hlt2 : decide ((k : Int) < (h.length : Int)) = true := decide_eq_true (by omega)
            have hltz : (k : Int) < (h.length : Int) := by omega
            obtain ⟨x, hx⟩ : ∃ x, h[k]? = some x := ⟨_, List.getElem?_eq_getElem hlt⟩
            have hce := HCE.out x (List.mem_of_getElem? hx) (by have := HALL.out x (List.mem_of_getElem? hx); omega)
            obtain ⟨q, hq⟩ : ∃ q, Hepy.cellOk (cells h) x.c = q := ⟨_, rfl⟩
            rw [hq] at hce
            have HQ := Lib.hid hq
            have HCE2 := Lib.hid hce
            obtain ⟨g, o, rfl, hg, hrg⟩ := HROW.out (by omega)
            have hrange : Hid (wr.rangeAt g (o + k * 3) (cc x).toList) := fun i u hu => by
              rw [BW.out.cell (p := ⟨g, o + k * 3 + i, none⟩) hg]
              exact RdL.elem (k := 3) (f := cc) (fun _ => rfl) hrg hx i u hu
            have HX := Lib.hid hx
            clear hrg hx hce hq
            go_upto_region 12 with (first | (refine wpList_load_mid rfl 46 (.tmp 25) rfl g (o + k * 3) rfl (cc x).toList _ hrange.out Try.underlying46 rfl info_cell ?_) | (refine wpList_store_box rfl 46 (.tmp 6) (.tmp 26) rfl wr.heap.size (cc x) rfl rfl 46 _ (Box.new wr _ _) info_cell rfl (cc_one x) ?_; intro w6 hx6 hu6 hz6))
            have hb6 : Below wr.heap.size wr w6 := ((Below.refl _ wr).alloc (Nat.le_refl _) _).trans (hu6.own (Nat.le_refl _) (by simp))
            have BW6 := Lib.hid (BW.out.trans (hb6.mono BW.out.size))
            have HX6 := Lib.hid hx6
            clear hb6 hu6 hx6 hrange BW
            go_wp2_with (refine wpList_load_row rfl 46 (.tmp 6) rfl wr.heap.size rfl _ (cc x) (0, 0) _ HX6.out Try.underlying46 rfl info_cell ?_)
            refine (HCE2.out _ BW6.out).mono ?_
            rintro en w7 ⟨rfl, hb7⟩
            have BW7 := Lib.hid (BW6.out.trans (hb7.mono BW6.out.size))
            clear hb7
            cases q with
            | false =>
              go_wp2
              go_ret
              exact ⟨ret_int (by rw [HC2.out, all_hit HX.out HQ.out]; rfl), BW7.out⟩
            | true =>
              go_wp2
              go_roundg (h.length - (k + 1))
              case measure => omega
              case rel =>
                refine ⟨k + 1, by omega, by omega, by go_num, BW7.out, (show Hid _ from fun j z hj hz => ?_)⟩
                by_cases e : j = k
                · subst e
                  have := HX.out
                  rw [hz] at this
                  injection this with this
                  rw [this]; exact HQ.out
                · exact AA.out j z (by omega) hz
          · have hlt2 : decide ((k : Int) < (h.length : Int)) = false := decide_eq_false (by omega)
            have HAL : Hid (h.all (fun x => Hepy.cellOk (cells h) x.c) = true) := all_yes (fun j y hj => AA.out j y (by have := (List.getElem?_eq_some_iff.1 hj).1; omega) hj)
            go_wp2
            go_ret
            exact ⟨ret_int (by rw [HC2.out, HAL.out]; rfl), BW.out⟩
set_option maxRecDepth 100000 in
set_option maxHeartbeats 2000000 in
theorem asked_any (h : List CellV) (u : Value) (l : List Valu.V) (v : Value) (w : World) (hr : HRd w h u) (hl : RdL w 3 vc l v) (hz : Szs l) :
    Calls Try.prog 19 #[u, v] w fun e w' => e = .returned (.int .i64 (Hepy.askedH (cells h) l : Int)) ∧ Below w.heap.size w w' := by
  have HCK := Lib.hid (Check_any h u w hr)
  have HF : Hid (∀ x ∈ l, ∀ w', Below w.heap.size w w' → Calls Try.prog 32 #[u, .agg (vc x)] w' fun e w'' => e = .returned (.bool (Hepy.fits (cells h) x)) ∧ Below w'.heap.size w' w'') := fun x hx w' hb => fits_any h u x w' (hr.below hb) (hz x hx)
  obtain ⟨C, hC⟩ : ∃ C, Hepy.checkH (cells h) = C := ⟨_, rfl⟩
  rw [hC] at HCK
  have HA : Hid (Hepy.askedH (cells h) l = if C ≠ 0 then C else if l.all (Hepy.fits (cells h)) then 0 else 1) := by
    show _ = _
    unfold Hepy.askedH
    rw [hC]
  obtain ⟨UA, ucap, rfl, _⟩ := hr.r
  obtain ⟨A, cap, rfl, hc1, hc2, hrow⟩ := hl
  have HROW := Lib.hid hrow
  clear hr hrow hC hz
  go_enter Try.func19, Try.ntmps19
  go_wp2_with (fail)
  refine (HCK.out).mono ?_
  rintro en W ⟨rfl, hbW⟩
  have HU := Lib.hid hbW
  clear hbW
  by_cases y : C = 0
  · subst y
    have g1 : (((0 : Nat) : Int) != 0) = false := by simp
    have HA1 : Hid (Hepy.askedH (cells h) l = if l.all (Hepy.fits (cells h)) then 0 else 1) := HA.out
    go_upto_region 5 with (fail)
    go_loopg [15] l.length (fun gg s15 wr => ∃ k : Nat, k ≤ l.length ∧ l.length - k ≤ gg ∧ s15 = .int .i64 (k : Int) ∧ Hid (Below w.heap.size w wr) ∧ Hid (∀ j x, j < k → l[j]? = some x → Hepy.fits (cells h) x = true))
    case atStart => exact ⟨0, Nat.zero_le _, by omega, rfl, HU.out, fun j x hj => absurd hj (Nat.not_lt_zero _)⟩
    case round =>
      obtain ⟨k, hk, hgg, rfl, BW, AA⟩ := hrel
      by_cases hlt : k < l.length
      · have hlt2 : decide ((k : Int) < (l.length : Int)) = true := decide_eq_true (by omega)
        have hltz : (k : Int) < (l.length : Int) := by omega
        obtain ⟨x, hx⟩ : ∃ x, l[k]? = some x := ⟨_, List.getElem?_eq_getElem hlt⟩
        have hce := HF.out x (List.mem_of_getElem? hx)
        obtain ⟨q, hq⟩ : ∃ q, Hepy.fits (cells h) x = q := ⟨_, rfl⟩
        rw [hq] at hce
        have HQ := Lib.hid hq
        have HCE2 := Lib.hid hce
        obtain ⟨g, o, rfl, hg, hrg⟩ := HROW.out (by omega)
        have hrange : Hid (wr.rangeAt g (o + k * 3) (vc x).toList) := fun i u hu => by
          rw [BW.out.cell (p := ⟨g, o + k * 3 + i, none⟩) hg]
          exact RdL.elem (k := 3) (f := vc) (fun _ => rfl) hrg hx i u hu
        have HX := Lib.hid hx
        clear hrg hx hce hq
        go_upto_region 7 with (first | (refine wpList_load_mid rfl 31 (.tmp 17) rfl g (o + k * 3) rfl (vc x).toList _ hrange.out Try.underlying31 rfl info_val ?_) | (refine wpList_store_box rfl 31 (.tmp 7) (.tmp 18) rfl wr.heap.size (vc x) rfl rfl 31 _ (Box.new wr _ _) info_val rfl (vc_one x) ?_; intro w6 hx6 hu6 hz6))
        have hb6 : Below wr.heap.size wr w6 := ((Below.refl _ wr).alloc (Nat.le_refl _) _).trans (hu6.own (Nat.le_refl _) (by simp))
        have BW6 := Lib.hid (BW.out.trans (hb6.mono BW.out.size))
        have HX6 := Lib.hid hx6
        clear hb6 hu6 hx6 hrange BW
        go_wp2_with (refine wpList_load_row rfl 31 (.tmp 7) rfl wr.heap.size rfl _ (vc x) (0, 0) _ HX6.out Try.underlying31 rfl info_val ?_)
        refine (HCE2.out _ BW6.out).mono ?_
        rintro en w7 ⟨rfl, hb7⟩
        have BW7 := Lib.hid (BW6.out.trans (hb7.mono BW6.out.size))
        clear hb7
        cases q with
        | false =>
          go_wp2
          go_ret
          exact ⟨ret_int (by rw [HA1.out, all_hit HX.out HQ.out]; rfl), BW7.out⟩
        | true =>
          go_wp2
          go_roundg (l.length - (k + 1))
          case measure => omega
          case rel =>
            refine ⟨k + 1, by omega, by omega, by go_num, BW7.out, (show Hid _ from fun j z hj hz => ?_)⟩
            by_cases e : j = k
            · subst e
              have := HX.out
              rw [hz] at this
              injection this with this
              rw [this]; exact HQ.out
            · exact AA.out j z (by omega) hz
      · have hlt2 : decide ((k : Int) < (l.length : Int)) = false := decide_eq_false (by omega)
        have HAL : Hid (l.all (Hepy.fits (cells h)) = true) := all_yes (fun j y hj => AA.out j y (by have := (List.getElem?_eq_some_iff.1 hj).1; omega) hj)
        go_wp2
        go_ret
        exact ⟨ret_int (by rw [HA1.out, HAL.out]; rfl), BW.out⟩
  · have g1 : ((C : Int) != 0) = true := by simp; omega
    have Y := Lib.hid y
    clear y
    go_wp2
    go_ret
    exact ⟨ret_int (by rw [HA.out, if_pos Y.out]), HU.out⟩
end Go.Proofs.Ytbhccidchjmjlaa
