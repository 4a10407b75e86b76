/-
  Cells held against each other; Alike: walked. Conditions: the cells read as rows.
-/
import Derived.Test.YtbhccidchjmjlaaHpJ
namespace Hepy
/-- are both alike? And what went wrong. -/
def alike (h : List Cell) (a : Valu.V) (k : List Cell) (b : Valu.V) : Bool × Nat :=
  if checkH h ≠ 0 then (false, checkH h) else if checkH k ≠ 0 then (false, checkH k)
  else if (move h [a]).2.2 ≠ 0 then (false, (move h [a]).2.2) else if (move k [b]).2.2 ≠ 0 then (false, (move k [b]).2.2)
  else (decide ((move h [a]).1 = (move k [b]).1) && decide (ren (pos (walked h [a])) a = ren (pos (walked k [b])) b), 0)
end Hepy
namespace Go.Proofs.Ytbhccidchjmjlaa
set_option linter.unusedSimpArgs false
set_option linter.unusedVariables false
open Go.RowKit

theorem rd_box {α : Type} {w : World} {k n g : Nat} {t : TypeId} {f : α → Array Value} {l : List α} {cs : Array Value} (h : Box w g t cs) (he : cs.toList = flat f l) (hn : l.length = n) (hs : n ≤ 100) : RdL w k f l (.slice (some ⟨g, 0, none⟩) n n) := by
  subst hn
  refine ⟨_, _, rfl, Nat.le_refl _, by omega, fun _ => ⟨g, 0, rfl, h.lt, fun j u hu => ?_⟩⟩
  rw [Nat.zero_add, h.cell, ← Array.getElem?_toList, he]
  exact hu
theorem cell_dec (x y : Hepy.Cell) : decide (x = y) = (decide (x.kind = y.kind) && (decide (x.names = y.names) && decide (x.vals = y.vals))) := by
  obtain ⟨a, b, c⟩ := x
  obtain ⟨d, e, f⟩ := y
  rw [Bool.eq_iff_iff]; simp
theorem eg_same1 : ∀ args w, (callFunc 28 args).run Try.prog w = .ok (.enter 28 args) w := Go.Proofs.enters_of Try.func28 (by kernel_rfl) rfl
set_option maxRecDepth 100000 in
set_option maxHeartbeats 2000000 in
theorem same1 (x y : CellV) (w : World) (hx : CRd w x) (hy : CRd w y) (hxl : x.c.vals.length ≤ 1000000) (hyl : y.c.vals.length ≤ 1000000) :
    Calls Try.prog 28 #[.agg (cc x), .agg (cc y)] w fun e w' => e = .returned (.bool (decide (x.c = y.c))) ∧ Below w.heap.size w w' := by
  have HEN : Hid (∀ w', Below w.heap.size w w' → Calls Try.prog 27 #[x.as, y.as] w' fun e w'' => e = .returned (.bool (decide (x.c.names = y.c.names))) ∧ Below w'.heap.size w' w'') := fun w' hb => equal_strs _ _ _ _ w' (hx.a.below hb) (hy.a.below hb)
  have HEV : Hid (∀ w', Below w.heap.size w w' → Calls Try.prog 13 #[x.ks, y.ks] w' fun e w'' => e = .returned (.bool (decide (x.c.vals = y.c.vals))) ∧ Below w'.heap.size w' w'') := fun w' hb => equal_val _ _ _ _ w' (hx.k.below hb) (hy.k.below hb) hxl hyl
  have HD := Lib.hid (cell_dec x.c y.c)
  obtain ⟨qn, hqn⟩ : ∃ q, decide (x.c.names = y.c.names) = q := ⟨_, rfl⟩
  obtain ⟨qv, hqv⟩ : ∃ q, decide (x.c.vals = y.c.vals) = q := ⟨_, rfl⟩
  rw [hqn] at HEN HD
  rw [hqv] at HEV HD
  obtain ⟨⟨k1, n1, v1⟩, A1, ca1, K1, ck1⟩ := x
  obtain ⟨⟨k2, n2, v2⟩, A2, ca2, K2, ck2⟩ := y
  simp only at HEN HEV HD hxl hyl
  clear hx hy hqn hqv
  go_enter Try.func28, Try.ntmps28
  go_upto_region 1 with (fail)
  refine gen_world (F := fun W => Box W w.heap.size 46 #[.int .i64 k1, .slice A1 n1.length ca1, .slice K1 v1.length ck1] ∧ Box W (w.heap.size + 1) 46 #[.int .i64 k2, .slice A2 n2.length ca2, .slice K2 v2.length ck2] ∧ Below w.heap.size w W) ⟨(Box.new w _ _).alloc _, new2 w _ _ _, (below1 w _).alloc (by simp) _⟩ ?_
  rintro W ⟨b1, b2, hU⟩
  have HU := Lib.hid hU
  have HB1 := Lib.hid b1
  have HB2 := Lib.hid b2
  have a0 := b1.cell 0
  have a1 := b1.cell 1
  have c0 := b2.cell 0
  have c1 := b2.cell 1
  simp at a0 a1 c0 c1
  clear hU b1 b2
  by_cases hk : k1 = k2
  · have ek : (k1 == k2) = true := by simp [hk]
    have HK : Hid (decide (k1 = k2) = true) := decide_eq_true hk
    clear hk
    go_wp2_with (fail)
    refine (HEN.out _ HU.out).mono ?_
    rintro en W1 ⟨rfl, hb1⟩
    have HU1 := Lib.hid (HU.out.trans (hb1.mono HU.out.size))
    have a2 := (HB1.out.below hb1 HB1.out.lt).cell 2
    have c2 := (HB2.out.below hb1 HB2.out.lt).cell 2
    simp at a2 c2
    clear hb1
    cases qn with
    | false =>
      go_wp2
      go_ret
      exact ⟨ret_bool (by rw [HD.out, HK.out]; rfl), HU1.out⟩
    | true =>
      go_wp2_with (fail)
      refine (HEV.out _ HU1.out).mono ?_
      rintro en W2 ⟨rfl, hb2⟩
      have HU2 := Lib.hid (HU1.out.trans (hb2.mono HU1.out.size))
      clear hb2
      cases qv
      all_goals
        go_wp2
        go_ret
        exact ⟨ret_bool (by rw [HD.out, HK.out]; rfl), HU2.out⟩
  · have ek : (k1 == k2) = false := by simp [hk]
    have HK : Hid (decide (k1 = k2) = false) := decide_eq_false hk
    clear hk
    go_wp2
    go_ret
    exact ⟨ret_bool (by rw [HD.out, HK.out]; rfl), HU.out⟩
theorem eg_same2 : ∀ args w, (callFunc 26 args).run Try.prog w = .ok (.enter 26 args) w := Go.Proofs.enters_of Try.func26 (by kernel_rfl) rfl
set_option maxRecDepth 100000 in
set_option maxHeartbeats 2000000 in
theorem same2 (x y : CellV) (w : World) (hx : CRd w x) (hy : CRd w y) (hxl : x.c.vals.length ≤ 1000000) (hyl : y.c.vals.length ≤ 1000000) :
    Calls Try.prog 26 #[.agg (cc x), .agg (cc y)] w fun e w' => e = .returned (.bool (decide (x.c = y.c))) ∧ Below w.heap.size w w' := by
  have HEN : Hid (∀ w', Below w.heap.size w w' → Calls Try.prog 27 #[x.as, y.as] w' fun e w'' => e = .returned (.bool (decide (x.c.names = y.c.names))) ∧ Below w'.heap.size w' w'') := fun w' hb => equal_strs _ _ _ _ w' (hx.a.below hb) (hy.a.below hb)
  have HEV : Hid (∀ w', Below w.heap.size w w' → Calls Try.prog 13 #[x.ks, y.ks] w' fun e w'' => e = .returned (.bool (decide (x.c.vals = y.c.vals))) ∧ Below w'.heap.size w' w'') := fun w' hb => equal_val _ _ _ _ w' (hx.k.below hb) (hy.k.below hb) hxl hyl
  have HD := Lib.hid (cell_dec x.c y.c)
  obtain ⟨qn, hqn⟩ : ∃ q, decide (x.c.names = y.c.names) = q := ⟨_, rfl⟩
  obtain ⟨qv, hqv⟩ : ∃ q, decide (x.c.vals = y.c.vals) = q := ⟨_, rfl⟩
  rw [hqn] at HEN HD
  rw [hqv] at HEV HD
  obtain ⟨⟨k1, n1, v1⟩, A1, ca1, K1, ck1⟩ := x
  obtain ⟨⟨k2, n2, v2⟩, A2, ca2, K2, ck2⟩ := y
  simp only at HEN HEV HD hxl hyl
  clear hx hy hqn hqv
  go_enter Try.func26, Try.ntmps26
  go_upto_region 1 with (fail)
  refine gen_world (F := fun W => Box W w.heap.size 46 #[.int .i64 k1, .slice A1 n1.length ca1, .slice K1 v1.length ck1] ∧ Box W (w.heap.size + 1) 46 #[.int .i64 k2, .slice A2 n2.length ca2, .slice K2 v2.length ck2] ∧ Below w.heap.size w W) ⟨(Box.new w _ _).alloc _, new2 w _ _ _, (below1 w _).alloc (by simp) _⟩ ?_
  rintro W ⟨b1, b2, hU⟩
  have HU := Lib.hid hU
  have HB1 := Lib.hid b1
  have HB2 := Lib.hid b2
  have a0 := b1.cell 0
  have a1 := b1.cell 1
  have c0 := b2.cell 0
  have c1 := b2.cell 1
  simp at a0 a1 c0 c1
  clear hU b1 b2
  by_cases hk : k1 = k2
  · have ek : (k1 == k2) = true := by simp [hk]
    have HK : Hid (decide (k1 = k2) = true) := decide_eq_true hk
    clear hk
    go_wp2_with (fail)
    refine (HEN.out _ HU.out).mono ?_
    rintro en W1 ⟨rfl, hb1⟩
    have HU1 := Lib.hid (HU.out.trans (hb1.mono HU.out.size))
    have a2 := (HB1.out.below hb1 HB1.out.lt).cell 2
    have c2 := (HB2.out.below hb1 HB2.out.lt).cell 2
    simp at a2 c2
    clear hb1
    cases qn with
    | false =>
      go_wp2
      go_ret
      exact ⟨ret_bool (by rw [HD.out, HK.out]; rfl), HU1.out⟩
    | true =>
      go_wp2_with (fail)
      refine (HEV.out _ HU1.out).mono ?_
      rintro en W2 ⟨rfl, hb2⟩
      have HU2 := Lib.hid (HU1.out.trans (hb2.mono HU1.out.size))
      clear hb2
      cases qv
      all_goals
        go_wp2
        go_ret
        exact ⟨ret_bool (by rw [HD.out, HK.out]; rfl), HU2.out⟩
  · have ek : (k1 == k2) = false := by simp [hk]
    have HK : Hid (decide (k1 = k2) = false) := decide_eq_false hk
    clear hk
    go_wp2
    go_ret
    exact ⟨ret_bool (by rw [HD.out, HK.out]; rfl), HU.out⟩
/-- lists of cells that are short. -/
def Shr (h : List CellV) : Prop := ∀ x ∈ h, x.c.vals.length ≤ 1000000
set_option maxRecDepth 100000 in
set_option maxHeartbeats 4000000 in
theorem equalfn_any (h k : List CellV) (v u : Value) (g : Nat) (w : World) (eg : ∀ args w, (callFunc g args).run Try.prog w = .ok (.enter g args) w)
    (hp : ∀ (x y : CellV) (w1 : World), CRd w1 x → CRd w1 y → x.c.vals.length ≤ 1000000 → y.c.vals.length ≤ 1000000 → Calls Try.prog g #[.agg (cc x), .agg (cc y)] w1 fun e w' => e = .returned (.bool (decide (x.c = y.c))) ∧ Below w1.heap.size w1 w')
    (hr : HRd w h v) (hk : HRd w k u) (hhs : Shr h) (hks : Shr k) :
    Calls Try.prog 25 #[v, u, .func (.func g) #[] #[]] w fun e w' => e = .returned (.bool (decide (cells h = cells k))) ∧ Below w.heap.size w w' := by
  have HP := Lib.hid hp
  have HH := Lib.hid hr
  have HK := Lib.hid hk
  have HHS := Lib.hid hhs
  have HKS := Lib.hid hks
  obtain ⟨A, cap, rfl, hc1, hc2, hrow⟩ := hr.r
  obtain ⟨A2, cap2, rfl, hc3, hc4, hrow2⟩ := hk.r
  have HR := Lib.hid hrow
  have HR2 := Lib.hid hrow2
  clear hp hr hk hhs hks hrow hrow2
  go_enter Try.func25, Try.ntmps25
  by_cases hl : h.length = k.length
  · have hne : ((h.length : Int) != (k.length : Int)) = false := by simp [hl]
    have hneN : (h.length != k.length) = false := by simp [hl]
    have HL := Lib.hid hl
    clear hl
    go_upto_region 4 with (fail)
    go_loopg [17] h.length (fun gg s17 wr => ∃ j : Nat, j ≤ h.length ∧ h.length - j ≤ gg ∧ s17 = .int .i64 (j : Int) ∧ Hid (Below w.heap.size w wr) ∧ Hid (∀ (i : Nat) (x y : CellV), i < j → h[i]? = some x → k[i]? = some y → x.c = y.c))
    case atStart => exact ⟨0, Nat.zero_le _, by omega, rfl, Below.refl _ w, fun i x y hi => absurd hi (Nat.not_lt_zero _)⟩
    case round =>
      obtain ⟨j, hj, hgg, rfl, BW, AA⟩ := hrel
      by_cases hlt : j < h.length
      · have hlt2 : decide ((j : Int) < (h.length : Int)) = true := decide_eq_true (by omega)
        have hltz : (j : Int) < (h.length : Int) := by omega
        have hltk : (j : Int) < (k.length : Int) := by have := HL.out; omega
        obtain ⟨x, hx⟩ : ∃ x, h[j]? = some x := ⟨_, List.getElem?_eq_getElem hlt⟩
        obtain ⟨y, hy⟩ : ∃ y, k[j]? = some y := ⟨_, List.getElem?_eq_getElem (by have := HL.out; omega)⟩
        obtain ⟨g0, o0, rfl, hg0, hrg⟩ := HR.out (by omega)
        obtain ⟨g1, o1, rfl, hg1, hrg1⟩ := HR2.out (by have := HL.out; omega)
        have hr0 : Hid (wr.rangeAt g0 (o0 + j * 3) (cc x).toList) := fun i u hu => by
          rw [BW.out.cell (p := ⟨g0, o0 + j * 3 + i, none⟩) hg0]
          exact RdL.elem (f := cc) (fun _ => rfl) hrg hx i u hu
        have HX := Lib.hid hx
        have HY := Lib.hid hy
        have HRG1 := Lib.hid hrg1
        have HCX := Lib.hid (HH.out.n x (List.mem_of_getElem? hx))
        have HCY := Lib.hid (HK.out.n y (List.mem_of_getElem? hy))
        have HLX := Lib.hid (HHS.out x (List.mem_of_getElem? hx))
        have HLY := Lib.hid (HKS.out y (List.mem_of_getElem? hy))
        clear hx hy hrg hrg1
        go_upto_region 6 with (first | (refine wpList_load_mid rfl 46 (.tmp 20) rfl g0 (o0 + j * 3) rfl (cc x).toList _ hr0.out Try.underlying46 rfl info_cell ?_) | (refine wpList_store_box rfl 46 (.tmp 8) (.tmp 21) rfl wr.heap.size (cc x) rfl rfl 46 _ (Box.new wr _ _) info_cell rfl (cc_one x) ?_; intro w6 hx6 hu6 hz6))
        have hb6 : Below wr.heap.size wr w6 := ((Below.refl _ wr).alloc (Nat.le_refl _) _).trans (hu6.own (Nat.le_refl _) (by simp))
        have BW6 := Lib.hid (BW.out.trans (hb6.mono BW.out.size))
        have HX6 := Lib.hid hx6
        have hz66 := hb6.size
        have hr1 : Hid (w6.rangeAt g1 (o1 + j * 3) (cc y).toList) := fun i u hu => by
          rw [BW6.out.cell (p := ⟨g1, o1 + j * 3 + i, none⟩) hg1]
          exact RdL.elem (f := cc) (fun _ => rfl) HRG1.out HY.out i u hu
        clear hb6 hu6 hx6 hz6 hr0 BW
        go_upto_region 7 with (first | (refine wpList_load_mid rfl 46 (.tmp 24) rfl g1 (o1 + j * 3) rfl (cc y).toList _ hr1.out Try.underlying46 rfl info_cell ?_) | (refine wpList_store_box rfl 46 (.tmp 9) (.tmp 25) rfl w6.heap.size (cc y) rfl rfl 46 _ (Box.new w6 _ _) info_cell rfl (cc_one y) ?_; intro w7 hx7 hu7 hz7))
        have hb7 : Below w6.heap.size w6 w7 := ((Below.refl _ w6).alloc (Nat.le_refl _) _).trans (hu7.own (Nat.le_refl _) (by simp))
        have BW7 := Lib.hid (BW6.out.trans (hb7.mono BW6.out.size))
        have HX7 := Lib.hid (HX6.out.below hb7 HX6.out.lt)
        have HY7 := Lib.hid hx7
        have HCALL := Lib.hid (HP.out x y w7 (HCX.out.below BW7.out) (HCY.out.below BW7.out) HLX.out HLY.out)
        obtain ⟨q, hq⟩ : ∃ q, decide (x.c = y.c) = q := ⟨_, rfl⟩
        rw [hq] at HCALL
        have HQ := Lib.hid hq
        clear hb7 hu7 hx7 hz7 hr1 hq
        go_wp2_with (first | (refine wpList_load_row rfl 46 (.tmp 8) rfl wr.heap.size rfl _ (cc x) (0, 0) _ HX7.out Try.underlying46 rfl info_cell ?_) | (refine wpList_load_row rfl 46 (.tmp 9) rfl w6.heap.size rfl _ (cc y) (0, 0) _ HY7.out Try.underlying46 rfl info_cell ?_))
        refine (HCALL.out).mono ?_
        rintro en w8 ⟨rfl, hb8⟩
        have BW8 := Lib.hid (BW7.out.trans (hb8.mono BW7.out.size))
        clear hb8
        cases q with
        | false =>
          go_wp2
          go_ret
          refine ⟨ret_bool (decide_eq_false (fun e => ?_)).symm, BW8.out⟩
          have h1 : (cells h)[j]? = some x.c := by unfold cells; rw [List.getElem?_map, HX.out]; rfl
          have h2 : (cells k)[j]? = some y.c := by unfold cells; rw [List.getElem?_map, HY.out]; rfl
          rw [e, h2] at h1
          injection h1 with h1
          exact of_decide_eq_false HQ.out h1.symm
        | true =>
          go_wp2
          go_roundg (h.length - (j + 1))
          case measure => omega
          case rel =>
            refine ⟨j + 1, by omega, by omega, by go_num, BW8.out, (show Hid _ from fun i x' y' hi hx' hy' => ?_)⟩
            by_cases e : i = j
            · subst e
              have h1 := HX.out
              have h2 := HY.out
              rw [hx'] at h1
              rw [hy'] at h2
              injection h1 with h1
              injection h2 with h2
              rw [h1, h2]; exact of_decide_eq_true HQ.out
            · exact AA.out i x' y' (by omega) hx' hy'
      · have hlt2 : decide ((j : Int) < (h.length : Int)) = false := decide_eq_false (by omega)
        go_wp2
        go_ret
        refine ⟨ret_bool (decide_eq_true ?_).symm, BW.out⟩
        unfold cells
        refine List.ext_getElem? fun i => ?_
        rw [List.getElem?_map, List.getElem?_map]
        by_cases hi : i < h.length
        · obtain ⟨x, hx⟩ : ∃ x, h[i]? = some x := ⟨_, List.getElem?_eq_getElem hi⟩
          obtain ⟨y, hy⟩ : ∃ y, k[i]? = some y := ⟨_, List.getElem?_eq_getElem (by have := HL.out; omega)⟩
          rw [hx, hy, Option.map_some, Option.map_some, AA.out i x y (by omega) hx hy]
        · rw [List.getElem?_eq_none (by omega), List.getElem?_eq_none (by have := HL.out; omega)]
  · have hne : ((h.length : Int) != (k.length : Int)) = true := by simp; omega
    have hneN : (h.length != k.length) = true := by simp [hl]
    have HL := Lib.hid hl
    clear hl
    go_wp2
    go_ret
    refine ⟨ret_bool (decide_eq_false (fun e => ?_)).symm, Below.refl _ _⟩
    have := congrArg List.length e
    rw [cells_len, cells_len] at this
    exact HL.out this
set_option maxHeartbeats 1000000 in
theorem samecells_any (h k : List CellV) (v u : Value) (w : World) (hr : HRd w h v) (hk : HRd w k u) (hhs : Shr h) (hks : Shr k) :
    Calls Try.prog 12 #[v, u] w fun e w' => e = .returned (.bool (decide (cells h = cells k))) ∧ Below w.heap.size w w' := by
  have HE := Lib.hid (equalfn_any h k v u 26 w eg_same2 same2 hr hk hhs hks)
  obtain ⟨A, cap, rfl, _⟩ := hr.r
  obtain ⟨A2, cap2, rfl, _⟩ := hk.r
  clear hr hk
  go_enter Try.func12, Try.ntmps12
  go_wp2_with (fail)
  refine (HE.out).mono ?_
  rintro e w1 ⟨rfl, hb⟩
  go_wp2
  go_ret
  exact ⟨rfl, hb⟩
set_option maxHeartbeats 1000000 in
theorem refTo_any (n : Int) (w : World) :
    Calls Try.prog 16 #[.int .i64 n] w fun e w' => e = .returned (.agg (vc ⟨4, n, []⟩)) ∧ Below w.heap.size w w' := by
  go_enter Try.func16, Try.ntmps16
  go_wp2
  go_returns
  exact ⟨rfl, below1 _ _⟩
set_option maxHeartbeats 2000000 in
theorem ok_any (l : List Int) (v : Value) (w : World) (hl : RdL w 1 ic l v) :
    Calls Try.prog 11 #[v] w fun e w' => e = .returned (.bool (l.all fun n => decide (n = 0))) ∧ w' = w := by
  obtain ⟨A, cap, rfl, hc1, hc2, hrow⟩ := hl
  have HR := Lib.hid hrow
  clear hrow
  go_enter Try.func11, Try.ntmps11
  go_upto_region 2 with (fail)
  go_loopg [7] l.length (fun gg s7 wr => ∃ j : Nat, j ≤ l.length ∧ l.length - j ≤ gg ∧ s7 = .int .i64 (j : Int) ∧ wr = w ∧ Hid (∀ (i : Nat) (x : Int), i < j → l[i]? = some x → x = 0))
  case atStart => exact ⟨0, Nat.zero_le _, by omega, rfl, rfl, fun i x hi => absurd hi (Nat.not_lt_zero _)⟩
  case round =>
    obtain ⟨j, hj, hgg, rfl, rfl, AA⟩ := hrel
    by_cases hlt : j < l.length
    · have hlt2 : decide ((j : Int) < (l.length : Int)) = true := decide_eq_true (by omega)
      have hltz : (j : Int) < (l.length : Int) := by omega
      obtain ⟨x, hx⟩ : ∃ x, l[j]? = some x := ⟨_, List.getElem?_eq_getElem hlt⟩
      obtain ⟨g, o, rfl, hg, hrg⟩ := HR.out (by omega)
      have cx := RdL.elem (k := 1) (f := ic) (fun _ => rfl) hrg hx 0 _ rfl
      simp only [Nat.mul_one, Nat.add_zero] at cx
      have HX := Lib.hid hx
      clear hrg hx
      by_cases y : x = 0
      · subst y
        go_wp2
        go_roundg (l.length - (j + 1))
        case measure => omega
        case rel =>
          refine ⟨j + 1, by omega, by omega, by go_num, rfl, (show Hid _ from fun i x hi hx => ?_)⟩
          by_cases e : i = j
          · subst e
            have := HX.out
            rw [hx] at this
            injection this
          · exact AA.out i x (by omega) hx
      · have e1 : (x != 0) = true := by simp [y]
        have Y := Lib.hid y
        clear y
        go_wp2
        go_ret
        exact ⟨ret_bool (all_hit HX.out (decide_eq_false Y.out)).symm, rfl⟩
    · have hlt2 : decide ((j : Int) < (l.length : Int)) = false := decide_eq_false (by omega)
      go_wp2
      go_ret
      exact ⟨ret_bool (all_yes (fun i x hi => decide_eq_true (AA.out i x (by have := (List.getElem?_eq_some_iff.1 hi).1; omega) hi))).symm, rfl⟩
end Go.Proofs.Ytbhccidchjmjlaa
