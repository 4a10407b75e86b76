/-
  Coming to cells, and walking from roots. Conditions: the cells read as a row, are at most 300, and lead to cells alone.
-/
import Derived.Test.YtbhccidchjmjlaaHpD
namespace Go.Proofs.Ytbhccidchjmjlaa
set_option linter.unusedSimpArgs false
set_option linter.unusedVariables false
open Go.RowKit

theorem parts_int : (Try.prog.info? 3).map (fun i => (i.zero, i.size, i.bytes)) = some (some (.int .i64 0), 1, 8) := by kernel_rfl
/-- the new place of each cell. -/
def place (all : List Nat) (i : Nat) : Int := if i ∈ all then ((all.idxOf i : Nat) : Int) else -1
def places (n : Nat) (all : List Nat) : List Value := (List.range n).map fun i => .int .i64 (place all i)
def nums (all : List Nat) : List Value := all.map fun i : Nat => .int .i64 (i : Int)
theorem places_at {n : Nat} {all : List Nat} {i : Nat} (h : i < n) : (places n all).toArray[i]? = some (.int .i64 (place all i)) := by
  unfold places; simp [h]
theorem places_len (n : Nat) (all : List Nat) : (places n all).length = n := by unfold places; simp
theorem idxOf_snoc {a b : List Nat} {i : Nat} (h : i ∈ a) : (a ++ b).idxOf i = a.idxOf i := by
  rw [List.idxOf_append, if_pos h]
theorem places_set {n : Nat} {all : List Nat} {i : Nat} (h : i < n) (hn : i ∉ all) : (places n all).set i (.int .i64 (all.length : Int)) = places n (all ++ [i]) := by
  apply List.ext_getElem?
  intro j
  by_cases e : i = j
  · subst e
    rw [List.getElem?_set_self (by rw [places_len]; exact h)]
    unfold places
    simp only [List.getElem?_map, List.getElem?_range h, Option.map_some]
    have : place (all ++ [i]) i = (all.length : Int) := by
      unfold place
      rw [if_pos (by simp), List.idxOf_append, if_neg hn]
      simp
    rw [this]
  · rw [List.getElem?_set_ne e]
    unfold places
    simp only [List.getElem?_map]
    by_cases hj : j < n
    · rw [List.getElem?_range hj, Option.map_some, Option.map_some]
      have : place (all ++ [i]) j = place all j := by
        unfold place
        by_cases hm : j ∈ all
        · rw [if_pos (by simp [hm]), if_pos hm, idxOf_snoc hm]
        · rw [if_neg (by simp [hm]; exact fun h => e h.symm), if_neg hm]
      rw [this]
    · rw [List.getElem?_eq_none (by simp; omega)]; rfl
theorem nums_snoc (all : List Nat) (i : Nat) : nums (all ++ [i]) = nums all ++ [.int .i64 (i : Int)] := by unfold nums; simp
theorem nums_len (all : List Nat) : (nums all).length = all.length := by unfold nums; simp
/-- a walker, in memory: its struct in block b, the places in block t, the list in a row of its own. -/
structure WS (w : World) (B b t : Nat) (hv : Value) (n : Nat) (all : List Nat) (av : Value) : Prop where
  box : Box w b 53 #[hv, .slice (some ⟨t, 0, none⟩) n n, av]
  to : Box w t 3 (places n all).toArray
  own : w.ownsRow B 3 1 av all.length (nums all)
  bB : b < B
  tB : t < B
  bt : b ≠ t
theorem WS.below {w w1 : World} {B b t n : Nat} {hv av : Value} {all : List Nat} (h : WS w B b t hv n all av) (hb : Below w.heap.size w w1) : WS w1 B b t hv n all av :=
  ⟨h.box.below hb h.box.lt, h.to.below hb h.to.lt, own_below h.own hb, h.bB, h.tB, h.bt⟩
theorem WS.drew {w : World} {B b t n : Nat} {hv av : Value} {all : List Nat} (h : WS w B b t hv n all av) : WS w.drew B b t hv n all av := h.below (Below.refl _ _).drew
set_option maxRecDepth 100000 in
set_option maxHeartbeats 8000000 in
theorem come_any (h : List CellV) (hv : Value) (hle : h.length ≤ 300) (hs : Hepy.Sound (cells h)) (B0 B b t : Nat) (hB0 : B0 ≤ b ∧ B0 ≤ t ∧ B0 ≤ B) :
    ∀ (m : Nat) (all : List Nat) (v : Valu.V) (av : Value) (w : World), WS w B b t hv h.length all av → (∀ w', Below B0 w w' → HRd w' h hv) → Hepy.Okl (cells h) all → Hepy.Leads (cells h) v → h.length < m + all.length → B ≤ w.heap.size →
    Calls Try.prog 33 #[.pointer (some ⟨b, 0, none⟩), .agg (vc v)] w fun e w' => e = .returned (.tuple #[]) ∧ ∃ av', WS w' B b t hv h.length (Hepy.come (cells h) m all v) av' ∧ Below B0 w w' := by
  intro m
  induction m with
  | zero =>
    intro all v av w _ _ hok _ hm _
    have := hok.len
    rw [cells_len] at this
    omega
  | succ m ih =>
    intro all v av w hws hhr hok hld hm hBw
    obtain ⟨i0, hi0, hz0_, hz1_, hz2_⟩ := info_parts parts_int
    have HIH := Lib.hid ih
    have HW := Lib.hid hws
    have HH := Lib.hid hhr
    have HOK := Lib.hid hok
    have HRF := Lib.hid (fun w => ref_any v w)
    obtain ⟨r, hr⟩ : ∃ r, Hepy.ref v = r := ⟨_, rfl⟩
    unfold Hepy.Leads at hld
    rw [hr, cells_len] at hld
    have HCO : Hid (Hepy.come (cells h) (m + 1) all v = if r < 0 ∨ r.toNat ∈ all then all else (Hepy.at_ (cells h) r.toNat).vals.foldl (Hepy.come (cells h) m) (all ++ [r.toNat])) := by
      show _ = _
      rw [Hepy.come, hr]
    rw [hr] at HRF
    obtain ⟨UA, ucap, rfl, _⟩ := (hhr w (Below.refl _ _)).r
    have hal : all.length ≤ 300 := by have := hok.len; rw [cells_len] at this; omega
    have hbw := hws.box.lt
    have htw := hws.to.lt
    obtain ⟨hB1, hB2, hB3⟩ := hB0
    clear ih hws hhr hok hr
    go_enter Try.func33, Try.ntmps33
    go_upto_region 1 with (fail)
    refine gen_world (F := fun W => Box W w.heap.size 31 (vc v) ∧ Below w.heap.size w W) ⟨Box.new w _ _, below1 w _⟩ ?_
    rintro W0 ⟨bv, hU⟩
    have hzv := bv.lt
    go_wp2_with (refine wpList_load_row rfl 31 (.tmp 3) rfl w.heap.size rfl _ (vc v) (0, 0) _ bv Try.underlying31 rfl info_val ?_)
    refine (HRF.out _).mono ?_
    rintro en W ⟨rfl, hb1⟩
    have HU := Lib.hid (hU.trans (hb1.mono hU.size))
    have HW1 := Lib.hid (HW.out.below HU.out)
    have hzW := HU.out.size
    clear hU hb1 bv
    by_cases y1 : r < 0
    · have d1 : decide (r < 0) = true := decide_eq_true y1
      have Y1 := Lib.hid y1
      clear y1
      go_wp2
      refine bodyPost_ret (results_none rfl _ _ _) rfl ?_
      exact ⟨rfl, av, by rw [HCO.out, if_pos (.inl Y1.out)]; exact HW1.out, HU.out.mono (by omega)⟩
    · have d1 : decide (r < 0) = false := decide_eq_false y1
      obtain ⟨N, rfl⟩ : ∃ N : Nat, r = (N : Int) := ⟨r.toNat, by omega⟩
      have hN : N < h.length := by omega
      have hNz : (N : Int) < (h.length : Int) := hld
      rw [Int.toNat_natCast] at HCO
      have c1 := HW1.out.box.cell 1
      have c2 := HW1.out.box.cell 2
      have tN := (HW1.out.to.cell N).trans (places_at hN)
      simp at c1 c2
      by_cases y2 : N ∈ all
      · have hp : place all N = ((all.idxOf N : Nat) : Int) := by unfold place; rw [if_pos y2]
        rw [hp] at tN
        have d2 : decide (((all.idxOf N : Nat) : Int) ≥ 0) = true := decide_eq_true (by omega)
        have Y2 := Lib.hid y2
        clear y1 y2 hp
        go_wp2
        refine bodyPost_ret (results_none rfl _ _ _) rfl ?_
        exact ⟨rfl, av, by rw [HCO.out, if_pos (.inr Y2.out)]; exact HW1.out, HU.out.mono (by omega)⟩
      · have hp : place all N = -1 := by unfold place; rw [if_neg y2]
        rw [hp] at tN
        have HCO2 : Hid (Hepy.come (cells h) (m + 1) all v = (Hepy.at_ (cells h) N).vals.foldl (Hepy.come (cells h) m) (all ++ [N])) := by show _ = _; rw [HCO.out, if_neg (by rintro (h | h); omega; exact y2 h)]
        have hok2 := HOK.out.snoc (n := N) (by rw [cells_len]; exact hN) y2
        have HOK2 := Lib.hid hok2
        have Y2 := Lib.hid y2
        have fN := HW1.out.to.frozen N
        obtain ⟨A2, cap2, rfl⟩ := own_slice HW1.out.own
        clear y1 y2 hp hok2
        go_upto_region 3 with (fail)
        go_still_tail 11, (by kernel_rfl)
        change wpList _ _ _ _ _ W.drew
        go_upto_region 4 with (fail)
        have hlt1 := HW1.out.own.lt
        refine gen_world (F := fun W3 => Box W3 b 53 #[.slice UA h.length ucap, .slice (some ⟨t, 0, none⟩) h.length h.length, .slice A2 all.length cap2] ∧ Box W3 t 3 (places h.length (all ++ [N])).toArray ∧ W3.ownsRow B 3 1 (.slice A2 all.length cap2) all.length (nums all) ∧ Below B0 w W3 ∧ B ≤ W3.heap.size)
          ⟨(HW1.out.box.far (p := ⟨t, N, none⟩) (by exact HW1.out.bt) _).drew,
           by
            have h1 := HW1.out.to.set N (.int .i64 (all.length : Int))
            rw [List.setIfInBounds_toArray, places_set hN Y2.out] at h1
            exact h1.drew,
           own_below (own_far HW1.out.own ((Upd.refl W t).set (p := ⟨t, N, none⟩) (.inl rfl) _) HW1.out.tB) (Below.refl _ _).drew,
           ((HU.out.mono (by omega)).setCell (p := ⟨t, N, none⟩) hB2 _).drew, by simp [World.setCell]; omega⟩ ?_
        rintro W3 ⟨hb3, ht3, hown3, hU3, hB3W⟩
        have HU3 := Lib.hid hU3
        have HB3 := Lib.hid hb3
        have HT3 := Lib.hid ht3
        have HOW := Lib.hid hown3
        have k2 := hb3.cell 2
        simp at k2
        have hlt3 := Lib.hid hown3.lt
        have hz3 := hU3.size
        have hbB := HW1.out.bB
        have htB := HW1.out.tB
        have HBT := Lib.hid HW1.out.bt
        clear c1 c2 tN fN hlt1 hb3 ht3 hown3 hU3 HW1 HW
        go_upto_region 5 with (at_builtin; (refine wpList_append_lies _ rfl (.tmp 36) (.tmp 38) 24 rfl B 3 i0 _ 1 8 Try.underlying24 hi0 hz0_ hz1_ hz2_ rfl (by decide) _ all.length (nums all) rfl (HOW.out.alloc _) ⟨W3.heap.size, 0, none⟩ 1 1 [.int .i64 (N : Int)] rfl rfl (World.news_of_block (Box.new W3 _ _)) (by simp [Value.oneCell']) (by omega) (by unfold maxLen; omega) (by omega) (by simp; omega) (W3.heap.size + 1) (by simp) ?_); intro g8 cap8 w8 hown8 hgr8 hor8 hlt8; have hb8 := (HB3.out.alloc _).grown hgr8 (by intro h; have := (hlt3.out _ h.symm).1; omega); have hc8 := hb8.cell 2; have hf8 := hb8.frozen 2; simp at hc8)
        have ht8 := (HT3.out.alloc _).grown hgr8 (by intro h; have := (hlt3.out _ h.symm).1; omega)
        have hu8 : Upd w8 (w8.setCell ⟨b, 2, none⟩ (.slice (some ⟨g8, 0, none⟩) (all.length + 1) cap8)) b := (Upd.refl w8 b).set (p := ⟨b, 2, none⟩) (.inl rfl) _
        have hbe8 : Below B0 w w8 := (HU3.out.alloc (by omega) _).trans (below_grown hgr8 (by simp; omega) (fun k hk => by have := (hlt3.out k hk).1; omega))
        have hz8 := hgr8.size
        simp at hz8
        refine gen_world (F := fun W4 => WS W4 B b t (.slice UA h.length ucap) h.length (all ++ [N]) (.slice (some ⟨g8, 0, none⟩) (all.length + 1) cap8) ∧ Below B0 w W4 ∧ B ≤ W4.heap.size)
          ⟨⟨by have := hb8.set 2 (.slice (some ⟨g8, 0, none⟩) (all.length + 1) cap8); simpa using this, ht8.far (p := ⟨b, 2, none⟩) (by exact fun h => HBT.out h.symm) _,
            by rw [List.length_append, nums_snoc]; exact own_far hown8 hu8 hbB, hbB, htB, HBT.out⟩, hbe8.setCell (p := ⟨b, 2, none⟩) hB1 _, by simp [World.setCell]; omega⟩ ?_
        rintro W4 ⟨hw4, hb4, hB4⟩
        have HW4 := Lib.hid hw4
        have HB4 := Lib.hid hb4
        obtain ⟨x, hx⟩ : ∃ x, h[N]? = some x := ⟨_, List.getElem?_eq_getElem hN⟩
        have HX := Lib.hid hx
        have hr4 := HH.out W4 hb4
        obtain ⟨A6, cap6, e6, _, _, hr6⟩ := hr4.r
        injection e6 with e6 _ e7
        subst e6
        subst e7
        obtain ⟨g, o, rfl, hg, hrg⟩ := hr6 (by omega)
        have hk : W4.cell? ⟨g, o + N * 3 + 2, none⟩ = some (.slice x.K x.c.vals.length x.ck) := RdL.elem (k := 3) (f := cc) (fun _ => rfl) hrg hx 2 _ rfl
        have k0 := hw4.box.cell 0
        simp at k0
        have hat := at_cells hx
        rw [hat] at HCO2
        have hld4 := hs N (by rw [cells_len]; exact hN)
        rw [hat] at hld4
        have HLD := Lib.hid hld4
        have HHX : Hid (∀ w', Below B0 w w' → CRd w' x) := fun w' hb => (HH.out w' hb).n x (List.mem_of_getElem? hx)
        have hvl : x.c.vals.length ≤ 9223372036854775807 := by
          obtain ⟨_, _, e, h1, h2, _⟩ := (HHX.out W4 hb4).k
          injection e with _ _ e
          omega
        obtain ⟨⟨kind, names, vals⟩, XA, Xca, XK, Xck⟩ := x
        simp only at hk HCO2 hvl
        clear hw4 hb4 hr4 hr6 hrg hx hat hld4 hb8 hc8 hf8 ht8 hu8 hbe8 hown8 hgr8 hor8 hlt8 k2 HB3 HT3 HOW
        go_upto_region 6 with (fail)
        clear hk k0
        go_loopg [51] vals.length (fun gg s51 wr => ∃ (j : Nat) (al : List Nat) (av' : Value), j ≤ vals.length ∧ vals.length - j ≤ gg ∧ s51 = .int .i64 (j : Int) ∧ all.length + 1 ≤ al.length ∧ Hid (al = (vals.take j).foldl (Hepy.come (cells h) m) (all ++ [N])) ∧ Hid (Hepy.Okl (cells h) al) ∧ Hid (WS wr B b t (.slice (some ⟨g, o, none⟩) h.length ucap) h.length al av') ∧ Hid (Below B0 w wr) ∧ B ≤ wr.heap.size)
        case atStart => exact ⟨0, all ++ [N], _, Nat.zero_le _, by omega, rfl, by simp, rfl, HOK2.out, HW4.out, HB4.out, hB4⟩
        case round =>
          obtain ⟨j, al, av', hj, hgg, rfl, hal2, HAL, HOKA, HWA, HBA, hBr⟩ := hrel
          by_cases hlt : j < vals.length
          · have hlt2 : decide ((j : Int) < (vals.length : Int)) = true := decide_eq_true (by omega)
            have hltz : (j : Int) < (vals.length : Int) := by omega
            obtain ⟨y, hy⟩ : ∃ y, vals[j]? = some y := ⟨_, List.getElem?_eq_getElem hlt⟩
            have hst : Hid ((vals.take (j + 1)).foldl (Hepy.come (cells h) m) (all ++ [N]) = Hepy.come (cells h) m al y) := by
              show _ = _
              rw [List.take_add_one, hy, List.foldl_append, ← HAL.out]; rfl
            have hcm := Hepy.come_came hs m al y HOKA.out (HLD.out y (List.mem_of_getElem? hy)) (by rw [cells_len]; omega)
            have HCM := Lib.hid hcm
            have HCALL : Hid (∀ w', WS w' B b t (.slice (some ⟨g, o, none⟩) h.length ucap) h.length al av' → Below B0 w w' → B ≤ w'.heap.size → Calls Try.prog 33 #[.pointer (some ⟨b, 0, none⟩), .agg (vc y)] w' fun e w'' => e = .returned (.tuple #[]) ∧ ∃ av2, WS w'' B b t (.slice (some ⟨g, o, none⟩) h.length ucap) h.length (Hepy.come (cells h) m al y) av2 ∧ Below B0 w' w'') :=
              fun w' h1 h2 h3 => HIH.out al y av' w' h1 (fun w2 hb => HH.out w2 (h2.trans hb)) HOKA.out (HLD.out y (List.mem_of_getElem? hy)) (by omega) h3
            obtain ⟨A7, cap7, e7, _, _, hr7⟩ := (HHX.out wr HBA.out).k
            injection e7 with e7 _ e8
            subst e7
            subst e8
            obtain ⟨gk, ok, rfl, hgk, hrk⟩ := hr7 (by simp only; omega)
            have hrange : Hid (wr.rangeAt gk (ok + j * 3) (vc y).toList) := RdL.elem (k := 3) (f := vc) (fun _ => rfl) hrk hy
            clear hcm hr7 hrk hy
            go_upto_region 8 with (first | (refine wpList_load_mid rfl 31 (.tmp 53) rfl gk (ok + j * 3) rfl (vc y).toList _ hrange.out Try.underlying31 rfl info_val ?_) | (refine wpList_store_box rfl 31 (.tmp 6) (.tmp 54) rfl wr.heap.size (vc y) rfl rfl 31 _ (Box.new wr _ _) info_val rfl (vc_one y) ?_; intro w6 hx6 hu6 hz6))
            have hb6 : Below wr.heap.size wr w6 := ((Below.refl _ wr).alloc (Nat.le_refl _) _).trans (hu6.own (Nat.le_refl _) (by simp))
            have HX6 := Lib.hid hx6
            have HW6 := Lib.hid (HWA.out.below hb6)
            have HB6 := Lib.hid (HBA.out.trans (hb6.mono (by omega)))
            have hB6 : B ≤ w6.heap.size := Nat.le_trans hBr hb6.size
            clear hb6 hu6 hx6 hrange
            go_wp2_with (refine wpList_load_row rfl 31 (.tmp 6) rfl wr.heap.size rfl _ (vc y) (0, 0) _ HX6.out Try.underlying31 rfl info_val ?_)
            refine (HCALL.out w6 HW6.out HB6.out hB6).mono ?_
            rintro en w7 ⟨rfl, av2, hw7, hb7⟩
            have HW7 := Lib.hid hw7
            have HB7 := Lib.hid (HB6.out.trans hb7)
            have hz7 := hb7.size
            clear hw7 hb7
            go_wp2
            go_roundg (vals.length - (j + 1))
            case measure => omega
            case rel => exact ⟨j + 1, _, av2, by omega, by omega, by go_num, by have := HCM.out.pre.length_le; omega, hst.out.symm, HCM.out.ok, HW7.out, HB7.out, by omega⟩
          · have hlt2 : decide ((j : Int) < (vals.length : Int)) = false := decide_eq_false (by omega)
            have HFIN : Hid (Hepy.come (cells h) (m + 1) all v = al) := by
              show _ = _
              rw [HCO2.out, HAL.out, List.take_of_length_le (by omega)]
            go_wp2
            go_returns
            exact ⟨rfl, av', by rw [HFIN.out]; exact HWA.out, HBA.out⟩
end Go.Proofs.Ytbhccidchjmjlaa
