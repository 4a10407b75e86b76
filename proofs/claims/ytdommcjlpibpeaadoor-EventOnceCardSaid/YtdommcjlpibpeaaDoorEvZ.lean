/-
  EventOnce returns true. Conditions: the nodes and the listeners read as rows; the listeners' numbers are of 64 bits.
-/
import Derived.Test.YtdommcjlpibpeaaDoorEvY
namespace Go.Proofs.YtdommcjlpibpeaaDoor
set_option linter.unusedSimpArgs false
set_option linter.unusedVariables false
open Go.RowKit Go.Maps

/-- who is not gone. -/
def stays (h : List Evy.Hrd) (y : Evy.Lis) : Bool := !y.once || !Evy.heardBy h y
/-- whom does one that is left know? -/
def kept (m : List Evy.Lis) (w : Evy.Hrd) : Bool := m.any fun y => decide (y.id = w.lis)
theorem calm_of {l : List Evy.Lis} (h : l.any stopper = false) : Evy.Calm l := by
  intro x hx
  have := List.any_eq_false.1 h x hx
  unfold stopper at this
  simpa using this
set_option maxRecDepth 100000 in
set_option maxHeartbeats 20000000 in
theorem once_walk (d : List NodeV) (v : Value) (q : Bool) (l : List Evy.Lis) (u : Value) (e : Evy.Ev) (w : World) (hd : DRd w d v) (hl : RdL w 8 lc l u) (hw : Wfs l) :
    Calls Tryd.prog 5 #[.agg (dag v q), u, .agg (ec e)] w fun en w' => en = .returned (.bool true) ∧ Below w.heap.size w w' := by
  obtain ⟨i0, hi0, hz0_, hz1_, hz2_⟩ := info_parts parts_lis
  obtain ⟨k0, hk0, hy0_, hy1_, hy2_⟩ := info_parts parts_hrd
  have HL := Lib.hid hl
  have HSE : Hid (∀ w', Below w.heap.size w w' → Calls Tryd.prog 11 #[.agg (dag v q), u, .agg (ec e)] w' fun en w'' => SendOut w' (Evy.send (nods d) l e) en w'') := fun w' h => send_any d v q l u e w' (hd.below h) (hl.below h) hw
  have HSF : Hid (∀ (m : List Evy.Lis) w' u', (∀ x ∈ m, x ∈ l) → Below w.heap.size w w' → RdL w' 8 lc m u' → Calls Tryd.prog 11 #[.agg (dag v q), u', .agg (ec e)] w' fun en w'' => SendOut w' (Evy.send (nods d) m e) en w'') := fun m w' u' hm h hu => send_any d v q m u' e w' (hd.below h) hu (fun x hx => hw x (hm x hx))
  have HLV := Lib.hid eventLives_true
  obtain ⟨h, no, lf, er, hse⟩ : ∃ h no lf er, Evy.send (nods d) l e = (h, no, lf, er) := ⟨_, _, _, _, rfl⟩
  rw [hse] at HSE
  have HSN := Lib.hid hse
  obtain ⟨A, cap, rfl, hc1, hc2, -⟩ := hl
  clear hd hw hse
  go_enter Tryd.func5, Tryd.ntmps5
  go_upto_region 1 with (fail)
  refine gen_world (F := fun W => Box W w.heap.size 24 (dag v q) ∧ Box W (w.heap.size + 1) 37 (ec e) ∧ Below w.heap.size w W) ⟨(Box.new w _ _).alloc _, new2 w _ _ _, (below1 w _).alloc (by simp) _⟩ ?_
  rintro W0 ⟨bd, be, hU0⟩
  have hz0 := hU0.size
  have hzd := bd.lt
  have hze := be.lt
  go_wp2_with (first | (refine wpList_load_row rfl 24 (.tmp 3) rfl w.heap.size rfl _ (dag v q) (0, 0) _ bd Tryd.underlying24 rfl info_doc ?_) | (refine wpList_load_row rfl 37 (.tmp 5) rfl (w.heap.size + 1) rfl _ (ec e) (0, 0) _ be Tryd.underlying37 rfl info_ev ?_))
  refine (HSE.out _ hU0).mono ?_
  rintro en W ⟨H, L, rfl, hH, hL, hbW⟩
  have HU := Lib.hid (hU0.trans (hbW.mono hz0))
  have HH : Hid (RdL W 3 hc h H) := Rd.own hH
  have HF : Hid (RdL W 8 lc lf L) := Rd.own hL
  obtain ⟨A1, cap1, rfl⟩ := own_slice hH
  obtain ⟨A2, cap2, rfl⟩ := own_slice hL
  have HBE := Lib.hid (be.below hbW hze)
  have HBD := Lib.hid (bd.below hbW hzd)
  have hzW := hbW.size
  clear HSE hU0 hH hL hbW bd be
  simp only
  go_wp2_with (fail)
  refine (HLV.out _).mono ?_
  rintro en W1 ⟨rfl, hb1⟩
  have HU1 := Lib.hid (HU.out.trans (hb1.mono HU.out.size))
  have HH1 := Lib.hid (HH.out.below hb1)
  have HF1 := Lib.hid (HF.out.below hb1)
  have HBE1 := Lib.hid (HBE.out.below hb1 HBE.out.lt)
  have HBD1 := Lib.hid (HBD.out.below hb1 HBD.out.lt)
  have hz1 := hb1.size
  clear hb1 HH HF HBE HBD
  by_cases y : er = 0
  · subst y
    have g1 : (((0 : Nat) : Int) != 0) = false := by simp
    have hsn := HSN.out
    obtain ⟨p, hpe⟩ := Evy.send_zero (d := nods d) (l := l) (e := e) (by rw [hsn])
    rw [Evy.send_of hpe] at hsn
    injection hsn with hs1 hsn
    injection hsn with hs2 hsn
    injection hsn with hs3 _
    have hfew : l.length ≤ 60 := (Evy.ask_of hpe).few
    have HLN : Hid (h.length ≤ 1000000) := by show _ ≤ _; rw [← hs1]; exact heard_len hpe
    have hhl : h.length ≤ 1000000 := HLN.out
    have HLF : Hid (lf = l.filter (stays h)) := by
      show _ = _
      rw [← hs3, Evy.left_is hpe, hs1]
      rfl
    have hlfl : lf.length ≤ 60 := by rw [HLF.out]; exact Nat.le_trans (List.length_filter_le _ _) hfew
    have hsub : lf.Sublist l := by rw [HLF.out]; exact List.filter_sublist
    have HSUB := Lib.hid hsub
    have HPE := Lib.hid hpe
    have HS1 := Lib.hid hs1
    clear hs1 hs2 hs3 hsub hpe
    go_upto_region 7 with (fail)
    go_loopg [11, 12, 46] l.length (fun gg s11 s12 s46 wr => ∃ (j : Nat) (acc : List Evy.Lis) (A6 : Option Addr) (cap6 : Nat), j ≤ l.length ∧ l.length - j ≤ gg ∧ s11 = .slice A6 acc.length cap6 ∧ (∃ b, s12 = .bool b ∧ Hid (b = (l.take j).any stopper)) ∧ s46 = .int .i64 (j : Int) ∧ acc.length ≤ j ∧ Hid (acc = (l.take j).filter (stays h)) ∧ Hid (Below W1.heap.size W1 wr) ∧ Hid (wr.ownsRow W1.heap.size 43 8 (.slice A6 acc.length cap6) acc.length (flat lc acc)))
    case atStart => exact ⟨0, [], none, 0, Nat.zero_le _, by omega, rfl, ⟨false, rfl, by show _ = _; simp⟩, rfl, Nat.le_refl _, rfl, Below.refl _ _, World.ownsRow_nil _ _ _ _⟩
    case round =>
      obtain ⟨j, acc, A6, cap6, hj, hgg, rfl, ⟨b, rfl, HB⟩, rfl, haj, HA, BW, OW⟩ := hrel
      by_cases hlt : j < l.length
      · have hlt2 : decide ((j : Int) < (l.length : Int)) = true := decide_eq_true (by omega)
        have hltz : (j : Int) < (l.length : Int) := by omega
        obtain ⟨x, hx⟩ : ∃ x, l[j]? = some x := ⟨_, List.getElem?_eq_getElem hlt⟩
        have hst := any_snoc (q := stopper) hx
        rw [← HB.out] at hst
        have HST := Lib.hid hst
        have hfl := filter_take (q := stays h) hx
        rw [← HA.out] at hfl
        have HFL := Lib.hid hfl
        obtain ⟨A5, cap5, e5, _, _, hr5⟩ := (HL.out.below (HU1.out.trans (BW.out.mono HU1.out.size)))
        injection e5 with e5 _ e6
        subst e5
        subst e6
        obtain ⟨g5, o5, rfl, hg5, hrg5⟩ := hr5 (by omega)
        have hrange : Hid (wr.rangeAt g5 (o5 + j * 8) (lc x).toList) := RdL.elem (k := 8) (f := lc) (fun _ => rfl) hrg5 hx
        clear hr5 hrg5 hx hst hfl
        go_upto_region 9 with (first | (refine wpList_load_mid rfl 43 (.tmp 48) rfl g5 (o5 + j * 8) rfl (lc x).toList _ hrange.out Tryd.underlying43 rfl info_lis ?_) | (refine wpList_store_box rfl 43 (.tmp 14) (.tmp 49) rfl wr.heap.size (lc x) rfl rfl 43 _ (Box.new wr _ _) info_lis rfl (lc_one x) ?_; intro w6 hx6 hu6 hz6))
        have hb6 : Below wr.heap.size wr w6 := ((Below.refl _ wr).alloc (Nat.le_refl _) _).trans (hu6.own (Nat.le_refl _) (by simp))
        have BW6 := Lib.hid (BW.out.trans (hb6.mono BW.out.size))
        have HO6 := Lib.hid (own_below OW.out hb6)
        have HX6 := Lib.hid hx6
        have HH6 := Lib.hid (HH1.out.below BW6.out)
        have hzr := BW.out.size
        have hz66 := hb6.size
        have hxlt := hx6.lt
        have hlts := Lib.hid OW.out.lt
        have HC : Hid (Calls Tryd.prog 14 #[.slice A1 h.length cap1, .func (.func 15) #[] #[.pointer (some ⟨wr.heap.size, 0, none⟩)]] w6 fun e w' => e = .returned (.bool (Evy.heardBy h x)) ∧ Below w6.heap.size w6 w') :=
          contains_hrd h (fun w => decide (w.lis = x.id)) _ _ _ w6 eg_once1 (fun y _ w1 hb => once1 y x.id _ w1 ((hb.cell (p := ⟨wr.heap.size, 0, none⟩) hxlt).trans (hx6.cell 0))) HH6.out HLN.out
        obtain ⟨r, hr⟩ : ∃ r, Evy.heardBy h x = r := ⟨_, rfl⟩
        have HR := Lib.hid hr
        rw [hr] at HC
        clear hr hb6 hu6 hx6 hrange BW OW
        go_wp2_with (fail)
        refine (HC.out).mono ?_
        rintro en w7 ⟨rfl, hb7⟩
        have BW7 := Lib.hid (BW6.out.trans (hb7.mono BW6.out.size))
        have hz7 := hb7.size
        have HX7 := Lib.hid (HX6.out.below hb7 HX6.out.lt)
        have HO7 := Lib.hid (own_below HO6.out hb7)
        have k4 := HX7.out.cell 4
        have hx7lt := HX7.out.lt
        obtain ⟨xi, xn, xt, xc, xo, xs, xa, xp⟩ := x
        simp at k4
        clear hb7 HC HX6 HO6
        cases xo with
        | false =>
          have HK : Hid ((l.take (j + 1)).filter (stays h) = acc ++ [(⟨xi, xn, xt, xc, false, xs, xa, xp⟩ : Evy.Lis)]) := by
            show _ = _
            rw [HFL.out, if_pos (by show stays h _ = true; unfold stays; rfl)]
          go_upto_region 12 with (first | (refine wpList_load_row rfl 43 (.tmp 14) rfl wr.heap.size rfl _ (lc ⟨xi, xn, xt, xc, false, xs, xa, xp⟩) (0, 0) _ HX7.out Tryd.underlying43 rfl info_lis ?_) | (at_builtin; (refine wpList_append_lies _ rfl (.tmp 60) (.tmp 62) 35 rfl W1.heap.size 43 i0 _ 8 40 Tryd.underlying35 hi0 hz0_ hz1_ hz2_ rfl (by decide) _ acc.length (flat lc acc) rfl (HO7.out.alloc _) ⟨w7.heap.size, 0, none⟩ 1 1 (lc ⟨xi, xn, xt, xc, false, xs, xa, xp⟩).toList rfl rfl (World.news_of_block (Box.new w7 _ _)) (by simp [Value.oneCell']) (by omega) (by unfold maxLen; omega) (by omega) (by simp; omega) (w7.heap.size + 1) (by simp) ?_); intro g8 cap8 w8 hown8 hgr8 hor8 hlt8))
          have HB8 : Hid (Below W1.heap.size W1 w8) := (BW7.out.alloc (Nat.le_trans hzr (Nat.le_trans hz66 hz7)) _).trans (below_grown hgr8 (by simp; omega) (fun j hj => (hlts.out j hj).1))
          have HX8 : Hid (Box w8 wr.heap.size 43 (lc ⟨xi, xn, xt, xc, false, xs, xa, xp⟩)) := (HX7.out.alloc _).grown hgr8 (by intro h; have := (hlts.out _ h.symm).2; omega)
          have HO8 : Hid (w8.ownsRow W1.heap.size 43 8 (.slice (some ⟨g8, 0, none⟩) (acc ++ [(⟨xi, xn, xt, xc, false, xs, xa, xp⟩ : Evy.Lis)]).length cap8) (acc ++ [(⟨xi, xn, xt, xc, false, xs, xa, xp⟩ : Evy.Lis)]).length (flat lc (acc ++ [(⟨xi, xn, xt, xc, false, xs, xa, xp⟩ : Evy.Lis)]))) := by
            show World.ownsRow _ _ _ _ _ _ _
            rw [flat_append]; simpa [flat] using hown8
          clear hown8 hgr8 hor8 hlt8
          have k5 := HX8.out.cell 5
          have k6 := HX8.out.cell 6
          simp at k5 k6
          cases b with
          | true =>
            go_wp2
            go_roundg (l.length - (j + 1))
            case measure => omega
            case rel => exact ⟨j + 1, acc ++ [_], some ⟨g8, 0, none⟩, cap8, by omega, by omega, by simp, ⟨true, rfl, by show _ = _; rw [HST.out]; rfl⟩, by go_num, by simp; omega, HK.out.symm, HB8.out, HO8.out⟩
          | false =>
            cases xs with
            | true =>
              go_wp2
              go_roundg (l.length - (j + 1))
              case measure => omega
              case rel => exact ⟨j + 1, acc ++ [_], some ⟨g8, 0, none⟩, cap8, by omega, by omega, by simp, ⟨true, rfl, by show _ = _; rw [HST.out]; rfl⟩, by go_num, by simp; omega, HK.out.symm, HB8.out, HO8.out⟩
            | false =>
              cases xa with
              | true =>
                go_wp2
                go_roundg (l.length - (j + 1))
                case measure => omega
                case rel => exact ⟨j + 1, acc ++ [_], some ⟨g8, 0, none⟩, cap8, by omega, by omega, by simp, ⟨true, rfl, by show _ = _; rw [HST.out]; rfl⟩, by go_num, by simp; omega, HK.out.symm, HB8.out, HO8.out⟩
              | false =>
                go_wp2
                go_roundg (l.length - (j + 1))
                case measure => omega
                case rel => exact ⟨j + 1, acc ++ [_], some ⟨g8, 0, none⟩, cap8, by omega, by omega, by simp, ⟨false, rfl, by show _ = _; rw [HST.out]; rfl⟩, by go_num, by simp; omega, HK.out.symm, HB8.out, HO8.out⟩
        | true =>
          cases r with
          | false =>
            have HK : Hid ((l.take (j + 1)).filter (stays h) = acc ++ [(⟨xi, xn, xt, xc, true, xs, xa, xp⟩ : Evy.Lis)]) := by
              show _ = _
              rw [HFL.out, if_pos (by show stays h _ = true; unfold stays; rw [HR.out]; rfl)]
            go_upto_region 12 with (first | (refine wpList_load_row rfl 43 (.tmp 14) rfl wr.heap.size rfl _ (lc ⟨xi, xn, xt, xc, true, xs, xa, xp⟩) (0, 0) _ HX7.out Tryd.underlying43 rfl info_lis ?_) | (at_builtin; (refine wpList_append_lies _ rfl (.tmp 60) (.tmp 62) 35 rfl W1.heap.size 43 i0 _ 8 40 Tryd.underlying35 hi0 hz0_ hz1_ hz2_ rfl (by decide) _ acc.length (flat lc acc) rfl (HO7.out.alloc _) ⟨w7.heap.size, 0, none⟩ 1 1 (lc ⟨xi, xn, xt, xc, true, xs, xa, xp⟩).toList rfl rfl (World.news_of_block (Box.new w7 _ _)) (by simp [Value.oneCell']) (by omega) (by unfold maxLen; omega) (by omega) (by simp; omega) (w7.heap.size + 1) (by simp) ?_); intro g8 cap8 w8 hown8 hgr8 hor8 hlt8))
            have HB8 : Hid (Below W1.heap.size W1 w8) := (BW7.out.alloc (Nat.le_trans hzr (Nat.le_trans hz66 hz7)) _).trans (below_grown hgr8 (by simp; omega) (fun j hj => (hlts.out j hj).1))
            have HX8 : Hid (Box w8 wr.heap.size 43 (lc ⟨xi, xn, xt, xc, true, xs, xa, xp⟩)) := (HX7.out.alloc _).grown hgr8 (by intro h; have := (hlts.out _ h.symm).2; omega)
            have HO8 : Hid (w8.ownsRow W1.heap.size 43 8 (.slice (some ⟨g8, 0, none⟩) (acc ++ [(⟨xi, xn, xt, xc, true, xs, xa, xp⟩ : Evy.Lis)]).length cap8) (acc ++ [(⟨xi, xn, xt, xc, true, xs, xa, xp⟩ : Evy.Lis)]).length (flat lc (acc ++ [(⟨xi, xn, xt, xc, true, xs, xa, xp⟩ : Evy.Lis)]))) := by
              show World.ownsRow _ _ _ _ _ _ _
              rw [flat_append]; simpa [flat] using hown8
            clear hown8 hgr8 hor8 hlt8
            have k5 := HX8.out.cell 5
            have k6 := HX8.out.cell 6
            simp at k5 k6
            cases b with
            | true =>
              go_wp2
              go_roundg (l.length - (j + 1))
              case measure => omega
              case rel => exact ⟨j + 1, acc ++ [_], some ⟨g8, 0, none⟩, cap8, by omega, by omega, by simp, ⟨true, rfl, by show _ = _; rw [HST.out]; rfl⟩, by go_num, by simp; omega, HK.out.symm, HB8.out, HO8.out⟩
            | false =>
              cases xs with
              | true =>
                go_wp2
                go_roundg (l.length - (j + 1))
                case measure => omega
                case rel => exact ⟨j + 1, acc ++ [_], some ⟨g8, 0, none⟩, cap8, by omega, by omega, by simp, ⟨true, rfl, by show _ = _; rw [HST.out]; rfl⟩, by go_num, by simp; omega, HK.out.symm, HB8.out, HO8.out⟩
              | false =>
                cases xa with
                | true =>
                  go_wp2
                  go_roundg (l.length - (j + 1))
                  case measure => omega
                  case rel => exact ⟨j + 1, acc ++ [_], some ⟨g8, 0, none⟩, cap8, by omega, by omega, by simp, ⟨true, rfl, by show _ = _; rw [HST.out]; rfl⟩, by go_num, by simp; omega, HK.out.symm, HB8.out, HO8.out⟩
                | false =>
                  go_wp2
                  go_roundg (l.length - (j + 1))
                  case measure => omega
                  case rel => exact ⟨j + 1, acc ++ [_], some ⟨g8, 0, none⟩, cap8, by omega, by omega, by simp, ⟨false, rfl, by show _ = _; rw [HST.out]; rfl⟩, by go_num, by simp; omega, HK.out.symm, HB8.out, HO8.out⟩
          | true =>
            have HK : Hid ((l.take (j + 1)).filter (stays h) = acc) := by
              show _ = _
              rw [HFL.out, if_neg (by show ¬ stays h _ = true; unfold stays; rw [HR.out]; simp)]; simp
            go_upto_region 12 with (fail)
            have k5 := HX7.out.cell 5
            have k6 := HX7.out.cell 6
            simp at k5 k6
            cases b with
            | true =>
              go_wp2
              go_roundg (l.length - (j + 1))
              case measure => omega
              case rel => exact ⟨j + 1, acc, A6, cap6, by omega, by omega, rfl, ⟨true, rfl, by show _ = _; rw [HST.out]; rfl⟩, by go_num, by omega, HK.out.symm, BW7.out, HO7.out⟩
            | false =>
              cases xs with
              | true =>
                go_wp2
                go_roundg (l.length - (j + 1))
                case measure => omega
                case rel => exact ⟨j + 1, acc, A6, cap6, by omega, by omega, rfl, ⟨true, rfl, by show _ = _; rw [HST.out]; rfl⟩, by go_num, by omega, HK.out.symm, BW7.out, HO7.out⟩
              | false =>
                cases xa with
                | true =>
                  go_wp2
                  go_roundg (l.length - (j + 1))
                  case measure => omega
                  case rel => exact ⟨j + 1, acc, A6, cap6, by omega, by omega, rfl, ⟨true, rfl, by show _ = _; rw [HST.out]; rfl⟩, by go_num, by omega, HK.out.symm, BW7.out, HO7.out⟩
                | false =>
                  go_wp2
                  go_roundg (l.length - (j + 1))
                  case measure => omega
                  case rel => exact ⟨j + 1, acc, A6, cap6, by omega, by omega, rfl, ⟨false, rfl, by show _ = _; rw [HST.out]; rfl⟩, by go_num, by omega, HK.out.symm, BW7.out, HO7.out⟩
      · have hlt2 : decide ((j : Int) < (l.length : Int)) = false := decide_eq_false (by omega)
        obtain rfl : j = l.length := by omega
        have HB' : Hid (b = l.any stopper) := by have := HB.out; rw [List.take_length] at this; exact this
        obtain rfl : acc = lf := by have := HA.out; rw [List.take_length, ← HLF.out] at this; exact this
        obtain ⟨wi, rfl⟩ : ∃ wi : World, wi = wr := ⟨_, rfl⟩
        have HUi := Lib.hid (HU1.out.trans (BW.out.mono HU1.out.size))
        have HRi := Lib.hid (Rd.own OW.out)
        have HFi := Lib.hid (HF1.out.below BW.out)
        have HHi := Lib.hid (HH1.out.below BW.out)
        have HS2 := Lib.hid (HSF.out acc wi _ (fun x hx => HSUB.out.mem hx) HUi.out HFi.out)
        have ham := Evy.of_ask HPE.out HSUB.out
        have HAM := Lib.hid ham
        obtain ⟨h2, no2, lf2, hsf⟩ : ∃ h no lf, Evy.send (nods d) acc e = (h, no, lf, 0) := ⟨_, _, _, Evy.send_of ham⟩
        have hsf2 := hsf
        rw [Evy.send_of ham] at hsf2
        injection hsf2 with hs4 hsf2
        injection hsf2 with hs5 hsf2
        injection hsf2 with hs6 _
        have HS4 := Lib.hid hs4
        have HS6 := Lib.hid hs6
        rw [hsf] at HS2
        have HLN2 : Hid (h2.length ≤ 1000000) := by show _ ≤ _; rw [← hs4]; exact heard_len ham
        have hl2l : lf2.length ≤ 60 := by rw [← hs6]; exact Nat.le_trans (List.length_filter_le _ _) hlfl
        have bdi := HBD1.out.below BW.out HBD1.out.lt
        have bei := HBE1.out.below BW.out HBE1.out.lt
        have hzi := BW.out.size
        clear BW HB HA OW ham hsf hs4 hs5 hs6
        go_wp2_with (first | (refine wpList_load_row rfl 24 (.tmp 3) rfl w.heap.size rfl _ (dag v q) (0, 0) _ bdi Tryd.underlying24 rfl info_doc ?_) | (refine wpList_load_row rfl 37 (.tmp 5) rfl (w.heap.size + 1) rfl _ (ec e) (0, 0) _ bei Tryd.underlying37 rfl info_ev ?_))
        refine (HS2.out).mono ?_
        rintro en W5 ⟨H5, L5, rfl, hH5, hL5, hb5⟩
        have HU5 := Lib.hid (HUi.out.trans (hb5.mono HUi.out.size))
        have HH5 : Hid (RdL W5 3 hc h2 H5) := Rd.own hH5
        have HL5 : Hid (RdL W5 8 lc lf2 L5) := Rd.own hL5
        obtain ⟨A4, cap4, rfl⟩ := own_slice hH5
        obtain ⟨A7, cap7, rfl⟩ := own_slice hL5
        have HEQ := Lib.hid (equal_lis acc acc (.slice A2 acc.length cap2) (.slice A6 acc.length cap6) W5 (HFi.out.below hb5) (HRi.out.below hb5) (by omega) (by omega))
        rw [decide_eq_true rfl] at HEQ
        have HHj := Lib.hid (HHi.out.below hb5)
        have HFj := Lib.hid (HFi.out.below hb5)
        have g0 : (((0 : Nat) : Int) != 0) = false := by simp
        clear HS2 hH5 hL5 hb5 bdi bei
        simp only
        go_wp2_with (fail)
        refine (HEQ.out).mono ?_
        rintro en W6 ⟨rfl, hb6⟩
        have HU6 := Lib.hid (HU5.out.trans (hb6.mono HU5.out.size))
        have HH6 := Lib.hid (HH5.out.below hb6)
        have HL6 := Lib.hid (HL5.out.below hb6)
        have HHk := Lib.hid (HHj.out.below hb6)
        have HFk := Lib.hid (HFj.out.below hb6)
        clear hb6
        cases b with
        | true =>
          go_wp2
          go_ret
          exact ⟨rfl, HU6.out⟩
        | false =>
          have hag := Evy.again HPE.out (calm_of HB'.out.symm) acc (by rw [HLF.out, HS1.out]; rfl)
          rw [HS4.out, HS1.out, HS6.out] at hag
          have HAG1 : Hid (h2 = h.filter (kept acc)) := hag.1
          have HAG2 : Hid (lf2 = acc) := hag.2
          clear hag
          go_upto_region 21 with (fail)
          go_loopg [20, 94] h.length (fun gg s20 s94 wr => ∃ (j : Nat) (ac : List Evy.Hrd) (A8 : Option Addr) (cap8 : Nat), j ≤ h.length ∧ h.length - j ≤ gg ∧ s20 = .slice A8 ac.length cap8 ∧ s94 = .int .i64 (j : Int) ∧ ac.length ≤ j ∧ Hid (ac = (h.take j).filter (kept acc)) ∧ Hid (Below W6.heap.size W6 wr) ∧ Hid (wr.ownsRow W6.heap.size 46 3 (.slice A8 ac.length cap8) ac.length (flat hc ac)))
          case atStart => exact ⟨0, [], none, 0, Nat.zero_le _, by omega, rfl, rfl, Nat.le_refl _, rfl, Below.refl _ _, World.ownsRow_nil _ _ _ _⟩
          case round =>
            obtain ⟨j, ac, A8, cap8, hj, hgg, rfl, rfl, haj, HA, BW, OW⟩ := hrel
            by_cases hlt : j < h.length
            · have hlt2 : decide ((j : Int) < (h.length : Int)) = true := decide_eq_true (by omega)
              have hltz : (j : Int) < (h.length : Int) := by omega
              obtain ⟨x, hx⟩ : ∃ x, h[j]? = some x := ⟨_, List.getElem?_eq_getElem hlt⟩
              have hfl := filter_take (q := kept acc) hx
              rw [← HA.out] at hfl
              have HFL := Lib.hid hfl
              obtain ⟨A5, cap5, e5, _, _, hr5⟩ := (HHk.out.below BW.out)
              injection e5 with e5 _ e6
              subst e5
              subst e6
              obtain ⟨g5, o5, rfl, hg5, hrg5⟩ := hr5 (by omega)
              have hrange : Hid (wr.rangeAt g5 (o5 + j * 3) (hc x).toList) := RdL.elem (k := 3) (f := hc) (fun _ => rfl) hrg5 hx
              clear hr5 hrg5 hx hfl
              go_upto_region 23 with (first | (refine wpList_load_mid rfl 46 (.tmp 96) rfl g5 (o5 + j * 3) rfl (hc x).toList _ hrange.out Tryd.underlying46 rfl info_hrd ?_) | (refine wpList_store_box rfl 46 (.tmp 22) (.tmp 97) rfl wr.heap.size (hc x) rfl rfl 46 _ (Box.new wr _ _) info_hrd rfl (hc_one x) ?_; intro w6 hx6 hu6 hz6))
              have hb6 : Below wr.heap.size wr w6 := ((Below.refl _ wr).alloc (Nat.le_refl _) _).trans (hu6.own (Nat.le_refl _) (by simp))
              have BW6 := Lib.hid (BW.out.trans (hb6.mono BW.out.size))
              have HO6 := Lib.hid (own_below OW.out hb6)
              have HX6 := Lib.hid hx6
              have HF6 := Lib.hid (HFk.out.below BW6.out)
              have hzr := BW.out.size
              have hz66 := hb6.size
              have hxlt := hx6.lt
              have hlts := Lib.hid OW.out.lt
              have HC : Hid (Calls Tryd.prog 17 #[.slice A2 acc.length cap2, .func (.func 18) #[] #[.pointer (some ⟨wr.heap.size, 0, none⟩)]] w6 fun e w' => e = .returned (.bool (kept acc x)) ∧ Below w6.heap.size w6 w') :=
                contains_lis acc (fun y => decide (y.id = x.lis)) _ _ _ w6 eg_once2 (fun y _ w1 hb => once2 y x.lis _ w1 ((hb.cell (p := ⟨wr.heap.size, 0, none⟩) hxlt).trans (hx6.cell 0))) HF6.out (by omega)
              obtain ⟨r, hr⟩ : ∃ r, kept acc x = r := ⟨_, rfl⟩
              have HR := Lib.hid hr
              rw [hr] at HC
              clear hr hb6 hu6 hx6 hrange BW OW
              go_wp2_with (fail)
              refine (HC.out).mono ?_
              rintro en w7 ⟨rfl, hb7⟩
              have BW7 := Lib.hid (BW6.out.trans (hb7.mono BW6.out.size))
              have hz7 := hb7.size
              have HX7 := Lib.hid (HX6.out.below hb7 HX6.out.lt)
              have HO7 := Lib.hid (own_below HO6.out hb7)
              have hx7lt := HX7.out.lt
              clear hb7 HC HX6 HO6
              cases r with
              | false =>
                have HK : Hid ((h.take (j + 1)).filter (kept acc) = ac) := by
                  show _ = _
                  rw [HFL.out, if_neg (by rw [HR.out]; simp)]; simp
                go_wp2
                go_roundg (h.length - (j + 1))
                case measure => omega
                case rel => exact ⟨j + 1, ac, A8, cap8, by omega, by omega, rfl, by go_num, by omega, HK.out.symm, BW7.out, HO7.out⟩
              | true =>
                have HK : Hid ((h.take (j + 1)).filter (kept acc) = ac ++ [x]) := by
                  show _ = _
                  rw [HFL.out, if_pos HR.out]
                go_upto_region 25 with (first | (refine wpList_load_row rfl 46 (.tmp 22) rfl wr.heap.size rfl _ (hc x) (0, 0) _ HX7.out Tryd.underlying46 rfl info_hrd ?_) | (at_builtin; (refine wpList_append_lies _ rfl (.tmp 101) (.tmp 103) 38 rfl W6.heap.size 46 k0 _ 3 24 Tryd.underlying38 hk0 hy0_ hy1_ hy2_ rfl (by decide) _ ac.length (flat hc ac) rfl (HO7.out.alloc _) ⟨w7.heap.size, 0, none⟩ 1 1 (hc x).toList rfl rfl (World.news_of_block (Box.new w7 _ _)) (by simp [Value.oneCell']) (by omega) (by unfold maxLen; omega) (by omega) (by simp; omega) (w7.heap.size + 1) (by simp) ?_); intro g8 cap9 w8 hown8 hgr8 hor8 hlt8))
                have HB8 : Hid (Below W6.heap.size W6 w8) := (BW7.out.alloc (Nat.le_trans hzr (Nat.le_trans hz66 hz7)) _).trans (below_grown hgr8 (by simp; omega) (fun j hj => (hlts.out j hj).1))
                have HO8 : Hid (w8.ownsRow W6.heap.size 46 3 (.slice (some ⟨g8, 0, none⟩) (ac ++ [x]).length cap9) (ac ++ [x]).length (flat hc (ac ++ [x]))) := by
                  show World.ownsRow _ _ _ _ _ _ _
                  rw [flat_append]; simpa [flat] using hown8
                clear hown8 hgr8 hor8 hlt8
                go_wp2
                go_roundg (h.length - (j + 1))
                case measure => omega
                case rel => exact ⟨j + 1, ac ++ [x], some ⟨g8, 0, none⟩, cap9, by omega, by omega, by simp, by go_num, by simp; omega, HK.out.symm, HB8.out, HO8.out⟩
            · have hlt2 : decide ((j : Int) < (h.length : Int)) = false := decide_eq_false (by omega)
              obtain rfl : j = h.length := by omega
              obtain rfl : ac = h2 := by have := HA.out; rw [List.take_length, ← HAG1.out] at this; exact this
              obtain rfl : lf2 = acc := HAG2.out
              obtain ⟨wo, rfl⟩ : ∃ wo : World, wo = wr := ⟨_, rfl⟩
              have HEQ3 := Lib.hid (equal_hrd ac ac (.slice A4 ac.length cap4) (.slice A8 ac.length cap8) wo (HH6.out.below BW.out) (Rd.own OW.out) HLN2.out HLN2.out)
              rw [decide_eq_true rfl] at HEQ3
              have HL9 := Lib.hid (HL6.out.below BW.out)
              have HF9 := Lib.hid (HFk.out.below BW.out)
              have HE := Lib.hid (HU6.out.trans (BW.out.mono HU6.out.size))
              clear BW OW HA
              go_wp2_with (fail)
              refine (HEQ3.out).mono ?_
              rintro en W7 ⟨rfl, hb7⟩
              have HE7 := Lib.hid (HE.out.trans (hb7.mono HE.out.size))
              have HEQ4 := Lib.hid (equal_lis lf2 lf2 (.slice A7 lf2.length cap7) (.slice A2 lf2.length cap2) W7 (HL9.out.below hb7) (HF9.out.below hb7) (by omega) (by omega))
              rw [decide_eq_true rfl] at HEQ4
              clear hb7
              go_wp2_with (fail)
              refine (HEQ4.out).mono ?_
              rintro en W8 ⟨rfl, hb8⟩
              have HE8 := Lib.hid (HE7.out.trans (hb8.mono HE7.out.size))
              clear hb8
              go_wp2
              go_ret
              exact ⟨rfl, HE8.out⟩
  · have g1 : ((er : Int) != 0) = true := by simp; omega
    have hn : lf = [] := by
      have := HSN.out
      by_cases h1 : (Evy.asked (nods d) l e).2 = 0
      · have h2 := Evy.send_of (d := nods d) (l := l) (e := e) (p := (Evy.asked (nods d) l e).1) (by rw [← h1])
        rw [h2] at this
        injection this with _ this
        injection this with _ this
        injection this with _ this
        exact absurd this.symm y
      · rw [Evy.send_no h1] at this
        injection this with _ this
        injection this with _ this
        injection this with this _
        exact this.symm
    subst hn
    clear y
    go_wp2_with (fail)
    refine (HLV.out _).mono ?_
    rintro en W2 ⟨rfl, hb2⟩
    go_wp2
    go_ret
    exact ⟨rfl, HU1.out.trans (hb2.mono HU1.out.size)⟩
end Go.Proofs.YtdommcjlpibpeaaDoor
