/-
  EventStops returns true. Conditions: the nodes and the listeners read as rows; the listeners' numbers are of 64 bits; the listeners take no more bytes than a row may.
-/
import Derived.Test.YtdommcjlpibpeaaDoorEvW
namespace Go.Proofs.YtdommcjlpibpeaaDoor
set_option linter.unusedSimpArgs false
set_option linter.unusedVariables false
open Go.RowKit Go.Maps

theorem Rd.cut {α : Type} {w : World} {k n cap : Nat} {f : α → Array Value} {l : List α} {A : Option Addr} (hk : ∀ x, (f x).size = k) (h : RdL w k f l (.slice A l.length cap)) (hn : n ≤ l.length) : RdL w k f (l.take n) (.slice A n cap) := by
  obtain ⟨A', cap', e, h1, h2, h3⟩ := h
  injection e with e1 _ e2
  subst e1 e2
  have hl : (l.take n).length = n := by rw [List.length_take]; omega
  refine ⟨A, cap, by rw [hl], by rw [hl]; omega, h2, fun hp => ?_⟩
  rw [hl] at hp
  obtain ⟨g, o, e, hg, hr⟩ := h3 (by omega)
  refine ⟨g, o, e, hg, fun j u hu => hr j u ?_⟩
  have e : flat f l = flat f (l.take n) ++ flat f (l.drop n) := by rw [← flat_append, List.take_append_drop]
  rw [e, List.getElem?_append_left (List.getElem?_eq_some_iff.1 hu).1]
  exact hu
/-- the first of them are free. -/
def mix (l : List Evy.Lis) (j : Nat) : List Evy.Lis := (l.take j).map Evy.free ++ l.drop j
theorem mix_at {l : List Evy.Lis} {j : Nat} {x : Evy.Lis} (h : l[j]? = some x) : mix l j = (l.take j).map Evy.free ++ x :: l.drop (j + 1) := by
  obtain ⟨h1, h2⟩ := List.getElem?_eq_some_iff.1 h
  unfold mix
  rw [List.drop_eq_getElem_cons h1, h2]
theorem mix_next {l : List Evy.Lis} {j : Nat} {x : Evy.Lis} (h : l[j]? = some x) : mix l (j + 1) = (l.take j).map Evy.free ++ Evy.free x :: l.drop (j + 1) := by
  unfold mix
  rw [List.take_add_one, h]; simp
theorem mix_all (l : List Evy.Lis) : mix l l.length = l.map Evy.free := by unfold mix; simp
theorem mix_len (l : List Evy.Lis) (j : Nat) : (mix l j).length = l.length := by unfold mix; simp; omega
theorem set_flat (A : List Evy.Lis) (x : Evy.Lis) (B : List Evy.Lis) (R : List Value) :
    ((flat lc (A ++ x :: B) ++ R).set (A.length * 8 + 5) (.bool false)).set (A.length * 8 + 6) (.bool false) = flat lc (A ++ Evy.free x :: B) ++ R := by
  have h := flat_len (f := lc) (k := 8) (fun _ => rfl) A
  rw [flat_append, flat_append, flat_cons, flat_cons, List.append_assoc, List.append_assoc, List.append_assoc, List.append_assoc,
    List.set_append_right _ _ (by omega), List.set_append_right _ _ (by omega), h, show A.length * 8 + 5 - A.length * 8 = 5 by omega, show A.length * 8 + 6 - A.length * 8 = 6 by omega]
  rfl
theorem mix_cell {l : List Evy.Lis} {j : Nat} {x : Evy.Lis} (h : l[j]? = some x) (R : List Value) {i : Nat} {v : Value} (hv : (lc x).toList[i]? = some v) : (flat lc (mix l j) ++ R)[j * 8 + i]? = some v := by
  have h1 : (mix l j)[j]? = some x := by
    rw [mix_at h]
    have : ((l.take j).map Evy.free).length = j := by simp; have := (List.getElem?_eq_some_iff.1 h).1; omega
    rw [List.getElem?_append_right (by omega), this]; simp
  have h2 := flat_at (f := lc) (k := 8) (fun _ => rfl) (mix l j) j x h1 i v hv
  rw [List.getElem?_append_left (List.getElem?_eq_some_iff.1 h2).1]
  exact h2
/-- does one stop it? -/
def stopper (x : Evy.Lis) : Bool := x.stops || x.all
theorem calm_free {l : List Evy.Lis} (h : l.any stopper = false) : l.map Evy.free = l := by
  rw [List.any_eq_false] at h
  conv => rhs; rw [← List.map_id l]
  refine List.map_congr_left fun x hx => ?_
  have := h x hx
  unfold stopper at this
  simp at this
  obtain ⟨a, b, c, d, e, s, t, p⟩ := x
  simp at this
  obtain ⟨rfl, rfl⟩ := this
  rfl
/-- what the law says of two sendings. -/
theorem stops_law {d : List Domy.Node} {l : List Evy.Lis} {e : Evy.Ev} {p : List Int} (h : Evy.asked d l e = (p, 0)) : (Evy.sent d l e).heard <+: (Evy.sent d (l.map Evy.free) e).heard := by
  unfold Evy.sent
  rw [Evy.asked_free]
  exact (Evy.goes_pre _ _ _ ⟨rfl, rfl, List.prefix_refl _⟩ (fun _ _ => rfl)).pre
theorem send_free (d : List Domy.Node) (l : List Evy.Lis) (e : Evy.Ev) : (Evy.send d (l.map Evy.free) e).2.2.2 = (Evy.send d l e).2.2.2 := by
  unfold Evy.send
  rw [Evy.asked_free]
  split <;> rfl
set_option maxRecDepth 100000 in
set_option maxHeartbeats 8000000 in
theorem stops_walk (d : List NodeV) (v : Value) (q : Bool) (l : List Evy.Lis) (u : Value) (e : Evy.Ev) (w : World) (hd : DRd w d v) (hl : RdL w 8 lc l u) (hw : Wfs l) (hlz : l.length * 40 ≤ 140737488355328) :
    Calls Tryd.prog 4 #[.agg (dag v q), u, .agg (ec e)] w fun en w' => en = .returned (.bool true) ∧ Below w.heap.size w w' := by
  have HL := Lib.hid hl
  have HSE : Hid (∀ w', Below w.heap.size w w' → Calls Tryd.prog 11 #[.agg (dag v q), u, .agg (ec e)] w' fun en w'' => SendOut w' (Evy.send (nods d) l e) en w'') := fun w' h => send_any d v q l u e w' (hd.below h) (hl.below h) hw
  have hw2 : Wfs (l.map Evy.free) := fun y hy => by
    obtain ⟨x, hx, rfl⟩ := List.mem_map.1 hy
    exact hw x hx
  have HSF : Hid (∀ w' u', Below w.heap.size w w' → RdL w' 8 lc (l.map Evy.free) u' → Calls Tryd.prog 11 #[.agg (dag v q), u', .agg (ec e)] w' fun en w'' => SendOut w' (Evy.send (nods d) (l.map Evy.free) e) en w'') := fun w' u' h hu => send_any d v q (l.map Evy.free) u' e w' (hd.below h) hu hw2
  have HLV := Lib.hid eventLives_true
  obtain ⟨h, no, lf, er, hse⟩ : ∃ h no lf er, Evy.send (nods d) l e = (h, no, lf, er) := ⟨_, _, _, _, rfl⟩
  obtain ⟨h2, no2, lf2, er2, hsf⟩ : ∃ h no lf er, Evy.send (nods d) (l.map Evy.free) e = (h, no, lf, er) := ⟨_, _, _, _, rfl⟩
  have her : er2 = er := by
    have := send_free (nods d) l e
    rw [hse, hsf] at this
    exact this
  subst her
  rw [hse] at HSE
  rw [hsf] at HSF
  have HSN := Lib.hid hse
  have HSG := Lib.hid hsf
  obtain ⟨A, cap, rfl, hc1, hc2, -⟩ := hl
  clear hd hw hw2 hse hsf
  go_enter Tryd.func4, Tryd.ntmps4
  go_upto_region 1 with (fail)
  refine gen_world (F := fun W => Box W w.heap.size 24 (dag v q) ∧ Box W (w.heap.size + 1) 37 (ec e) ∧ Below w.heap.size w W) ⟨(Box.new w _ _).alloc _, new2 w _ _ _, (below1 w _).alloc (by simp) _⟩ ?_
  rintro W0 ⟨bd, be, hU0⟩
  have hz0 := hU0.size
  have hzd := bd.lt
  have hze := be.lt
  go_wp2_with (first | (refine wpList_load_row rfl 24 (.tmp 3) rfl w.heap.size rfl _ (dag v q) (0, 0) _ bd Tryd.underlying24 rfl info_doc ?_) | (refine wpList_load_row rfl 37 (.tmp 5) rfl (w.heap.size + 1) rfl _ (ec e) (0, 0) _ be Tryd.underlying37 rfl info_ev ?_))
  refine (HSE.out _ hU0).mono ?_
  rintro en W ⟨H, L, rfl, hH, hL, hbW⟩
  have HU := Lib.hid (hU0.trans (hbW.mono hz0))
  have HH : Hid (RdL W 3 hc h H) := Rd.own hH
  obtain ⟨A1, cap1, rfl⟩ := own_slice hH
  obtain ⟨A2, cap2, rfl⟩ := own_slice hL
  have HBE := Lib.hid (be.below hbW hze)
  have HBD := Lib.hid (bd.below hbW hzd)
  have hzW := hbW.size
  have HCL := Lib.hid (clone_lis l _ W (HL.out.below HU.out) hlz)
  clear HSE hU0 hH hL hbW bd be
  simp only
  go_wp2_with (fail)
  refine (HCL.out).mono ?_
  rintro en W2 ⟨v2, rfl, hown2, hb2⟩
  have hz2 := hb2.size
  have HU2 := Lib.hid (HU.out.trans (hb2.mono HU.out.size))
  have HB2 := Lib.hid hb2
  obtain ⟨A3, cap3, rfl⟩ := own_slice hown2
  have hc3 : l.length ≤ cap3 ∧ cap3 ≤ 9223372036854775807 := by
    obtain ⟨_, _, e3, h3, h4, _⟩ := Rd.own hown2
    injection e3 with _ _ e3
    omega
  obtain ⟨g3, R, hA3⟩ : ∃ g3 R, 0 < l.length → A3 = some ⟨g3, 0, none⟩ ∧ W.heap.size ≤ g3 ∧ Box W2 g3 43 (flat lc l ++ R).toArray := by
    by_cases hp : 0 < l.length
    · obtain ⟨g0, cap', R, hv, hbase, hbox, _, _, _⟩ := own_box hown2 hp
      injection hv with hA _ _
      exact ⟨g0, R, fun _ => ⟨hA, hbase, hbox⟩⟩
    · exact ⟨0, [], fun h => absurd h hp⟩
  have HA3 := Lib.hid hA3
  clear hown2 hb2 HCL hA3
  go_upto_region 5 with (fail)
  go_loopg [12, 13, 31] l.length (fun gg s12 s13 s31 wr => ∃ j : Nat, j ≤ l.length ∧ l.length - j ≤ gg ∧ (∃ b, s12 = .bool b ∧ Hid (b = (l.take j).any stopper)) ∧ s31 = .int .i64 (j : Int) ∧ Hid (Below W.heap.size W wr) ∧ Hid (0 < l.length → Box wr g3 43 (flat lc (mix l j) ++ R).toArray))
  case atStart => exact ⟨0, Nat.zero_le _, by omega, ⟨false, rfl, by show _ = _; simp⟩, rfl, HB2.out, fun h => by have := (HA3.out h).2.2; simpa [mix] using this⟩
  case round =>
    obtain ⟨j, hj, hgg, ⟨b, rfl, HB⟩, rfl, BW, BX⟩ := hrel
    by_cases hlt : j < l.length
    · have hlt2 : decide ((j : Int) < (l.length : Int)) = true := decide_eq_true (by omega)
      have hltz : (j : Int) < (l.length : Int) := by omega
      obtain ⟨x, hx⟩ : ∃ x, l[j]? = some x := ⟨_, List.getElem?_eq_getElem hlt⟩
      have hst := any_snoc (q := stopper) hx
      rw [← HB.out] at hst
      have HST := Lib.hid hst
      obtain ⟨e3, hgb, -⟩ := HA3.out (by omega)
      subst e3
      have hbox := BX.out (by omega)
      have c5 : wr.cell? ⟨g3, j * 8 + 5, none⟩ = some (.bool x.stops) := by rw [hbox.cell, List.getElem?_toArray, mix_cell hx R (i := 5) rfl]
      have c6 : wr.cell? ⟨g3, j * 8 + 6, none⟩ = some (.bool x.all) := by rw [hbox.cell, List.getElem?_toArray, mix_cell hx R (i := 6) rfl]
      have f5 := hbox.frozen (j * 8 + 5)
      have hbox1 := hbox.set (j * 8 + 5) (.bool false)
      have c6b : (wr.setCell ⟨g3, j * 8 + 5, none⟩ (.bool false)).cell? ⟨g3, j * 8 + 6, none⟩ = some (.bool x.all) := by rw [hbox1.cell, Array.getElem?_setIfInBounds_ne (by omega), List.getElem?_toArray, mix_cell hx R (i := 6) rfl]
      have f6b := hbox1.frozen (j * 8 + 6)
      have HX2 : Hid (Box ((wr.setCell ⟨g3, j * 8 + 5, none⟩ (.bool false)).setCell ⟨g3, j * 8 + 6, none⟩ (.bool false)) g3 43 (flat lc (mix l (j + 1)) ++ R).toArray) := by
        have h2 := hbox1.set (j * 8 + 6) (.bool false)
        rw [List.setIfInBounds_toArray, List.setIfInBounds_toArray, mix_at hx] at h2
        have e1 : ((l.take j).map Evy.free).length = j := by simp; omega
        have e2 := set_flat ((l.take j).map Evy.free) x (l.drop (j + 1)) R
        rw [e1] at e2
        rw [e2, ← mix_next hx] at h2
        exact h2
      have BW2 : Hid (Below W.heap.size W ((wr.setCell ⟨g3, j * 8 + 5, none⟩ (.bool false)).setCell ⟨g3, j * 8 + 6, none⟩ (.bool false))) := (BW.out.setCell (p := ⟨g3, j * 8 + 5, none⟩) hgb _).setCell (p := ⟨g3, j * 8 + 6, none⟩) hgb _
      obtain ⟨i, n, t, c, o, s, a, p⟩ := x
      try simp only at c5 c6 c6b
      clear hst hx hbox hbox1 BX BW
      cases b with
      | true =>
        have HN : Hid (true = (l.take (j + 1)).any stopper) := by show _ = _; rw [HST.out]; rfl
        go_wp2
        go_roundg (l.length - (j + 1))
        case measure => omega
        case rel => exact ⟨j + 1, by omega, by omega, ⟨true, rfl, HN.out⟩, by go_num, BW2.out, fun _ => HX2.out⟩
      | false =>
        cases s with
        | true =>
          have HN : Hid (true = (l.take (j + 1)).any stopper) := by show _ = _; rw [HST.out]; rfl
          go_wp2
          go_roundg (l.length - (j + 1))
          case measure => omega
          case rel => exact ⟨j + 1, by omega, by omega, ⟨true, rfl, HN.out⟩, by go_num, BW2.out, fun _ => HX2.out⟩
        | false =>
          cases a with
          | true =>
            have HN : Hid (true = (l.take (j + 1)).any stopper) := by show _ = _; rw [HST.out]; rfl
            go_wp2
            go_roundg (l.length - (j + 1))
            case measure => omega
            case rel => exact ⟨j + 1, by omega, by omega, ⟨true, rfl, HN.out⟩, by go_num, BW2.out, fun _ => HX2.out⟩
          | false =>
            have HN : Hid (false = (l.take (j + 1)).any stopper) := by show _ = _; rw [HST.out]; rfl
            go_wp2
            go_roundg (l.length - (j + 1))
            case measure => omega
            case rel => exact ⟨j + 1, by omega, by omega, ⟨false, rfl, HN.out⟩, by go_num, BW2.out, fun _ => HX2.out⟩
    · have hlt2 : decide ((j : Int) < (l.length : Int)) = false := decide_eq_false (by omega)
      obtain rfl : j = l.length := by omega
      have HB' : Hid (b = l.any stopper) := by have := HB.out; rw [List.take_length] at this; exact this
      obtain ⟨wi, rfl⟩ : ∃ wi : World, wi = wr := ⟨_, rfl⟩
      have HUi := Lib.hid (HU.out.trans (BW.out.mono HU.out.size))
      have HRi : Hid (RdL wi 8 lc (l.map Evy.free) (.slice A3 l.length cap3)) := by
        show Rd wi 8 (flat lc (l.map Evy.free)) (l.map Evy.free).length (.slice A3 l.length cap3)
        rw [List.length_map]
        refine ⟨A3, cap3, rfl, hc3.1, hc3.2, fun hp => ?_⟩
        obtain ⟨e3, _, -⟩ := HA3.out hp
        have hbx := BX.out hp
        rw [mix_all] at hbx
        refine ⟨g3, 0, e3, hbx.lt, fun k u hu => ?_⟩
        rw [Nat.zero_add, hbx.cell, List.getElem?_toArray, List.getElem?_append_left (List.getElem?_eq_some_iff.1 hu).1]
        exact hu
      have HS2 := Lib.hid (HSF.out wi _ HUi.out HRi.out)
      have bdi := HBD.out.below BW.out HBD.out.lt
      have bei := HBE.out.below BW.out HBE.out.lt
      have HHi := Lib.hid (HH.out.below BW.out)
      have hzi := BW.out.size
      clear BX BW HB HA3
      go_wp2_with (first | (refine wpList_load_row rfl 24 (.tmp 3) rfl w.heap.size rfl _ (dag v q) (0, 0) _ bdi Tryd.underlying24 rfl info_doc ?_) | (refine wpList_load_row rfl 37 (.tmp 5) rfl (w.heap.size + 1) rfl _ (ec e) (0, 0) _ bei Tryd.underlying37 rfl info_ev ?_))
      refine (HS2.out).mono ?_
      rintro en W5 ⟨H5, L5, rfl, hH5, hL5, hb5⟩
      have HU5 := Lib.hid (HUi.out.trans (hb5.mono HUi.out.size))
      have HH5 : Hid (RdL W5 3 hc h2 H5) := Rd.own hH5
      obtain ⟨A4, cap4, rfl⟩ := own_slice hH5
      obtain ⟨A5, cap5, rfl⟩ := own_slice hL5
      have HHj := Lib.hid (HHi.out.below hb5)
      clear HS2 hH5 hL5 hb5 bdi bei
      simp only
      go_wp2_with (fail)
      refine (HLV.out _).mono ?_
      rintro en W6 ⟨rfl, hb6⟩
      have HU6 := Lib.hid (HU5.out.trans (hb6.mono HU5.out.size))
      have HH6 := Lib.hid (HH5.out.below hb6)
      have HHk := Lib.hid (HHj.out.below hb6)
      clear hb6
      by_cases y : er2 = 0
      · subst y
        have g1 : (((0 : Nat) : Int) != 0) = false := by simp
        have hsn := HSN.out
        obtain ⟨p, hpe⟩ := Evy.send_zero (d := nods d) (l := l) (e := e) (by rw [hsn])
        have hpf : Evy.asked (nods d) (l.map Evy.free) e = (p, 0) := by rw [Evy.asked_free]; exact hpe
        have hsg := HSG.out
        rw [Evy.send_of hpe] at hsn
        rw [Evy.send_of hpf] at hsg
        injection hsn with hs1 _
        injection hsg with hs2 _
        have hpre := stops_law hpe
        have hm1 := heard_len hpe
        have hm2 := heard_len hpf
        rw [hs1] at hm1
        rw [hs2] at hm2
        rw [hs1, hs2] at hpre
        have hle := hpre.length_le
        have htk : h2.take h.length = h := (List.prefix_iff_eq_take.1 hpre).symm
        have HCM : Hid (l.any stopper = false → h.length = h2.length) := fun hc => by
          rw [← hs1, ← hs2, calm_free hc]
        have HEQ := Lib.hid (equal_hrd h (h2.take h.length) (.slice A1 h.length cap1) (.slice A4 h.length cap4) W6 HHk.out (Rd.cut (fun _ => rfl) HH6.out hle) hm1 (by rw [List.length_take]; omega))
        rw [htk, decide_eq_true rfl] at HEQ
        have hcc : h.length ≤ cap4 ∧ cap4 ≤ 9223372036854775807 := by
          obtain ⟨_, _, e3, h3, h4, _⟩ := HH6.out
          injection e3 with _ _ e3
          omega
        obtain ⟨hcc1, hcc2⟩ := hcc
        have hcc3 : (h.length : Int) ≤ (cap4 : Int) := by omega
        have hle1 : (h.length : Int) ≤ (h2.length : Int) := by omega
        have hle2 : decide ((h.length : Int) ≤ (h2.length : Int)) = true := decide_eq_true hle1
        have hle3 : decide (h.length ≤ h2.length) = true := decide_eq_true hle
        clear hs1 hs2 hpre htk HSF
        go_wp2_with (fail)
        refine (HEQ.out).mono ?_
        rintro en W7 ⟨rfl, hb7⟩
        have HU7 := Lib.hid (HU6.out.trans (hb7.mono HU6.out.size))
        clear hb7
        cases b with
        | true =>
          go_wp2
          go_ret
          exact ⟨rfl, HU7.out⟩
        | false =>
          have heq := HCM.out HB'.out.symm
          have heq2 : ((h.length : Int) == (h2.length : Int)) = true := by rw [heq]; simp
          have heq3 : (h.length == h2.length) = true := by rw [heq]; simp
          have HQQ := Lib.hid heq
          clear heq
          go_wp2
          go_ret
          exact ⟨rfl, HU7.out⟩
      · have g1 : ((er2 : Int) != 0) = true := by simp; omega
        clear y
        go_wp2
        go_ret
        exact ⟨rfl, HU6.out⟩
end Go.Proofs.YtdommcjlpibpeaaDoor
