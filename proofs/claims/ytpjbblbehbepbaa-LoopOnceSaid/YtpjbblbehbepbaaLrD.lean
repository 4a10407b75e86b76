/-
  LoopOnce returns true. Conditions: the asks read as a list.
-/
import Derived.Test.YtpjbblbehbepbaaLqA
import Derived.Test.YtpjbblbehbepbaaLqF
import Derived.Test.YtpjbblbehbepbaaLoopK
namespace Go.Proofs.Ytpjbblbehbepbaa
set_option linter.unusedSimpArgs false
set_option linter.unusedVariables false
open Go.RowKit Go.Maps

theorem play_bad {l : List Loopy.Ask} (h : ¬ (Loopy.play l).2.2 = 0) : (Loopy.play l).1 = [] := by
  unfold Loopy.play at h ⊢
  split
  · rfl
  · next x =>
    rw [if_neg x] at h
    split
    · rfl
    · next y => rw [if_neg y] at h; simp at h
theorem play_short {l : List Loopy.Ask} (h : (Loopy.play l).2.2 = 0) : l.length ≤ 200 := by
  by_cases hl : 200 < l.length
  · unfold Loopy.play at h
    rw [if_pos hl] at h
    simp at h
  · omega

set_option maxRecDepth 100000 in
set_option maxHeartbeats 8000000 in
theorem once_walk (l : List Loopy.Ask) (v : Value) (w : World) (hv : ARd w l v) :
    Calls Try.prog 3 #[v] w fun e w' => e = .returned (.bool true) ∧ Below w.heap.size w w' := by
  have HV := Lib.hid hv
  have hpl := Loopy.play_once l
  have hbad := play_bad (l := l)
  have hsh := play_short (l := l)
  have hlen := Loopy.play_len l
  have HP : Hid (∀ w, ARd w l v → Calls Try.prog 9 #[v] w fun e w' => PlayOut w (Loopy.play l) e w') := fun w h => Play_any l v w h
  obtain ⟨⟨js, q, e⟩, hp⟩ : ∃ r, Loopy.play l = r := ⟨_, rfl⟩
  rw [hp] at hpl hbad hsh hlen HP
  simp only at hpl hbad hsh hlen
  clear hp
  obtain ⟨E1, hE1⟩ : ∃ E : Int, (e : Int) = E := ⟨_, rfl⟩
  have HE1 := Lib.hid hE1
  have HBAD : Hid (¬ E1 = 0 → js = []) := fun h => hbad (by omega)
  have HSH : Hid (E1 = 0 → l.length ≤ 200) := fun h => hsh (by omega)
  have HONE := Lib.hid hpl.2
  have HID := Lib.hid hpl.1
  clear hbad hsh hpl hE1
  obtain ⟨A, cap, rfl, _⟩ := hv
  go_enter Try.func3, Try.ntmps3
  go_wp2_with (fail)
  refine (HP.out w HV.out).mono ?_
  rintro e w1 ⟨O, T, S, R, rfl, hOw, hOut, hap, hb1⟩
  dsimp only at hOw hOut ⊢
  rw [HE1.out]
  obtain ⟨AO, kO, rfl⟩ := own_slice hOut
  have hone := hOw.one
  have HO1 := Lib.hid hOut
  have HV1 := Lib.hid (HV.out.below hb1)
  have U1 : Below w.heap.size w w1 := hb1
  clear hOw hOut hap hb1
  go_upto_region 2 with (refine wpList_store_box rfl 26 (.tmp 4) (.tmp 14) rfl w1.heap.size (lag q T S R) rfl rfl 26 _ (Box.new w1 26 #[.int .i64 0, .int .i64 0, .slice none 0 0, .slice none 0 0, .slice none 0 0]) info_loop rfl hone ?_; intro w2 hx2 hu2 hz2)
  have hb2 : Below w1.heap.size w1 w2 := ((Below.refl _ w1).alloc (Nat.le_refl _) _).trans (hu2.own (Nat.le_refl _) (by simp))
  have U2 : Below w.heap.size w w2 := U1.trans (hb2.mono U1.size)
  have HV2 := Lib.hid (HV1.out.below hb2)
  have HO2 := Lib.hid (own_below HO1.out hb2)
  clear hx2 hu2 hz2 hb2 U1
  by_cases y1 : E1 = 0
  · subst y1
    have hl := HSH.out rfl
    go_wp2_with (fail)
    refine (loopLives_true _).mono ?_
    rintro e w3 ⟨rfl, hb3⟩
    have HV3 := Lib.hid (HV2.out.below hb3)
    have HO3 := Lib.hid (own_below HO2.out hb3)
    have U3 : Below w.heap.size w w3 := U2.trans (hb3.mono U2.size)
    clear hb3 U2
    go_wp2_with (fail)
    refine (has_every l _ w3 HV3.out (by omega)).mono ?_
    rintro e w4 ⟨rfl, hb4⟩
    have HO4 := Lib.hid (own_below HO3.out hb4)
    have U4 : Below w.heap.size w w4 := U3.trans (hb4.mono U3.size)
    clear hb4 U3
    obtain ⟨ev, hev⟩ : ∃ ev, (l.any fun a => a.what == 4) = ev := ⟨_, rfl⟩
    rw [hev] at HONE ⊢
    have hmm := @run_makeMap Try.prog
    have hmo := World.ownsMap_made (H := Unit) w4 Try.prog 3 (plainElem Try.prog 3)
    have hU5 : Below w4.heap.size w4 (w4.alloc (.map #[] 0)) := (Below.refl _ w4).alloc (Nat.le_refl _) _
    have HO5 := Lib.hid (own_below HO4.out hU5)
    have hmo' : (w4.alloc (.map #[] 0)).ownsMap Try.prog 3 (plainElem (H := Unit) Try.prog 3) w4.heap.size 0 (Loopy.seen []) := by simpa [Loopy.seen, setOf] using hmo
    have U5 : Below w.heap.size w (w4.alloc (.map #[] 0)) := U4.trans (hU5.mono U4.size)
    have hzM : w4.heap.size < (w4.alloc (.map #[] 0)).heap.size := by simp
    have hzw := U4.size
    obtain ⟨n0, c0, hn0, hc0, hc1, hr0⟩ := Rd.own HO5.out
    injection hn0 with hn0 _ hc0'
    subst hn0
    subst hc0'
    have HRG := Lib.hid hr0
    clear hmo hr0 hU5
    go_upto_region 7 with (fail)
    go_loopg [9, 33] js.length (fun gg _ c wr => ∃ k : Nat, k ≤ js.length ∧ js.length - k ≤ gg ∧ c = .int .i64 (k : Int) ∧ Hid (Upd (w4.alloc (.map #[] 0)) wr w4.heap.size) ∧ Hid (wr.ownsMap Try.prog 3 (plainElem (H := Unit) Try.prog 3) w4.heap.size k (Loopy.seen ((js.take k).map (·.id)))))
    case atStart => exact ⟨0, Nat.zero_le _, by omega, rfl, Upd.refl _ _, hmo'⟩
    case round =>
      obtain ⟨k, hk, hg, rfl, BW, OM⟩ := hrel
      have hzr : w4.heap.size < wr.heap.size := by have := BW.out.size; omega
      have hwr : Hid (Below w.heap.size w wr) := U5.trans (Upd.own (B := w.heap.size) BW.out (by omega) (by omega))
      by_cases hlt : k < js.length
      · have hlt2 : decide ((k : Int) < (js.length : Int)) = true := by simp; omega
        obtain ⟨x, hx⟩ : ∃ x, js[k]? = some x := ⟨_, List.getElem?_eq_getElem hlt⟩
        obtain ⟨g0, o, rfl, hg0, hrg⟩ := HRG.out (by omega)
        have hgne : g0 ≠ w4.heap.size := by
          rintro rfl
          have h1 := RdL.elem (k := 7) (f := jc) (fun _ => rfl) hrg hx 0 (.int .i64 x.id) rfl
          obtain ⟨es, ck, hm, _⟩ := hmo'
          rw [World.cell?, hm] at h1
          simp at h1
        have hrange : Hid (wr.rangeAt g0 (o + k * 7) (jc x).toList) := fun i u hu => by
          rw [World.cell?_of_block (BW.out.block g0 hg0 (by simpa using hgne))]
          exact RdL.elem (f := jc) (fun _ => rfl) hrg hx i u hu
        have hmem := List.mem_of_getElem? hx
        have hidb := HID.out x hmem
        have HX := Lib.hid hx
        clear hx hrg hgne hmem
        go_upto_region 9 with (first | (refine wpList_load_mid rfl 39 (.tmp 35) rfl g0 (o + k * 7) rfl (jc x).toList _ hrange.out Try.underlying39 rfl info_job ?_) | (refine wpList_store_box rfl 39 (.tmp 9) (.tmp 36) rfl wr.heap.size (jc x) rfl rfl 39 _ (Box.new wr _ _) info_job rfl (jc_one x) ?_; intro w6 hx6 hu6 hz6))
        have hb6 : Below wr.heap.size wr w6 := ((Below.refl _ wr).alloc (Nat.le_refl _) _).trans (hu6.own (Nat.le_refl _) (by simp))
        have OM6 : Hid (w6.ownsMap Try.prog 3 (plainElem (H := Unit) Try.prog 3) w4.heap.size k (Loopy.seen ((js.take k).map (·.id)))) :=
          OM.out.kept (w' := w6) (row := none) ⟨hb6.os, hb6.tape, hb6.output, hb6.size, fun i hi _ => hb6.block i hi⟩ (by simp)
        have BW6 : Hid (Upd (w4.alloc (.map #[] 0)) w6 w4.heap.size) := BW.out.trans (Upd.below hb6 _)
        have hwf : (Lit.int .i64 x.id).wf = true := wf64 hidb.1 (by omega)
        have hkey := keyOf_int_mk (P := Try.prog) Try.underlying3 hwf
        obtain ⟨c, hrun, hat, _⟩ := OM6.out.lookup_int (t := 37) intKey Try.underlying37 Try.underlying3 (zero_int _) hkey
        rw [show (js.take k).map (·.id) = ((js.take k).map (·.id)).reverse.reverse by simp] at hat
        have hc1 := Loopy.seen_num hat
        have HKEY := Lib.hid hkey
        have q0 := hx6.cell 0
        have q1 := hx6.cell 1
        simp at q0 q1
        have htk : Hid ((js.take (k + 1)).map (·.id) = (js.take k).map (·.id) ++ [x.id]) := by show _ = _; rw [List.take_add_one, HX.out]; simp
        obtain ⟨b2, hb2⟩ : ∃ b2, ((js.take k).map (·.id)).reverse.contains x.id = b2 := ⟨_, rfl⟩
        rw [hb2] at hc1
        have hcase : b2 = true → ev = true ∧ x.src = 3 := by
          intro hb
          rw [hb] at hb2
          have : x.id ∈ (js.take k).map (·.id) := by simpa using hb2
          obtain ⟨y, hy, e⟩ := List.mem_map.1 this
          exact HONE.out k x HX.out ⟨y, hy, e⟩
        have fin : Hid (∀ w7 : World, w7.ownsMap Try.prog 3 (plainElem (H := Unit) Try.prog 3) w4.heap.size (k + 1) ((Loopy.seen ((js.take k).map (·.id))).put (.int .i64 x.id) (.lit (.int .i64 1))) → Hid (w7.ownsMap Try.prog 3 (plainElem (H := Unit) Try.prog 3) w4.heap.size (k + 1) (Loopy.seen ((js.take (k + 1)).map (·.id))))) := by
          intro w7 h
          show World.ownsMap _ _ _ _ _ _ _
          rw [htk.out, Loopy.seen_snoc]; exact h
        clear hx6 hu6 hz6 hb6 hb2 hat hkey hwf OM
        cases b2 with
        | true =>
          obtain ⟨rfl, hs⟩ := hcase rfl
          have hs2 : (x.src == 3) = true := by rw [hs]; rfl
          clear hs hcase
          go_wp2_with (at_mapUpdate; refine wpList_mapUpdate_own _ rfl _ _ _ 37 rfl 3 3 intKey Try.underlying37 _ w4.heap.size k _ rfl OM6.out (by unfold maxLen; omega) _ _ _ rfl rfl HKEY.out _ [] (plainElem_int Try.underlying3 (by decide)) ?_; intro w7 hown7 hgrow7)
          go_roundg (js.length - (k + 1))
          case measure => omega
          case rel => exact ⟨k + 1, by omega, by omega, by go_num, BW6.out.trans hgrow7, fin.out _ hown7⟩
        | false =>
          clear hcase
          go_wp2_with (at_mapUpdate; refine wpList_mapUpdate_own _ rfl _ _ _ 37 rfl 3 3 intKey Try.underlying37 _ w4.heap.size k _ rfl OM6.out (by unfold maxLen; omega) _ _ _ rfl rfl HKEY.out _ [] (plainElem_int Try.underlying3 (by decide)) ?_; intro w7 hown7 hgrow7)
          go_roundg (js.length - (k + 1))
          case measure => omega
          case rel => exact ⟨k + 1, by omega, by omega, by go_num, BW6.out.trans hgrow7, fin.out _ hown7⟩
      · have hlt2 : decide ((k : Int) < (js.length : Int)) = false := by simp; omega
        go_wp2
        go_ret
        exact ⟨rfl, hwr.out⟩
  · have g1 : (E1 == 0) = false := by simpa using y1
    have g1' : (E1 != 0) = true := by simpa using y1
    have hjs := HBAD.out y1
    subst hjs
    clear y1
    go_wp2_with (fail)
    refine (loopLives_true _).mono ?_
    rintro e w3 ⟨rfl, hb3⟩
    have hU3 := Lib.hid (U2.trans (hb3.mono U2.size))
    clear hb3
    go_wp2_with (fail)
    refine (loopLives_true _).mono ?_
    rintro e w4 ⟨rfl, hb4⟩
    go_wp2
    go_ret
    exact ⟨rfl, hU3.out.trans (hb4.mono hU3.out.size)⟩
end Go.Proofs.Ytpjbblbehbepbaa
