/-
  May an event be sent: walked. Conditions: the nodes and the listeners read as rows; the listeners' numbers are of 64 bits.
-/
import Derived.Test.YtdommcjlpibpeaaDoorEvI
import Derived.Test.YtdommcjlpibpeaaDoorSeen
namespace Go.Proofs.YtdommcjlpibpeaaDoor
set_option linter.unusedSimpArgs false
set_option linter.unusedVariables false
open Go.RowKit Go.Maps

abbrev lc (x : Evy.Lis) : Array Value := #[.int .i64 x.id, .int .i64 x.node, .string (byt x.typ), .bool x.capture, .bool x.once, .bool x.stops, .bool x.all, .bool x.prevents]
abbrev hc (x : Evy.Hrd) : Array Value := #[.int .i64 x.lis, .int .i64 x.node, .int .i64 x.phase]
abbrev sc (x : Evy.Stp) : Array Value := #[.int .i64 x.node, .int .i64 x.phase, .bool x.down]
abbrev ec (x : Evy.Ev) : Array Value := #[.string (byt x.typ), .int .i64 x.target, .int .i64 x.x, .int .i64 x.y, .string (byt x.key), .bool x.bubbles, .bool x.cancels]
theorem lc_one (x : Evy.Lis) : (lc x).all (·.oneCell') = true := by simp [Value.oneCell']
theorem hc_one (x : Evy.Hrd) : (hc x).all (·.oneCell') = true := by simp [Value.oneCell']
theorem sc_one (x : Evy.Stp) : (sc x).all (·.oneCell') = true := by simp [Value.oneCell']
theorem ec_one (x : Evy.Ev) : (ec x).all (·.oneCell') = true := by simp [Value.oneCell']
theorem info_lis : (Tryd.prog.info? 43).map (fun j => j.size) = some 8 := by kernel_rfl
theorem info_hrd : (Tryd.prog.info? 46).map (fun j => j.size) = some 3 := by kernel_rfl
theorem info_stp : (Tryd.prog.info? 66).map (fun j => j.size) = some 3 := by kernel_rfl
theorem info_ev : (Tryd.prog.info? 37).map (fun j => j.size) = some 7 := by kernel_rfl
/-- the numbers of the listeners are of 64 bits. -/
def Wfs (l : List Evy.Lis) : Prop := ∀ x ∈ l, (Lit.int .i64 x.id).wf = true
theorem far_step {d : List Domy.Node} {l : List Evy.Lis} {k : Nat} {x : Evy.Lis} (h : l[k]? = some x) (h0 : (l.take k).any (Evy.far d) = false) : (l.take (k + 1)).any (Evy.far d) = Evy.far d x := by
  rw [List.take_add_one, h, List.any_append, h0]; simp
theorem any_take {α : Type} {p : α → Bool} {l : List α} {k : Nat} (h : (l.take k).any p = true) : l.any p = true := by
  rw [List.any_eq_true] at h ⊢
  obtain ⟨x, hx, hp⟩ := h
  exact ⟨x, List.mem_of_mem_take hx, hp⟩
set_option maxRecDepth 100000 in
set_option maxHeartbeats 4000000 in
theorem asked_any (d : List NodeV) (v : Value) (q : Bool) (l : List Evy.Lis) (u : Value) (e : Evy.Ev) (w : World) (hd : DRd w d v) (hl : RdL w 8 lc l u) (hw : Wfs l) :
    Calls Tryd.prog 26 #[.agg (dag v q), u, .agg (ec e)] w fun en w' => PathOut w (Evy.asked (nods d) l e) en w' := by
  have HD := Lib.hid hd
  have HL := Lib.hid hl
  have HWF := Lib.hid hw
  have hpl : (nods d).length = d.length := by simp [nods]
  have HCK : Hid (∀ w', Below w.heap.size w w' → Calls Tryd.prog 23 #[.agg (dag v q)] w' fun e w'' => e = .returned (.int .i64 (Domy.check (nods d) : Int)) ∧ Below w'.heap.size w' w'') := fun w' h => check_any d v q w' (HD.out.below h)
  have HPA : Hid (∀ w', Below w.heap.size w w' → Calls Tryd.prog 8 #[.agg (dag v q), .int .i64 e.target] w' fun en w'' => PathOut w' (Evy.path (nods d) e.target) en w'') := fun w' h => path_any d v q e.target w' (HD.out.below h)
  obtain ⟨A, cap, rfl, hc1, hc2, hrow⟩ := hd.r
  obtain ⟨B, bcap, rfl, hc3, hc4, hrowl⟩ := hl
  have HROWL := Lib.hid hrowl
  obtain ⟨C, hC⟩ : ∃ C, Domy.check (nods d) = C := ⟨_, rfl⟩
  have HPP : Hid (Evy.asked (nods d) l e = if C ≠ 0 then ([], C) else if 60 < l.length then ([], 2) else if l.any (Evy.far (nods d)) then ([], 1)
      else if Evy.twice (l.map (·.id)).reverse then ([], 6) else if e.typ = [] ∨ 40 < e.typ.length then ([], 3) else Evy.path (nods d) e.target) := by
    show _ = _
    unfold Evy.asked
    rw [hC]
  rw [hC] at HCK
  clear hd hrow hrowl hC hw
  have ht4 : ((byt e.typ).size : Int) = (e.typ.length : Int) := by rw [byt_size]
  have HT4 := Lib.hid ht4
  have het := byt_empty e.typ
  clear ht4
  go_enter Tryd.func26, Tryd.ntmps26
  go_upto_region 1 with (fail)
  have b0 : Box ((w.alloc (.cells (dag (.slice A d.length cap) q) 24)).alloc (.cells (ec e) 37)) w.heap.size 24 (dag (.slice A d.length cap) q) := (Box.new w _ _).alloc _
  have be : Box ((w.alloc (.cells (dag (.slice A d.length cap) q) 24)).alloc (.cells (ec e) 37)) (w.heap.size + 1) 37 (ec e) := new2 w _ _ _
  have hU : Below w.heap.size w ((w.alloc (.cells (dag (.slice A d.length cap) q) 24)).alloc (.cells (ec e) 37)) := (below1 w _).alloc (by simp) _
  generalize ((w.alloc (.cells (dag (.slice A d.length cap) q) 24)).alloc (.cells (ec e) 37)) = W0 at *
  go_wp2_with (refine wpList_load_row rfl 24 (.tmp 3) rfl w.heap.size rfl _ (dag (.slice A d.length cap) q) (0, 0) _ b0 Tryd.underlying24 rfl info_doc ?_)
  refine (HCK.out _ hU).mono ?_
  rintro en W ⟨rfl, hbW⟩
  have hUW := Lib.hid (hU.trans (hbW.mono hU.size))
  have b1 := b0.below hbW b0.lt
  have be1 := be.below hbW be.lt
  clear hU hbW b0 be
  by_cases y1 : C = 0
  · have g1 : ((C : Int) == 0) = true := by simp [y1]
    have g1' : ((C : Int) != 0) = false := by simp [y1]
    have HP2 : Hid (Evy.asked (nods d) l e = if 60 < l.length then ([], 2) else if l.any (Evy.far (nods d)) then ([], 1)
      else if Evy.twice (l.map (·.id)).reverse then ([], 6) else if e.typ = [] ∨ 40 < e.typ.length then ([], 3) else Evy.path (nods d) e.target) := by show _ = _; rw [HPP.out, if_neg (by simp [y1])]
    clear y1
    by_cases y2 : l.length > 60
    · have d2 : decide ((l.length : Int) > 60) = true := by simp; omega
      have Y2 := Lib.hid y2
      clear y2
      go_wp2
      go_returns
      exact ⟨_, by rw [HP2.out, if_pos Y2.out]; rfl, by rw [HP2.out, if_pos Y2.out]; exact World.ownsRow_nil _ _ _ _, hUW.out⟩
    · have d2 : decide ((l.length : Int) > 60) = false := by simp; omega
      have HP3 : Hid (Evy.asked (nods d) l e = if l.any (Evy.far (nods d)) then ([], 1)
        else if Evy.twice (l.map (·.id)).reverse then ([], 6) else if e.typ = [] ∨ 40 < e.typ.length then ([], 3) else Evy.path (nods d) e.target) := by show _ = _; rw [HP2.out, if_neg (by omega)]
      have hmm := @run_makeMap Tryd.prog
      have hmo := World.ownsMap_made (H := Unit) W Tryd.prog 3 (plainElem Tryd.prog 3)
      have hU5 : Below W.heap.size W (W.alloc (.map #[] 0)) := (Below.refl _ W).alloc (Nat.le_refl _) _
      have hmo' : (W.alloc (.map #[] 0)).ownsMap Tryd.prog 3 (plainElem (H := Unit) Tryd.prog 3) W.heap.size 0 (Seeny.seen []) := by simpa [Seeny.seen, setOf] using hmo
      have U5 : Below w.heap.size w (W.alloc (.map #[] 0)) := hUW.out.trans (hU5.mono hUW.out.size)
      have b5 := b1.below hU5 b1.lt
      have be5 := be1.below hU5 be1.lt
      have hzM : W.heap.size < (W.alloc (.map #[] 0)).heap.size := by simp
      have hzw : w.heap.size < W.heap.size := b1.lt
      have hzw1 : w.heap.size + 1 < W.heap.size := be1.lt
      clear hmo hU5 b1 be1
      go_upto_region 9 with (fail)
      go_loopg [10, 24] l.length (fun gg s10 c wr => ∃ (k : Nat) (b1 : Bool), k ≤ l.length ∧ l.length - k ≤ gg ∧ s10 = .bool b1 ∧ c = .int .i64 (k : Int) ∧ Hid (Upd (W.alloc (.map #[] 0)) wr W.heap.size) ∧ Hid (wr.ownsMap Tryd.prog 3 (plainElem (H := Unit) Tryd.prog 3) W.heap.size k (Seeny.seen ((l.take k).map (·.id)))) ∧ Hid ((l.take k).any (Evy.far (nods d)) = false) ∧ Hid (Evy.twice ((l.take k).map (·.id)).reverse = b1))
      case atStart => exact ⟨0, false, Nat.zero_le _, by omega, rfl, rfl, Upd.refl _ _, hmo', rfl, rfl⟩
      case round =>
        obtain ⟨k, b1, hk, hg, rfl, rfl, BW, OM, FR, TW⟩ := hrel
        have hzr : W.heap.size < wr.heap.size := by have := BW.out.size; omega
        have hwr : Hid (Below w.heap.size w wr) := U5.trans (Upd.own (B := w.heap.size) BW.out (by omega) (by omega))
        have bd := b5.grown BW.out (by intro h; injection h with h; omega)
        have bed := be5.grown BW.out (by intro h; injection h with h; omega)
        by_cases hlt : k < l.length
        · have hlt2 : decide ((k : Int) < (l.length : Int)) = true := by simp; omega
          have hltz : (k : Int) < (l.length : Int) := by omega
          obtain ⟨x, hx⟩ : ∃ x, l[k]? = some x := ⟨_, List.getElem?_eq_getElem hlt⟩
          obtain ⟨g0, o, rfl, hg0, hrg⟩ := HROWL.out (by omega)
          have hrange : Hid (wr.rangeAt g0 (o + k * 8) (lc x).toList) := fun i u hu => by
            rw [hwr.out.cell (p := ⟨g0, o + k * 8 + i, none⟩) hg0]
            exact RdL.elem (k := 8) (f := lc) (fun _ => rfl) hrg hx i u hu
          have hfs := far_step (d := nods d) hx FR.out
          have HX := Lib.hid hx
          have hwf := HWF.out x (List.mem_of_getElem? hx)
          clear hx hrg
          go_upto_region 11 with (first | (refine wpList_load_mid rfl 43 (.tmp 26) rfl g0 (o + k * 8) rfl (lc x).toList _ hrange.out Tryd.underlying43 rfl info_lis ?_) | (refine wpList_store_box rfl 43 (.tmp 12) (.tmp 27) rfl wr.heap.size (lc x) rfl rfl 43 _ (Box.new wr _ _) info_lis rfl (lc_one x) ?_; intro w6 hx6 hu6 hz6))
          have hb6 : Below wr.heap.size wr w6 := ((Below.refl _ wr).alloc (Nat.le_refl _) _).trans (hu6.own (Nat.le_refl _) (by simp))
          have OM6 : Hid (w6.ownsMap Tryd.prog 3 (plainElem (H := Unit) Tryd.prog 3) W.heap.size k (Seeny.seen ((l.take k).map (·.id)))) :=
            OM.out.kept (w' := w6) (row := none) ⟨hb6.os, hb6.tape, hb6.output, hb6.size, fun i hi _ => hb6.block i hi⟩ (by simp)
          have BW6 : Hid (Upd (W.alloc (.map #[] 0)) w6 W.heap.size) := BW.out.trans (Upd.below hb6 _)
          have HB6 := Lib.hid (hwr.out.trans (hb6.mono hwr.out.size))
          have bd6 := bd.below hb6 bd.lt
          have n0 := hx6.cell 0
          have n1 := hx6.cell 1
          have cd := bd6.cell 0
          simp at n0 n1 cd
          clear hu6 hz6 hb6 bd hx6
          by_cases y3 : x.node < 0
          · have d3 : decide (x.node < 0) = true := decide_eq_true y3
            have hany : Hid (l.any (Evy.far (nods d)) = true) := any_take (k := k + 1) (by rw [hfs]; simp [Evy.far, d3])
            clear y3
            go_wp2
            go_returns
            exact ⟨_, by rw [HP3.out, if_pos hany.out]; rfl, by rw [HP3.out, if_pos hany.out]; exact World.ownsRow_nil _ _ _ _, HB6.out⟩
          · have d3 : decide (x.node < 0) = false := decide_eq_false y3
            by_cases y4 : x.node ≥ (d.length : Int)
            · have d4 : decide (x.node ≥ (d.length : Int)) = true := decide_eq_true y4
              have hany : Hid (l.any (Evy.far (nods d)) = true) := any_take (k := k + 1) (by rw [hfs]; simp [Evy.far, hpl]; right; exact y4)
              clear y3 y4
              go_wp2
              go_returns
              exact ⟨_, by rw [HP3.out, if_pos hany.out]; rfl, by rw [HP3.out, if_pos hany.out]; exact World.ownsRow_nil _ _ _ _, HB6.out⟩
            · have d4 : decide (x.node ≥ (d.length : Int)) = false := decide_eq_false y4
              have hfar : Hid ((l.take (k + 1)).any (Evy.far (nods d)) = false) := by
                show _ = _
                rw [hfs]
                simp only [Evy.far, d3, hpl, Bool.false_or]
                exact d4
              have hkey := keyOf_int_mk (P := Tryd.prog) Tryd.underlying3 hwf
              obtain ⟨c, hrun, hat, _⟩ := OM6.out.lookup_int (t := 53) intKey Tryd.underlying53 Tryd.underlying3 (zero_intv _) hkey
              rw [show (l.take k).map (·.id) = ((l.take k).map (·.id)).reverse.reverse by simp] at hat
              have hc1' := Seeny.seen_num hat
              have HKEY := Lib.hid hkey
              have htk : Hid ((l.take (k + 1)).map (·.id) = (l.take k).map (·.id) ++ [x.id]) := by show _ = _; rw [List.take_add_one, HX.out]; simp
              obtain ⟨b2, hb2⟩ : ∃ b2, ((l.take k).map (·.id)).reverse.contains x.id = b2 := ⟨_, rfl⟩
              rw [hb2] at hc1'
              have htw : Hid (Evy.twice ((l.take (k + 1)).map (·.id)).reverse = (b2 || b1)) := by show _ = _; rw [htk.out, Evy.twice_snoc, hb2, TW.out]
              have fin : Hid (∀ w7 : World, w7.ownsMap Tryd.prog 3 (plainElem (H := Unit) Tryd.prog 3) W.heap.size (k + 1) ((Seeny.seen ((l.take k).map (·.id))).put (.int .i64 x.id) (.lit (.int .i64 1))) → Hid (w7.ownsMap Tryd.prog 3 (plainElem (H := Unit) Tryd.prog 3) W.heap.size (k + 1) (Seeny.seen ((l.take (k + 1)).map (·.id))))) := by
                intro w7 h
                show World.ownsMap _ _ _ _ _ _ _
                rw [htk.out, Seeny.seen_snoc]; exact h
              clear hb2 hat hkey hwf OM y3 y4 hfs TW
              cases b1 with
              | true =>
                go_wp2_with (at_mapUpdate; refine wpList_mapUpdate_own _ rfl _ _ _ 53 rfl 3 3 intKey Tryd.underlying53 _ W.heap.size k _ rfl OM6.out (by unfold maxLen; omega) _ _ _ rfl rfl HKEY.out _ [] (plainElem_int Tryd.underlying3 (by decide)) ?_; intro w7 hown7 hgrow7)
                go_roundg (l.length - (k + 1))
                case measure => omega
                case rel => exact ⟨k + 1, _, by omega, by omega, rfl, by go_num, BW6.out.trans hgrow7, fin.out _ hown7, hfar, by show _ = _; rw [htw.out]; cases b2 <;> rfl⟩
              | false =>
                cases b2 with
                | true =>
                  go_wp2_with (at_mapUpdate; refine wpList_mapUpdate_own _ rfl _ _ _ 53 rfl 3 3 intKey Tryd.underlying53 _ W.heap.size k _ rfl OM6.out (by unfold maxLen; omega) _ _ _ rfl rfl HKEY.out _ [] (plainElem_int Tryd.underlying3 (by decide)) ?_; intro w7 hown7 hgrow7)
                  go_roundg (l.length - (k + 1))
                  case measure => omega
                  case rel => exact ⟨k + 1, _, by omega, by omega, rfl, by go_num, BW6.out.trans hgrow7, fin.out _ hown7, hfar, by show _ = _; rw [htw.out]; rfl⟩
                | false =>
                  go_wp2_with (at_mapUpdate; refine wpList_mapUpdate_own _ rfl _ _ _ 53 rfl 3 3 intKey Tryd.underlying53 _ W.heap.size k _ rfl OM6.out (by unfold maxLen; omega) _ _ _ rfl rfl HKEY.out _ [] (plainElem_int Tryd.underlying3 (by decide)) ?_; intro w7 hown7 hgrow7)
                  go_roundg (l.length - (k + 1))
                  case measure => omega
                  case rel => exact ⟨k + 1, _, by omega, by omega, rfl, by go_num, BW6.out.trans hgrow7, fin.out _ hown7, hfar, by show _ = _; rw [htw.out]; rfl⟩
        · have hlt2 : decide ((k : Int) < (l.length : Int)) = false := by simp; omega
          have hka : l.take k = l := List.take_of_length_le (by omega)
          have HP4 : Hid (Evy.asked (nods d) l e = if Evy.twice (l.map (·.id)).reverse then ([], 6) else if e.typ = [] ∨ 40 < e.typ.length then ([], 3) else Evy.path (nods d) e.target) := by
            show _ = _
            have := FR.out
            rw [hka] at this
            rw [HP3.out, this]
            rfl
          have htw : Evy.twice (l.map (·.id)).reverse = b1 := by have := TW.out; rw [hka] at this; exact this
          rw [htw] at HP4
          have ce0 := bed.cell 0
          have ce1 := bed.cell 1
          simp at ce0 ce1
          clear hka htw OM FR TW
          obtain ⟨wo, rfl⟩ : ∃ wo : World, wo = wr := ⟨_, rfl⟩
          cases b1 with
          | true =>
            go_wp2
            go_returns
            exact ⟨_, by rw [HP4.out]; rfl, by rw [HP4.out]; exact World.ownsRow_nil _ _ _ _, hwr.out⟩
          | false =>
            by_cases y5 : e.typ = []
            · have e5 : (byt e.typ).toList.isEmpty = true := by rw [het]; simp [y5]
              have Y5 := Lib.hid y5
              clear y5 het
              go_wp2
              go_returns
              exact ⟨_, by rw [HP4.out, if_neg (by simp), if_pos (.inl Y5.out)]; rfl, by rw [HP4.out, if_neg (by simp), if_pos (.inl Y5.out)]; exact World.ownsRow_nil _ _ _ _, hwr.out⟩
            · have e5 : (byt e.typ).toList.isEmpty = false := by rw [het]; simp [y5]
              have Y5 := Lib.hid y5
              clear y5 het
              by_cases y6 : (e.typ.length : Int) > 40
              · have d6 : decide (((byt e.typ).size : Int) > 40) = true := decide_eq_true (by rw [HT4.out]; exact y6)
                have Y6 := Lib.hid y6
                clear y6
                go_wp2
                go_returns
                exact ⟨_, by rw [HP4.out, if_neg (by simp), if_pos (.inr (by have := Y6.out; omega))]; rfl, by rw [HP4.out, if_neg (by simp), if_pos (.inr (by have := Y6.out; omega))]; exact World.ownsRow_nil _ _ _ _, hwr.out⟩
              · have d6 : decide (((byt e.typ).size : Int) > 40) = false := decide_eq_false (by rw [HT4.out]; exact y6)
                have HP5 : Hid (Evy.asked (nods d) l e = Evy.path (nods d) e.target) := by show _ = _; rw [HP4.out, if_neg (by simp), if_neg (by rintro (h | h); exact Y5.out h; omega)]
                have Y6 := Lib.hid y6
                clear y6
                go_wp2_with (refine wpList_load_row rfl 24 (.tmp 3) rfl w.heap.size rfl _ (dag (.slice A d.length cap) q) (0, 0) _ bd Tryd.underlying24 rfl info_doc ?_)
                refine (HPA.out _ hwr.out).mono ?_
                rintro en w8 ⟨pv, rfl, hown8, hb8⟩
                have HO8 := Lib.hid hown8
                clear hown8
                go_wp2
                go_returns
                exact ⟨pv, by rw [HP5.out]; rfl, by rw [HP5.out]; exact own_base HO8.out hwr.out.size, hwr.out.trans (hb8.mono hwr.out.size)⟩
  · have g1 : ((C : Int) == 0) = false := by rw [beq_eq_false_iff_ne]; omega
    have g1' : ((C : Int) != 0) = true := by simp; omega
    have Y1 := Lib.hid y1
    clear y1
    go_wp2
    go_returns
    exact ⟨_, by rw [HPP.out, if_pos Y1.out]; rfl, by rw [HPP.out, if_pos Y1.out]; exact World.ownsRow_nil _ _ _ _, hUW.out⟩
end Go.Proofs.YtdommcjlpibpeaaDoor
