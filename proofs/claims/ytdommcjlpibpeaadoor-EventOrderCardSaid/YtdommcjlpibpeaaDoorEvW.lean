/-
  The closures of the laws of events; EventPrevents returns true. Conditions: the nodes and the listeners read as rows; the listeners' numbers are of 64 bits.
-/
import Derived.Test.YtdommcjlpibpeaaDoorEvU
namespace Go.Proofs.YtdommcjlpibpeaaDoor
set_option linter.unusedSimpArgs false
set_option linter.unusedVariables false
open Go.RowKit Go.Maps
theorem eg_once1 : ∀ args w, (callFunc 15 args).run Tryd.prog w = .ok (.enter 15 args) w := Go.Proofs.enters_of Tryd.func15 (by kernel_rfl) rfl
set_option maxHeartbeats 1000000 in
theorem once1 (x : Evy.Hrd) (i : Int) (c : Nat) (w : World) (h : w.cell? ⟨c, 0, none⟩ = some (.int .i64 i)) :
    Calls Tryd.prog 15 (#[.agg (hc x)] ++ #[.pointer (some ⟨c, 0, none⟩)]) w fun e w' => e = .returned (.bool (decide (x.lis = i))) ∧ Below w.heap.size w w' := by
  have hlt := block_lt_of_cell h
  have hU : Below w.heap.size w (w.alloc (.cells (hc x) 46)) := below1 w _
  have c0 := (hU.cell (p := ⟨c, 0, none⟩) hlt).trans h
  have x0 : (w.alloc (.cells (hc x) 46)).cell? ⟨w.heap.size, 0, none⟩ = some (.int .i64 x.lis) := (Box.new w 46 (hc x)).cell 0
  have HU := Lib.hid hU
  clear h hU
  go_enter Tryd.func15, Tryd.ntmps15
  go_wp2
  go_ret
  exact ⟨ret_bool (beq_dec _ _), HU.out⟩
theorem eg_prevents1 : ∀ args w, (callFunc 19 args).run Tryd.prog w = .ok (.enter 19 args) w := Go.Proofs.enters_of Tryd.func19 (by kernel_rfl) rfl
set_option maxHeartbeats 1000000 in
theorem prevents1 (x : Evy.Hrd) (i : Int) (c : Nat) (w : World) (h : w.cell? ⟨c, 0, none⟩ = some (.int .i64 i)) :
    Calls Tryd.prog 19 (#[.agg (hc x)] ++ #[.pointer (some ⟨c, 0, none⟩)]) w fun e w' => e = .returned (.bool (decide (x.lis = i))) ∧ Below w.heap.size w w' := by
  have hlt := block_lt_of_cell h
  have hU : Below w.heap.size w (w.alloc (.cells (hc x) 46)) := below1 w _
  have c0 := (hU.cell (p := ⟨c, 0, none⟩) hlt).trans h
  have x0 : (w.alloc (.cells (hc x) 46)).cell? ⟨w.heap.size, 0, none⟩ = some (.int .i64 x.lis) := (Box.new w 46 (hc x)).cell 0
  have HU := Lib.hid hU
  clear h hU
  go_enter Tryd.func19, Tryd.ntmps19
  go_wp2
  go_ret
  exact ⟨ret_bool (beq_dec _ _), HU.out⟩
theorem eg_once2 : ∀ args w, (callFunc 18 args).run Tryd.prog w = .ok (.enter 18 args) w := Go.Proofs.enters_of Tryd.func18 (by kernel_rfl) rfl
set_option maxHeartbeats 1000000 in
theorem once2 (x : Evy.Lis) (i : Int) (c : Nat) (w : World) (h : w.cell? ⟨c, 0, none⟩ = some (.int .i64 i)) :
    Calls Tryd.prog 18 (#[.agg (lc x)] ++ #[.pointer (some ⟨c, 0, none⟩)]) w fun e w' => e = .returned (.bool (decide (x.id = i))) ∧ Below w.heap.size w w' := by
  have hlt := block_lt_of_cell h
  have hU : Below w.heap.size w (w.alloc (.cells (lc x) 43)) := below1 w _
  have c0 := (hU.cell (p := ⟨c, 0, none⟩) hlt).trans h
  have x0 : (w.alloc (.cells (lc x) 43)).cell? ⟨w.heap.size, 0, none⟩ = some (.int .i64 x.id) := (Box.new w 43 (lc x)).cell 0
  have HU := Lib.hid hU
  clear h hU
  go_enter Tryd.func18, Tryd.ntmps18
  go_wp2
  go_ret
  exact ⟨ret_bool (beq_dec _ _), HU.out⟩
theorem eg_order1 : ∀ args w, (callFunc 21 args).run Tryd.prog w = .ok (.enter 21 args) w := Go.Proofs.enters_of Tryd.func21 (by kernel_rfl) rfl
set_option maxHeartbeats 1000000 in
theorem order1 (x : Evy.Lis) (i : Int) (c : Nat) (w : World) (h : w.cell? ⟨c, 0, none⟩ = some (.int .i64 i)) :
    Calls Tryd.prog 21 (#[.agg (lc x)] ++ #[.pointer (some ⟨c, 0, none⟩)]) w fun e w' => e = .returned (.bool (decide (x.id = i))) ∧ Below w.heap.size w w' := by
  have hlt := block_lt_of_cell h
  have hU : Below w.heap.size w (w.alloc (.cells (lc x) 43)) := below1 w _
  have c0 := (hU.cell (p := ⟨c, 0, none⟩) hlt).trans h
  have x0 : (w.alloc (.cells (lc x) 43)).cell? ⟨w.heap.size, 0, none⟩ = some (.int .i64 x.id) := (Box.new w 43 (lc x)).cell 0
  have HU := Lib.hid hU
  clear h hU
  go_enter Tryd.func21, Tryd.ntmps21
  go_wp2
  go_ret
  exact ⟨ret_bool (beq_dec _ _), HU.out⟩
theorem goes_len {e : Evy.Ev} {l : List Evy.Lis} : ∀ (ss : List Evy.Stp) (s : Evy.St), (ss.foldl (Evy.goes e l) s).heard.length ≤ s.heard.length + l.length * ss.length
  | [], s => by simp
  | a :: ss, s => by
    rw [List.foldl_cons]
    have h1 := goes_len (e := e) (l := l) ss (Evy.goes e l s a)
    have h2 : (Evy.goes e l s a).heard.length ≤ s.heard.length + l.length := by
      unfold Evy.goes
      split
      · exact all_len l s
      · omega
    rw [List.length_cons, Nat.mul_succ]
    omega
theorem heard_len {d : List Domy.Node} {l : List Evy.Lis} {e : Evy.Ev} {p : List Int} (h : Evy.asked d l e = (p, 0)) : (Evy.sent d l e).heard.length ≤ 1000000 := by
  have ha := Evy.ask_of h
  have h1 := goes_len (e := e) (l := l) (Evy.steps p e.bubbles) Evy.st0
  have h2 := steps_len p e.bubbles
  have h4 := ha.pa.len
  have h5 : l.length * (Evy.steps p e.bubbles).length ≤ 60 * 402 := Nat.mul_le_mul ha.few (by omega)
  have h6 : Evy.st0.heard.length = 0 := rfl
  unfold Evy.sent
  rw [h]
  show ((Evy.steps p e.bubbles).foldl (Evy.goes e l) Evy.st0).heard.length ≤ _
  omega
/-- has one that prevents heard it? -/
def wants (h : List Evy.Hrd) (y : Evy.Lis) : Bool := y.prevents && Evy.heardBy h y
theorem any_snoc {α : Type} {q : α → Bool} {l : List α} {k : Nat} {x : α} (h : l[k]? = some x) : (l.take (k + 1)).any q = ((l.take k).any q || q x) := by
  rw [List.take_add_one, h]; simp
theorem any_stop {l : List Evy.Lis} {h : List Evy.Hrd} : Evy.heardBy h = fun y => h.any fun w => decide (w.lis = y.id) := rfl
set_option maxRecDepth 100000 in
set_option maxHeartbeats 4000000 in
theorem prevents_walk (d : List NodeV) (v : Value) (q : Bool) (l : List Evy.Lis) (u : Value) (e : Evy.Ev) (w : World) (hd : DRd w d v) (hl : RdL w 8 lc l u) (hw : Wfs l) :
    Calls Tryd.prog 6 #[.agg (dag v q), u, .agg (ec e)] w fun en w' => en = .returned (.bool true) ∧ Below w.heap.size w w' := by
  have HL := Lib.hid hl
  have HSE : Hid (∀ w', Below w.heap.size w w' → Calls Tryd.prog 11 #[.agg (dag v q), u, .agg (ec e)] w' fun en w'' => SendOut w' (Evy.send (nods d) l e) en w'') := fun w' h => send_any d v q l u e w' (hd.below h) (hl.below h) hw
  have HLV := Lib.hid eventLives_true
  obtain ⟨h, no, lf, er, hse⟩ : ∃ h no lf er, Evy.send (nods d) l e = (h, no, lf, er) := ⟨_, _, _, _, rfl⟩
  rw [hse] at HSE
  have HSN := Lib.hid hse
  obtain ⟨A, cap, rfl, hc1, hc2, -⟩ := hl
  clear hd hw hse
  go_enter Tryd.func6, Tryd.ntmps6
  go_upto_region 1 with (fail)
  refine gen_world (F := fun W => Box W w.heap.size 24 (dag v q) ∧ Box W (w.heap.size + 1) 37 (ec e) ∧ Below w.heap.size w W) ⟨(Box.new w _ _).alloc _, new2 w _ _ _, (below1 w _).alloc (by simp) _⟩ ?_
  rintro W0 ⟨bd, be, hU0⟩
  have hz0 := hU0.size
  have hzd := bd.lt
  have hze := be.lt
  go_wp2_with (first | (refine wpList_load_row rfl 24 (.tmp 3) rfl w.heap.size rfl _ (dag v q) (0, 0) _ bd Tryd.underlying24 rfl info_doc ?_) | (refine wpList_load_row rfl 37 (.tmp 5) rfl (w.heap.size + 1) rfl _ (ec e) (0, 0) _ be Tryd.underlying37 rfl info_ev ?_))
  refine (HSE.out _ hU0).mono ?_
  rintro en W ⟨H, L, rfl, hH, hL, hbW⟩
  have HU := Lib.hid (hU0.trans (hbW.mono hz0))
  have HH : Hid (RdL W 3 hc h H) := Rd.own hH
  obtain ⟨A1, cap1, rfl⟩ := own_slice hH
  obtain ⟨A2, cap2, rfl⟩ := own_slice hL
  have HBE := Lib.hid (be.below hbW hze)
  have hzW := hbW.size
  clear HSE hU0 hH hL hbW bd be
  simp only
  go_wp2_with (fail)
  refine (HLV.out _).mono ?_
  rintro en W1 ⟨rfl, hb1⟩
  have HU1 := Lib.hid (HU.out.trans (hb1.mono HU.out.size))
  have HH1 := Lib.hid (HH.out.below hb1)
  have HBE1 := Lib.hid (HBE.out.below hb1 HBE.out.lt)
  have hz1 := hb1.size
  clear hb1 HH HBE
  by_cases y : er = 0
  · subst y
    have g1 : (((0 : Nat) : Int) != 0) = false := by simp
    have hsn := HSN.out
    obtain ⟨p, hpe⟩ := Evy.send_zero (d := nods d) (l := l) (e := e) (by rw [hsn])
    rw [Evy.send_of hpe] at hsn
    injection hsn with hs1 hsn
    injection hsn with hs2 hsn
    have hfew : l.length ≤ 60 := (Evy.ask_of hpe).few
    have hpr := Evy.prevents hpe
    rw [hs1, hs2] at hpr
    have HPR : Hid (no = (l.any (wants h) && e.cancels)) := hpr
    have HLN : Hid (h.length ≤ 1000000) := by show _ ≤ _; rw [← hs1]; exact heard_len hpe
    clear hsn hs1 hs2 hpr
    go_upto_region 6 with (fail)
    go_loopg [11, 36] l.length (fun gg s11 s36 wr => ∃ j : Nat, j ≤ l.length ∧ l.length - j ≤ gg ∧ (∃ b, s11 = .bool b ∧ Hid (b = (l.take j).any (wants h))) ∧ s36 = .int .i64 (j : Int) ∧ Hid (Below W1.heap.size W1 wr))
    case atStart => exact ⟨0, Nat.zero_le _, by omega, ⟨false, rfl, by show _ = _; simp⟩, rfl, Below.refl _ _⟩
    case round =>
      obtain ⟨j, hj, hgg, ⟨b, rfl, HB⟩, rfl, BW⟩ := hrel
      by_cases hlt : j < l.length
      · have hlt2 : decide ((j : Int) < (l.length : Int)) = true := by simp; omega
        have hltz : (j : Int) < (l.length : Int) := by omega
        obtain ⟨x, hx⟩ : ∃ x, l[j]? = some x := ⟨_, List.getElem?_eq_getElem hlt⟩
        have hst := any_snoc (q := wants h) hx
        rw [← HB.out] at hst
        have HST := Lib.hid hst
        obtain ⟨A5, cap5, e5, _, _, hr5⟩ := (HL.out.below (HU1.out.trans (BW.out.mono HU1.out.size)))
        injection e5 with e5 _ e6
        subst e5
        subst e6
        obtain ⟨g5, o5, rfl, hg5, hrg5⟩ := hr5 (by omega)
        have hrange : Hid (wr.rangeAt g5 (o5 + j * 8) (lc x).toList) := RdL.elem (k := 8) (f := lc) (fun _ => rfl) hrg5 hx
        have HX := Lib.hid hx
        clear hr5 hrg5 hx hst
        go_upto_region 8 with (first | (refine wpList_load_mid rfl 43 (.tmp 38) rfl g5 (o5 + j * 8) rfl (lc x).toList _ hrange.out Tryd.underlying43 rfl info_lis ?_) | (refine wpList_store_box rfl 43 (.tmp 13) (.tmp 39) rfl wr.heap.size (lc x) rfl rfl 43 _ (Box.new wr _ _) info_lis rfl (lc_one x) ?_; intro w6 hx6 hu6 hz6))
        have hb6 : Below wr.heap.size wr w6 := ((Below.refl _ wr).alloc (Nat.le_refl _) _).trans (hu6.own (Nat.le_refl _) (by simp))
        have BW6 := Lib.hid (BW.out.trans (hb6.mono BW.out.size))
        have c0 := hx6.cell 0
        have c7 := hx6.cell 7
        simp at c0 c7
        have HH6 := Lib.hid (HH1.out.below BW6.out)
        have hz66 := hb6.size
        clear hb6 hu6 hx6 hrange BW
        cases b with
        | true =>
          have HN : Hid (true = (l.take (j + 1)).any (wants h)) := by show _ = _; rw [HST.out]; rfl
          go_wp2
          go_roundg (l.length - (j + 1))
          case measure => omega
          case rel => exact ⟨j + 1, by omega, by omega, ⟨true, rfl, HN.out⟩, by go_num, BW6.out⟩
        | false =>
          cases hxp : x.prevents with
          | false =>
            rw [hxp] at c7
            have HN : Hid (false = (l.take (j + 1)).any (wants h)) := by show _ = _; rw [HST.out]; unfold wants; rw [hxp]; rfl
            go_wp2
            go_roundg (l.length - (j + 1))
            case measure => omega
            case rel => exact ⟨j + 1, by omega, by omega, ⟨false, rfl, HN.out⟩, by go_num, BW6.out⟩
          | true =>
            rw [hxp] at c7
            have HN : Hid (Evy.heardBy h x = (l.take (j + 1)).any (wants h)) := by show _ = _; rw [HST.out]; unfold wants; rw [hxp]; rfl
            have HC : Hid (Calls Tryd.prog 14 #[.slice A1 h.length cap1, .func (.func 19) #[] #[.pointer (some ⟨wr.heap.size, 0, none⟩)]] w6 fun e w' => e = .returned (.bool (Evy.heardBy h x)) ∧ Below w6.heap.size w6 w') :=
              contains_hrd h (fun w => decide (w.lis = x.id)) _ _ _ w6 eg_prevents1 (fun y _ w1 hb => prevents1 y x.id _ w1 ((hb.cell (p := ⟨wr.heap.size, 0, none⟩) (block_lt_of_cell c0)).trans c0)) HH6.out HLN.out
            obtain ⟨r, hr⟩ : ∃ r, Evy.heardBy h x = r := ⟨_, rfl⟩
            rw [hr] at HN HC
            clear hr
            go_wp2_with (fail)
            refine (HC.out).mono ?_
            rintro en w7 ⟨rfl, hb7⟩
            have BW7 := Lib.hid (BW6.out.trans (hb7.mono BW6.out.size))
            clear hb7
            cases r with
            | true =>
              go_wp2
              go_roundg (l.length - (j + 1))
              case measure => omega
              case rel => exact ⟨j + 1, by omega, by omega, ⟨true, rfl, HN.out⟩, by go_num, BW7.out⟩
            | false =>
              go_wp2
              go_roundg (l.length - (j + 1))
              case measure => omega
              case rel => exact ⟨j + 1, by omega, by omega, ⟨false, rfl, HN.out⟩, by go_num, BW7.out⟩
      · have hlt2 : decide ((j : Int) < (l.length : Int)) = false := by simp; omega
        have hja : l.take j = l := List.take_of_length_le (by omega)
        have HB2 := HB.out
        rw [hja] at HB2
        rw [← HB2] at HPR
        have HE := Lib.hid (HU1.out.trans (BW.out.mono HU1.out.size))
        have c6 := (HBE1.out.below BW.out HBE1.out.lt).cell 6
        simp at c6
        clear hja HB2 HB
        obtain ⟨ca, hca⟩ : ∃ ca, e.cancels = ca := ⟨_, rfl⟩
        rw [hca] at HPR c6
        clear hca
        cases b with
        | true =>
          cases ca with
          | true =>
            have hno : no = true := HPR.out
            subst hno
            go_wp2
            go_ret
            exact ⟨rfl, HE.out⟩
          | false =>
            have hno : no = false := HPR.out
            subst hno
            go_wp2
            go_ret
            exact ⟨rfl, HE.out⟩
        | false =>
          have hno : no = false := HPR.out
          subst hno
          go_wp2
          go_ret
          exact ⟨rfl, HE.out⟩
  · have g1 : ((er : Int) != 0) = true := by simp; omega
    have hn : no = false := by
      have := HSN.out
      by_cases h1 : (Evy.asked (nods d) l e).2 = 0
      · have h2 := Evy.send_of (d := nods d) (l := l) (e := e) (p := (Evy.asked (nods d) l e).1) (by rw [← h1])
        rw [h2] at this
        injection this with _ this
        injection this with _ this
        injection this with _ this
        exact absurd this.symm y
      · rw [Evy.send_no h1] at this
        injection this with _ this
        injection this with this _
        exact this.symm
    subst hn
    clear y
    go_wp2_with (fail)
    refine (HLV.out _).mono ?_
    rintro en W2 ⟨rfl, hb2⟩
    go_wp2
    go_ret
    exact ⟨rfl, HU1.out.trans (hb2.mono HU1.out.size)⟩
end Go.Proofs.YtdommcjlpibpeaaDoor
