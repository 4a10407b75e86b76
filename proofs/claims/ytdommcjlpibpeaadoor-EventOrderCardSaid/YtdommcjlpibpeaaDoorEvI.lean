/-
  The path of a node: walked. Conditions: the nodes read as a row.
-/
import Derived.Test.YtdommcjlpibpeaaDoorEvH
import Derived.Test.YtdommcjlpibpeaaDoorEvt
namespace Go.Proofs.YtdommcjlpibpeaaDoor
set_option linter.unusedSimpArgs false
set_option linter.unusedVariables false
open Go.RowKit

def ints (l : List Int) : List Value := l.map (Value.int .i64)
theorem flat_ints : ∀ l : List Int, flat ic l = ints l
  | [] => rfl
  | n :: l => by rw [flat_cons, flat_ints l]; rfl
theorem parts_int : (Tryd.prog.info? 3).map (fun i => (i.zero, i.size, i.bytes)) = some (some (.int .i64 0), 1, 8) := by kernel_rfl
theorem box_cells {w : World} {b : Nat} {t : TypeId} : ∀ (vs : List Value) (o : Nat) (L : List Value) (w : World), Box w b t L.toArray → o + vs.length ≤ L.length →
    Box (w.setCells b o vs) b t (L.take o ++ (vs ++ L.drop (o + vs.length))).toArray
  | [], o, L, w, h, _ => by simpa [World.setCells] using h
  | v :: vs, o, L, w, h, hl => by
    simp only [List.length_cons] at hl
    have h1 := h.set o v
    rw [List.setIfInBounds_toArray] at h1
    have h2 := box_cells (w := w) vs (o + 1) (L.set o v) _ h1 (by simp; omega)
    have e1 : (L.set o v).take (o + 1) = L.take o ++ [v] := by
      rw [List.take_add_one, List.getElem?_set_self (by omega), List.take_set_of_le (Nat.le_refl _)]
      rfl
    have e2 : (L.set o v).drop (o + 1 + vs.length) = L.drop (o + (vs.length + 1)) := by
      rw [List.drop_set_of_lt (by omega), show o + 1 + vs.length = o + (vs.length + 1) by omega]
    rw [e1, e2] at h2
    simpa [World.setCells] using h2
theorem upd_cells {b : Nat} : ∀ (vs : List Value) (o : Nat) (w : World), Upd w (w.setCells b o vs) b
  | [], _, w => Upd.refl w b
  | v :: vs, o, w => by
    have h := upd_cells (b := b) vs (o + 1) (w.setCell ⟨b, o, none⟩ v)
    exact ((Upd.refl w b).set (p := ⟨b, o, none⟩) (.inl rfl) v).trans h
/-- what a path is, told: a row of its own, and an error. -/
def PathOut (w : World) (r : List Int × Nat) (e : Ending) (w' : World) : Prop :=
  ∃ v, e = .returned (.tuple #[v, .int .i64 (r.2 : Int)]) ∧ w'.ownsRow w.heap.size 3 1 v r.1.length (ints r.1) ∧ Below w.heap.size w w'
set_option maxRecDepth 100000 in
set_option maxHeartbeats 4000000 in
theorem path_any (d : List NodeV) (v : Value) (q : Bool) (n : Int) (w : World) (hd : DRd w d v) :
    Calls Tryd.prog 8 #[.agg (dag v q), .int .i64 n] w fun e w' => PathOut w (Evy.path (nods d) n) e w' := by
  have HD := Lib.hid hd
  have hpl : (nods d).length = d.length := by simp [nods]
  have HCK : Hid (∀ w', Below w.heap.size w w' → Calls Tryd.prog 23 #[.agg (dag v q)] w' fun e w'' => e = .returned (.int .i64 (Domy.check (nods d) : Int)) ∧ Below w'.heap.size w' w'') := fun w' h => check_any d v q w' (HD.out.below h)
  obtain ⟨A, cap, rfl, hc1, hc2, hrow⟩ := hd.r
  have HROW := Lib.hid hrow
  obtain ⟨C, hC⟩ : ∃ C, Domy.check (nods d) = C := ⟨_, rfl⟩
  have HPP : Hid (Evy.path (nods d) n = if C ≠ 0 then ([], C) else if n < 0 ∨ (d.length : Int) ≤ n then ([], 1) else if (Evy.chain (nods d) n).reverse[0]? ≠ some 0 then ([], 5) else ((Evy.chain (nods d) n).reverse, 0)) := by
    show _ = _
    unfold Evy.path
    rw [hC, hpl]
  have HOK : Hid (C = 0 → Domy.Ok (nods d)) := fun h => Domy.check_zero (hC.trans h)
  rw [hC] at HCK
  clear hd hrow hC
  go_enter Tryd.func8, Tryd.ntmps8
  go_upto_region 1 with (fail)
  have b0 := Box.new w 24 (dag (.slice A d.length cap) q)
  have hU : Below w.heap.size w (w.alloc (.cells (dag (.slice A d.length cap) q) 24)) := below1 w _
  generalize (w.alloc (.cells (dag (.slice A d.length cap) q) 24)) = W0 at *
  go_wp2_with (refine wpList_load_row rfl 24 (.tmp 2) rfl w.heap.size rfl _ (dag (.slice A d.length cap) q) (0, 0) _ b0 Tryd.underlying24 rfl info_doc ?_)
  refine (HCK.out _ hU).mono ?_
  rintro e W ⟨rfl, hbW⟩
  have hUW := Lib.hid (hU.trans (hbW.mono hU.size))
  have b1 := b0.below hbW b0.lt
  clear hU hbW b0
  by_cases y1 : C = 0
  · have g1 : ((C : Int) == 0) = true := by simp [y1]
    have g1' : ((C : Int) != 0) = false := by simp [y1]
    have hok := HOK.out y1
    have HP2 : Hid (Evy.path (nods d) n = if n < 0 ∨ (d.length : Int) ≤ n then ([], 1) else if (Evy.chain (nods d) n).reverse[0]? ≠ some 0 then ([], 5) else ((Evy.chain (nods d) n).reverse, 0)) := by show _ = _; rw [HPP.out, if_neg (by simp [y1])]
    have c0 := b1.cell 0
    simp at c0
    have hdl : d.length ≤ 200 := by have := hok.le; rw [hpl] at this; exact this
    have HOK2 := Lib.hid hok
    clear y1 hok
    by_cases y2 : n < 0
    · have d2 : decide (n < 0) = true := decide_eq_true y2
      have Y2 := Lib.hid y2
      clear y2
      go_wp2
      go_returns
      exact ⟨_, by rw [HP2.out, if_pos (.inl Y2.out)]; rfl, by rw [HP2.out, if_pos (.inl Y2.out)]; exact World.ownsRow_nil _ _ _ _, hUW.out⟩
    · have d2 : decide (n < 0) = false := decide_eq_false y2
      by_cases y3 : n ≥ (d.length : Int)
      · have d3 : decide (n ≥ (d.length : Int)) = true := decide_eq_true y3
        have Y3 := Lib.hid y3
        clear y3
        go_wp2
        go_returns
        exact ⟨_, by rw [HP2.out, if_pos (.inr Y3.out)]; rfl, by rw [HP2.out, if_pos (.inr Y3.out)]; exact World.ownsRow_nil _ _ _ _, hUW.out⟩
      · have d3 : decide (n ≥ (d.length : Int)) = false := decide_eq_false y3
        have HP3 : Hid (Evy.path (nods d) n = if (Evy.chain (nods d) n).reverse[0]? ≠ some 0 then ([], 5) else ((Evy.chain (nods d) n).reverse, 0)) := by show _ = _; rw [HP2.out, if_neg (by omega)]
        have hN : n.toNat < d.length := by omega
        have hnn : n = (n.toNat : Int) := by omega
        have hup0 : Domy.upGo (nods d) (d.length + 1) n < d.length + 1 := by
          have := (HOK2.out.up n.toNat (by rw [hpl]; exact hN)).1
          unfold Domy.up at this
          rw [← hnn, hpl] at this
          omega
        have hch0 : Evy.chain (nods d) n = [] ++ (if 0 ≤ n then Evy.chainGo (nods d) (d.length + 1) n else []) := by
          rw [if_pos (by omega)]; unfold Evy.chain; rw [hpl]; rfl
        obtain ⟨g0, o0, rfl, hg0, hrg⟩ := HROW.out (by omega)
        have HRG := Lib.hid hrg
        have hzW := b1.lt
        obtain ⟨i0, hi0, hz0, hz1, hz2⟩ := info_parts parts_int
        clear hrg hnn
        go_upto_region 7 with (fail)
        clear c0
        go_loopg [1, 7] (d.length + 1) (fun gg s1 s7 wr => ∃ (acc : List Int) (t : Int) (m : Nat) (A2 : Option Addr) (cap2 : Nat), m ≤ gg ∧ acc.length + m ≤ d.length + 1 ∧ s1 = .int .i64 t ∧ s7 = .slice A2 acc.length cap2 ∧ t < (d.length : Int) ∧ -1 ≤ t ∧ Hid (0 ≤ t → Domy.upGo (nods d) m t < m) ∧ Hid (Below W.heap.size W wr) ∧ Hid (wr.ownsRow W.heap.size 3 1 (.slice A2 acc.length cap2) acc.length (ints acc)) ∧ Hid (Evy.chain (nods d) n = acc ++ (if 0 ≤ t then Evy.chainGo (nods d) m t else [])))
        case atStart => exact ⟨[], n, d.length + 1, none, 0, Nat.le_refl _, by simp, rfl, rfl, by omega, by omega, fun _ => hup0, Below.refl _ _, World.ownsRow_nil _ _ _ _, hch0⟩
        case round =>
          obtain ⟨acc, t, m, A2, cap2, hg, hal, rfl, rfl, ht1, ht2, HU, BW, OW, HC⟩ := hrel
          have bd := b1.below BW.out b1.lt
          have hwr : Hid (Below w.heap.size w wr) := hUW.out.trans (BW.out.mono hUW.out.size)
          by_cases y4 : t ≥ 0
          · have d4 : decide (t ≥ 0) = true := decide_eq_true y4
            obtain ⟨M, rfl⟩ : ∃ M : Nat, t = (M : Int) := ⟨t.toNat, by omega⟩
            have hu := HU.out (by omega)
            obtain ⟨m', rfl⟩ : ∃ m', m = m' + 1 := ⟨m - 1, by omega⟩
            obtain ⟨x, hx⟩ : ∃ x, d[M]? = some x := ⟨_, List.getElem?_eq_getElem (by omega)⟩
            have hxn := nods_at hx
            rw [up_step hxn] at hu
            have hch := Evy.chain_step (m := m') hxn
            have hpar := HOK2.out.par x.n (List.mem_of_getElem? hxn)
            rw [hpl] at hpar
            have hcell0 : Hid (∀ w', Below W.heap.size W w' → w'.cell? ⟨g0, o0 + M * 6 + 4, none⟩ = some (.int .i64 x.n.parent)) := fun w' h =>
              ((hUW.out.trans (h.mono hUW.out.size)).cell (p := ⟨g0, o0 + M * 6 + 4, none⟩) hg0).trans (RdL.elem (k := 6) (f := nc) (fun _ => rfl) HRG.out hx 4 _ rfl)
            have hMz : (M : Int) < (d.length : Int) := ht1
            have HCH := Lib.hid hch
            have HUU := Lib.hid hu
            have hown := OW.out
            have hlts := Lib.hid hown.lt
            have HO := Lib.hid hown
            have hzr := BW.out.size
            have cd := bd.cell 0
            simp at cd
            have hln : (ints acc).length = acc.length := by simp [ints]
            have HLN := Lib.hid hln
            clear hu hch hx hxn hown hln y4
            have hinv : Hid (∀ w', Below W.heap.size W w' → Box w' w.heap.size 24 (dag (.slice (some ⟨g0, o0, none⟩) d.length cap) q)) := fun w' h => b1.below h b1.lt
            go_wp2_with (at_builtin; (refine wpList_append_lies _ rfl (.tmp 30) (.tmp 32) 25 rfl W.heap.size 3 i0 _ 1 8 Tryd.underlying25 hi0 hz0 hz1 hz2 rfl (by decide) _ acc.length (ints acc) rfl (HO.out.alloc _) ⟨wr.heap.size, 0, none⟩ 1 1 [.int .i64 (M : Int)] rfl rfl (World.news_of_block (Box.new wr _ _)) (by simp [Value.oneCell']) (by omega) (by unfold maxLen; omega) (by omega) (by simp; omega) (wr.heap.size + 1) (by simp) ?_); intro g7 cap7 w7 hown7 hgr7 hor7 hlt7; have hb7 : Below W.heap.size W w7 := (BW.out.alloc hzr _).trans (below_grown hgr7 (by simp; omega) (fun j hj => (hlts.out j hj).1)); have cd7 := (hinv.out _ hb7).cell 0; simp at cd7; have p4 := hcell0.out _ hb7)
            go_roundg m'
            case measure => omega
            case rel =>
              refine ⟨acc ++ [(M : Int)], x.n.parent, m', some ⟨g7, 0, none⟩, cap7, Nat.le_refl _, by simp; omega, rfl, by simp, by omega, by omega, ?_, hb7, ?_, ?_⟩
              · show _ → _
                intro h
                have := HUU.out
                rw [if_pos h] at this
                omega
              · show World.ownsRow _ _ _ _ _ _ _
                simpa [ints] using hown7
              · show _ = _
                rw [HC.out, if_pos (by omega), HCH.out]
                simp
          · have d4 : decide (t ≥ 0) = false := decide_eq_false y4
            have hch : Evy.chain (nods d) n = acc := by rw [HC.out, if_neg (by omega)]; simp
            have hne : 0 < acc.length := by
              rw [← hch, hch0, if_pos (by omega)]
              simp [Evy.chainGo]
            obtain ⟨g, cp, R, hv, hbg, hbx, hcp1, hcp2, hcz⟩ := own_box OW.out hne
            injection hv with hv1 _ hv3
            subst hv1
            subst hv3
            have hrev := Tryd.slices_Reverse_int_cells g 0 acc.length cap2 acc wr (Nat.le_refl _) (by omega) (fun j hj => by
              rw [Nat.zero_add, hbx.cell]
              simp only [List.getElem?_toArray]
              rw [List.getElem?_append_left (by simp [ints]; omega)]
              simp [ints, List.getD, hj]) (fun j hj => hbx.frozen _)
            have HREV := Lib.hid hrev
            have HBX := Lib.hid hbx
            have HCHN := Lib.hid hch
            obtain ⟨wo, rfl⟩ : ∃ wo : World, wo = wr := ⟨_, rfl⟩
            clear hrev hbx hch y4
            go_wp2_with (fail)
            refine (HREV.out).mono ?_
            rintro e w8 ⟨rfl, nq, hw8⟩
            have hb8 := box_cells (w := wo) ((acc.take acc.length).reverse.map (Value.int .i64)) 0 (ints acc ++ R) (wo.drewN nq) (show Box (wo.drewN nq) g _ _ from HBX.out) (by simp [ints])
            have hu8 := upd_cells (b := g) ((acc.take acc.length).reverse.map (Value.int .i64)) 0 (wo.drewN nq)
            rw [← hw8] at hb8 hu8
            have e8 : (ints acc ++ R).take 0 ++ ((acc.take acc.length).reverse.map (Value.int .i64) ++ (ints acc ++ R).drop (0 + ((acc.take acc.length).reverse.map (Value.int .i64)).length)) = ints acc.reverse ++ R := by
              rw [List.take_of_length_le (Nat.le_refl _)]
              simp [ints]
            rw [e8] at hb8
            have hbel : Below w.heap.size w w8 := (below_drewN hwr.out nq).trans (hu8.own (by omega) (by show w.heap.size ≤ wo.heap.size; exact hwr.out.size))
            have hown8 : w8.ownsRow W.heap.size 3 1 (.slice (some ⟨g, 0, none⟩) acc.length cap2) acc.length (ints acc.reverse) := box_own hbg hb8 (by omega) (by omega) (by simp [ints] at hcz ⊢; omega) (by rw [Nat.mul_one, List.take_append_of_le_length (by simp [ints]), List.take_of_length_le (by simp [ints])]) (by simp [ints])
            obtain ⟨z, hz⟩ : ∃ z, acc.reverse[0]? = some z := ⟨_, List.getElem?_eq_getElem (by simpa using hne)⟩
            have c0 : w8.cell? ⟨g, 0, none⟩ = some (.int .i64 z) := by
              rw [hb8.cell, List.getElem?_toArray, List.getElem?_append_left (by simp [ints]; omega)]
              simp only [ints, List.getElem?_map, hz]
              rfl
            have hez : (0 : Int) < (acc.length : Int) := by omega
            have HO8 := Lib.hid hown8
            have HB8 := Lib.hid hbel
            have HZ := Lib.hid hz
            clear hw8 hb8 hu8 e8 hbel hown8 hz
            by_cases y5 : z = 0
            · have g5 : (z == 0) = true := by simp [y5]
              have g5' : (z != 0) = false := by simp [y5]
              have Y5 := Lib.hid y5
              clear y5
              go_wp2
              go_returns
              have hr : Evy.path (nods d) n = (acc.reverse, 0) := by rw [HP3.out, HCHN.out, if_neg (by rw [HZ.out, Y5.out]; simp)]
              exact ⟨_, by rw [hr]; rfl, by rw [hr]; have := own_base HO8.out hUW.out.size; simpa using this, HB8.out⟩
            · have g5 : (z == 0) = false := by simp [y5]
              have g5' : (z != 0) = true := by simp [y5]
              have Y5 := Lib.hid y5
              clear y5
              go_wp2
              go_returns
              have hr : Evy.path (nods d) n = ([], 5) := by rw [HP3.out, HCHN.out, if_pos (by rw [HZ.out]; simp [Y5.out])]
              exact ⟨_, by rw [hr]; rfl, by rw [hr]; exact World.ownsRow_nil _ _ _ _, HB8.out⟩
  · have g1 : ((C : Int) == 0) = false := by rw [beq_eq_false_iff_ne]; omega
    have g1' : ((C : Int) != 0) = true := by simp; omega
    have Y1 := Lib.hid y1
    clear y1
    go_wp2
    go_returns
    exact ⟨_, by rw [HPP.out, if_pos Y1.out]; rfl, by rw [HPP.out, if_pos Y1.out]; exact World.ownsRow_nil _ _ _ _, hUW.out⟩
end Go.Proofs.YtdommcjlpibpeaaDoor
