/-
  The check of a document. Conditions: the nodes read as a row.
-/
import Derived.Test.YtdommcjlpibpeaaDoorEvG
import Derived.Test.YtdommcjlpibpeaaDoorEvD
import Derived.Test.YtdommcjlpibpeaaDoorDomB
namespace Go.Proofs.YtdommcjlpibpeaaDoor
set_option linter.unusedSimpArgs false
set_option linter.unusedVariables false
open Go.RowKit

theorem neq_bool (a b : Bool) (w : World) : (binOp .neq 4 (.bool a) (.bool b)).run Tryd.prog w = .ok (.bool (a != b)) w := by cases a <;> cases b <;> kernel_rfl
set_option maxRecDepth 100000 in
set_option maxHeartbeats 4000000 in
theorem check_any (d : List NodeV) (v : Value) (q : Bool) (w : World) (hd : DRd w d v) :
    Calls Tryd.prog 23 #[.agg (dag v q)] w fun e w' => e = .returned (.int .i64 (Domy.check (nods d) : Int)) ∧ Below w.heap.size w w' := by
  have HD := Lib.hid hd
  have hpl : (nods d).length = d.length := by simp [nods]
  obtain ⟨A, cap, rfl, hc1, hc2, hrow⟩ := hd.r
  have HROW := Lib.hid hrow
  clear hd hrow
  go_enter Tryd.func23, Tryd.ntmps23
  go_upto_region 1 with (fail)
  have b0 := Box.new w 24 (dag (.slice A d.length cap) q)
  have hU : Below w.heap.size w (w.alloc (.cells (dag (.slice A d.length cap) q) 24)) := below1 w _
  generalize (w.alloc (.cells (dag (.slice A d.length cap) q) 24)) = W0 at *
  have c0 := b0.cell 0
  simp at c0
  by_cases y1 : d.length > 200
  · have d1 : decide ((d.length : Int) > 200) = true := by simp; omega
    have hck : Hid (Domy.check (nods d) = 2) := by show _ = _; unfold Domy.check; rw [if_pos (by rw [hpl]; omega)]
    clear y1
    go_wp2
    go_ret
    exact ⟨ret_int (by rw [hck.out]; rfl), hU⟩
  · have d1 : decide ((d.length : Int) > 200) = false := by simp; omega
    by_cases y2 : d.length = 0
    · have d2 : ((d.length : Int) == 0) = true := by simp [y2]
      have d2N : (d.length == 0) = true := by simp [y2]
      have hck : Hid (Domy.check (nods d) = 3) := by show _ = _; unfold Domy.check; rw [if_neg (by rw [hpl]; omega), if_pos (by rw [hpl]; omega)]
      clear y2
      go_wp2
      go_ret
      exact ⟨ret_int (by rw [hck.out]; rfl), hU⟩
    · have d2 : ((d.length : Int) == 0) = false := by rw [beq_eq_false_iff_ne]; omega
      have d2N : (d.length == 0) = false := by rw [beq_eq_false_iff_ne]; omega
      obtain ⟨g0, o0, rfl, hg0, hrg⟩ := HROW.out (by omega)
      have HRG := Lib.hid hrg
      have hck : Hid (Domy.check (nods d) = if Domy.nodesGo 0 (nods d) ≠ 0 then Domy.nodesGo 0 (nods d) else if Domy.kidsE (nods d) ≠ 0 then Domy.kidsE (nods d) else Domy.upsGo (nods d) 0 d.length) := by
        show _ = _
        unfold Domy.check
        rw [if_neg (by rw [hpl]; omega), if_neg (by rw [hpl]; omega), hpl]
      clear hrg
      go_upto_region 6 with (fail)
      clear c0
      go_loopg [22] d.length (fun gg s22 wr => ∃ (i : Nat), i ≤ d.length ∧ d.length - i ≤ gg ∧ s22 = .int .i64 (i : Int) ∧ Hid (Below W0.heap.size W0 wr) ∧ Hid (Domy.nodesGo 0 (nods d) = Domy.nodesGo i ((nods d).drop i)))
      case atStart => exact ⟨0, Nat.zero_le _, by omega, rfl, Below.refl _ _, rfl⟩
      case round =>
        obtain ⟨i, hi, hg, rfl, BW, NG⟩ := hrel
        have hwr : Hid (Below w.heap.size w wr) := hU.trans (BW.out.mono hU.size)
        have bd := b0.below BW.out b0.lt
        by_cases hlt : i < d.length
        · have hlt2 : decide ((i : Int) < (d.length : Int)) = true := by simp; omega
          have hltz : (i : Int) < (d.length : Int) := by omega
          obtain ⟨x, hx⟩ : ∃ x, d[i]? = some x := ⟨_, List.getElem?_eq_getElem hlt⟩
          have hnr := HD.out.n x (List.mem_of_getElem? hx)
          have hrange : Hid (wr.rangeAt g0 (o0 + i * 6) (nc x).toList) := fun j u hu => by
            rw [hwr.out.cell (p := ⟨g0, o0 + i * 6 + j, none⟩) hg0]
            exact RdL.elem (k := 6) (f := nc) (fun _ => rfl) HRG.out hx j u hu
          have hos := Domy.nodes_step (nods_at hx)
          obtain ⟨b1, hb1⟩ : ∃ b, decide (x.n.kind = 1) = b := ⟨_, rfl⟩
          obtain ⟨b2, hb2⟩ : ∃ b, decide (i = 0) = b := ⟨_, rfl⟩
          obtain ⟨E, hE⟩ : ∃ E, Domy.one x.n = E := ⟨_, rfl⟩
          obtain ⟨b3, hb3⟩ : ∃ b, (b1 != b2) = b := ⟨_, rfl⟩
          rw [hb1, hb2, hb3, hE] at hos
          have HONE : Hid (∀ w', Below w.heap.size w w' → Calls Tryd.prog 32 #[.agg (nc x)] w' fun e w'' => e = .returned (.int .i64 (E : Int)) ∧ Below w'.heap.size w' w'') := fun w' h => by
            have := one_any x w' (hnr.below h)
            rw [hE] at this
            exact this
          have e1 : (x.n.kind == 1) = b1 := by rw [← hb1, beq_dec]
          have e2 : ((i : Int) == 0) = b2 := by rw [← hb2, beq_dec]; simp
          have e2N : (i == 0) = b2 := by rw [← hb2]; rfl
          have hnq := fun w => neq_bool b1 b2 w
          rw [hb3] at hnq
          have HOS := Lib.hid hos
          clear hx hnr hos hb1 hb2 hb3 hE
          go_upto_region 8 with (first | (refine wpList_load_mid rfl 32 (.tmp 25) rfl g0 (o0 + i * 6) rfl (nc x).toList _ hrange.out Tryd.underlying32 rfl info_node ?_) | (refine wpList_store_box rfl 32 (.tmp 4) (.tmp 26) rfl wr.heap.size (nc x) rfl rfl 32 _ (Box.new wr _ _) info_node rfl (nc_one x) ?_; intro w4 hx4 hu4 hz4))
          have hb4 : Below wr.heap.size wr w4 := ((Below.refl _ wr).alloc (Nat.le_refl _) _).trans (hu4.own (Nat.le_refl _) (by simp))
          have n0 := hx4.cell 0
          simp at n0
          have HB4 := Lib.hid (hwr.out.trans (hb4.mono hwr.out.size))
          have BW4 := Lib.hid (BW.out.trans (hb4.mono BW.out.size))
          clear hu4 hz4 hb4
          cases b3 with
          | true =>
            go_wp2
            go_ret
            exact ⟨ret_int (by rw [hck.out, NG.out, HOS.out]; rfl), HB4.out⟩
          | false =>
            go_wp2_with (refine wpList_load_row rfl 32 (.tmp 4) rfl wr.heap.size rfl _ (nc x) (0, 0) _ hx4 Tryd.underlying32 rfl info_node ?_)
            refine (HONE.out _ HB4.out).mono ?_
            rintro e w5 ⟨rfl, hb5⟩
            have HB5 := Lib.hid (HB4.out.trans (hb5.mono HB4.out.size))
            have BW5 := Lib.hid (BW4.out.trans (hb5.mono BW4.out.size))
            clear hb5 n0 hx4
            by_cases y3 : E = 0
            · have g3 : ((E : Int) == 0) = true := by simp [y3]
              have g3' : ((E : Int) != 0) = false := by simp [y3]
              have Y3 := Lib.hid y3
              clear y3
              go_wp2
              go_roundg (d.length - (i + 1))
              case measure => omega
              case rel => exact ⟨i + 1, by omega, by omega, by go_num, BW5.out, by show _ = _; rw [NG.out, HOS.out, if_neg (by simp), if_neg (by simp [Y3.out])]⟩
            · have g3 : ((E : Int) == 0) = false := by rw [beq_eq_false_iff_ne]; omega
              have g3' : ((E : Int) != 0) = true := by simp; omega
              have Y3 := Lib.hid y3
              clear y3
              have hne : Domy.nodesGo 0 (nods d) = E := by rw [NG.out, HOS.out, if_neg (by simp), if_pos Y3.out]
              have HNE := Lib.hid hne
              clear hne
              go_wp2
              go_ret
              exact ⟨ret_int (by rw [hck.out, HNE.out, if_pos Y3.out]), HB5.out⟩
        · have hlt2 : decide ((i : Int) < (d.length : Int)) = false := by simp; omega
          have hn0 : Hid (Domy.nodesGo 0 (nods d) = 0) := by show _ = _; rw [NG.out, List.drop_eq_nil_of_le (by omega)]; rfl
          obtain ⟨K, hK⟩ : ∃ K, Domy.kidsE (nods d) = K := ⟨_, rfl⟩
          have HK : Hid (Domy.kidsE (nods d) = K) := hK
          have HKIDS := kids_any d (.slice (some ⟨g0, o0, none⟩) d.length cap) q wr (HD.out.below hwr.out) (by omega) (by omega)
          rw [hK] at HKIDS
          have HKS := Lib.hid HKIDS
          obtain ⟨wo, rfl⟩ : ∃ wo : World, wo = wr := ⟨_, rfl⟩
          clear hK HKIDS
          go_wp2_with (refine wpList_load_row rfl 24 (.tmp 1) rfl w.heap.size rfl _ (dag (.slice (some ⟨g0, o0, none⟩) d.length cap) q) (0, 0) _ bd Tryd.underlying24 rfl info_doc ?_)
          refine (HKS.out).mono ?_
          rintro e w5 ⟨rfl, hb5⟩
          have HB5 := Lib.hid (hwr.out.trans (hb5.mono hwr.out.size))
          have bd5 := bd.below hb5 bd.lt
          clear hb5 bd
          by_cases y3 : K = 0
          · have g3 : ((K : Int) == 0) = true := by simp [y3]
            have g3' : ((K : Int) != 0) = false := by simp [y3]
            have hkz := Domy.kidsE_zero (HK.out.trans y3)
            have HPAR : Hid (∀ x ∈ d, x.n.parent < (d.length : Int)) := fun x hx => by
              have := hkz.1 x.n (List.mem_map_of_mem hx)
              rw [hpl] at this
              omega
            have hck2 : Hid (Domy.check (nods d) = Domy.upsGo (nods d) 0 d.length) := by show _ = _; rw [hck.out, hn0.out, if_neg (by simp), if_neg (by rw [HK.out, y3]; simp)]
            have cd := bd5.cell 0
            simp at cd
            clear y3 hkz
            go_upto_region 18 with (fail)
            clear cd
            go_loopg [47] d.length (fun gg s47 wr => ∃ (i : Nat), i ≤ d.length ∧ d.length - i ≤ gg ∧ s47 = .int .i64 (i : Int) ∧ Hid (Below w5.heap.size w5 wr) ∧ Hid (Domy.upsGo (nods d) 0 d.length = Domy.upsGo (nods d) i (d.length - i)))
            case atStart => exact ⟨0, Nat.zero_le _, by omega, rfl, Below.refl _ _, rfl⟩
            case round =>
              obtain ⟨j, hj, hgj, rfl, BJ, UG⟩ := hrel
              have hwj : Hid (Below w.heap.size w wr) := HB5.out.trans (BJ.out.mono HB5.out.size)
              have bdj := bd5.below BJ.out bd5.lt
              by_cases hjt : j < d.length
              · have hjt2 : decide ((j : Int) < (d.length : Int)) = true := by simp; omega
                have hup := up_any d (.slice (some ⟨g0, o0, none⟩) d.length cap) q j wr (HD.out.below hwj.out) hjt (by omega) HPAR.out
                have hst : Domy.upsGo (nods d) j (d.length - j) = if d.length < Domy.up (nods d) (j : Int) then 8 else if 40 < Domy.up (nods d) (j : Int) then 2 else Domy.upsGo (nods d) (j + 1) (d.length - (j + 1)) := by
                  rw [show d.length - j = d.length - (j + 1) + 1 by omega, Domy.upsGo, hpl]
                obtain ⟨m, hm⟩ : ∃ m, Domy.up (nods d) (j : Int) = m := ⟨_, rfl⟩
                rw [hm] at hup hst
                have HUP := Lib.hid hup
                have HST := Lib.hid hst
                clear hup hst hm
                go_wp2_with (refine wpList_load_row rfl 24 (.tmp 1) rfl w.heap.size rfl _ (dag (.slice (some ⟨g0, o0, none⟩) d.length cap) q) (0, 0) _ bdj Tryd.underlying24 rfl info_doc ?_)
                refine (HUP.out).mono ?_
                rintro e w6 ⟨rfl, hb6⟩
                have bd6 := bdj.below hb6 bdj.lt
                have HB6 := Lib.hid (hwj.out.trans (hb6.mono hwj.out.size))
                have BJ6 := Lib.hid (BJ.out.trans (hb6.mono BJ.out.size))
                clear hb6 bdj
                have cd := bd6.cell 0
                simp at cd
                by_cases y4 : d.length < m
                · have d4 : decide ((m : Int) > (d.length : Int)) = true := by simp; omega
                  have d4N : decide (d.length < m) = true := by simp; omega
                  have Y4 := Lib.hid y4
                  clear y4
                  go_wp2
                  go_ret
                  exact ⟨ret_int (by rw [hck2.out, UG.out, HST.out, if_pos Y4.out]; rfl), HB6.out⟩
                · have d4 : decide ((m : Int) > (d.length : Int)) = false := by simp; omega
                  have d4N : decide (d.length < m) = false := by simp; omega
                  have Y4 := Lib.hid y4
                  clear y4
                  by_cases y5 : 40 < m
                  · have d5 : decide ((m : Int) > 40) = true := by simp; omega
                    have d5N : decide (40 < m) = true := by simp; omega
                    have Y5 := Lib.hid y5
                    clear y5
                    go_wp2
                    go_ret
                    exact ⟨ret_int (by rw [hck2.out, UG.out, HST.out, if_neg Y4.out, if_pos Y5.out]; rfl), HB6.out⟩
                  · have d5 : decide ((m : Int) > 40) = false := by simp; omega
                    have d5N : decide (40 < m) = false := by simp; omega
                    have Y5 := Lib.hid y5
                    clear y5
                    go_wp2
                    go_roundg (d.length - (j + 1))
                    case measure => omega
                    case rel => exact ⟨j + 1, by omega, by omega, by go_num, BJ6.out, by show _ = _; rw [UG.out, HST.out, if_neg Y4.out, if_neg Y5.out]⟩
              · have hjt2 : decide ((j : Int) < (d.length : Int)) = false := by simp; omega
                go_wp2
                go_ret
                exact ⟨ret_int (by rw [hck2.out, UG.out, show d.length - j = 0 by omega]; rfl), hwj.out⟩
          · have g3 : ((K : Int) == 0) = false := by rw [beq_eq_false_iff_ne]; omega
            have g3' : ((K : Int) != 0) = true := by simp; omega
            have Y3 := Lib.hid y3
            clear y3
            go_wp2
            go_ret
            exact ⟨ret_int (by rw [hck.out, hn0.out, if_neg (by simp), HK.out, if_pos Y3.out]), HB5.out⟩
end Go.Proofs.YtdommcjlpibpeaaDoor
