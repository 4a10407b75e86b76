/-
  The kids of all nodes: walked. Conditions: the nodes read as a row; there are not more than 200.
-/
import Derived.Test.YtdommcjlpibpeaaDoorEvE
namespace Go.Proofs.YtdommcjlpibpeaaDoor
set_option linter.unusedSimpArgs false
set_option linter.unusedVariables false
open Go.RowKit

theorem kidsE_err {d : List Domy.Node} {e : Nat} (he : e ≠ 0) (h : (Domy.kidsOut d 0 (List.replicate d.length false) d).1 = e) : Domy.kidsE d = e := by
  unfold Domy.kidsE
  rw [if_pos (by rw [h]; exact he), h]
theorem kidsE_ok {d : List Domy.Node} {sn : List Bool} (h : Domy.kidsOut d 0 (List.replicate d.length false) d = (0, sn)) : Domy.kidsE d = if Domy.seenGo sn d ≠ 0 then 3 else if (d[0]?).map (·.parent) ≠ some (-1) then 3 else 0 := by
  unfold Domy.kidsE
  rw [h]
  simp
set_option maxRecDepth 100000 in
set_option maxHeartbeats 4000000 in
theorem kids_any (d : List NodeV) (v : Value) (q : Bool) (w : World) (hd : DRd w d v) (hl : d.length ≤ 200) (h0 : 0 < d.length) :
    Calls Tryd.prog 33 #[.agg (dag v q)] w fun e w' => e = .returned (.int .i64 (Domy.kidsE (nods d) : Int)) ∧ Below w.heap.size w w' := by
  have HD := Lib.hid hd
  have hpl : (nods d).length = d.length := by simp [nods]
  obtain ⟨A, cap, rfl, hc1, hc2, hrow⟩ := hd.r
  obtain ⟨g0, o0, rfl, hg0, hrg⟩ := hrow (by omega)
  have HRG := Lib.hid hrg
  have hmk := fun w => make_bools d.length (by omega) w
  clear hd hrow hrg
  go_enter Tryd.func33, Tryd.ntmps33
  go_upto_region 1 with (fail)
  have b0 := Box.new w 24 (dag (.slice (some ⟨g0, o0, none⟩) d.length cap) q)
  have hU : Below w.heap.size w (w.alloc (.cells (dag (.slice (some ⟨g0, o0, none⟩) d.length cap) q) 24)) := below1 w _
  generalize (w.alloc (.cells (dag (.slice (some ⟨g0, o0, none⟩) d.length cap) q) 24)) = W0 at *
  have c0 := b0.cell 0
  simp at c0
  go_upto_region 2 with (fail)
  have bS := Box.new W0 4 (bc (List.replicate d.length false))
  have b1 := b0.alloc (.cells (bc (List.replicate d.length false)) 4)
  have hU1 : Below w.heap.size w (W0.alloc (.cells (bc (List.replicate d.length false)) 4)) := hU.trans ((below1 W0 _).mono hU.size)
  have hzS : w.heap.size < W0.heap.size := b0.lt
  have hz1 : W0.heap.size < (W0.alloc (.cells (bc (List.replicate d.length false)) 4)).heap.size := bS.lt
  clear hmk c0 hU b0
  generalize (W0.alloc (.cells (bc (List.replicate d.length false)) 4)) = W1 at *
  have c0 := b1.cell 0
  simp at c0
  go_upto_region 3 with (fail)
  clear c0
  go_loopg [17] d.length (fun gg s17 wr => ∃ (i : Nat) (sn : List Bool), i ≤ d.length ∧ d.length - i ≤ gg ∧ s17 = .int .i64 (i : Int) ∧ sn.length = d.length ∧ Hid (Upd W1 wr W0.heap.size) ∧ Hid (Box wr W0.heap.size 4 (bc sn)) ∧ Hid (Domy.kidsOut (nods d) 0 (List.replicate (nods d).length false) (nods d) = Domy.kidsOut (nods d) i sn ((nods d).drop i)))
  case atStart => exact ⟨0, List.replicate d.length false, Nat.zero_le _, by omega, rfl, by simp, Upd.refl _ _, bS, by show _ = _; rw [hpl]; rfl⟩
  case round =>
    obtain ⟨i, sn, hi, hg, rfl, hsn, BW, BS, KO⟩ := hrel
    have bd : Box wr w.heap.size 24 (dag (.slice (some ⟨g0, o0, none⟩) d.length cap) q) := b1.grown BW.out (by intro h; injection h with h; omega)
    have hwr : Hid (Below w.heap.size w wr) := hU1.trans (Upd.own (B := w.heap.size) BW.out (by omega) (by omega))
    have hzr : W0.heap.size < wr.heap.size := by have := BW.out.size; omega
    by_cases hlt : i < d.length
    · have hlt2 : decide ((i : Int) < (d.length : Int)) = true := by simp; omega
      have hltz : (i : Int) < (d.length : Int) := by omega
      obtain ⟨x, hx⟩ : ∃ x, d[i]? = some x := ⟨_, List.getElem?_eq_getElem hlt⟩
      have hnr := HD.out.n x (List.mem_of_getElem? hx)
      have hrange : Hid (wr.rangeAt g0 (o0 + i * 6) (nc x).toList) := fun j u hu => by
        rw [hwr.out.cell (p := ⟨g0, o0 + i * 6 + j, none⟩) hg0]
        exact RdL.elem (k := 6) (f := nc) (fun _ => rfl) HRG.out hx j u hu
      have hos := kidsOut_step (d := nods d) (sn := sn) (nods_at hx)
      have HOS := Lib.hid hos
      obtain ⟨KA, kcap, hks, hk1, hk2, hk3⟩ := hnr.k
      have HKS : Hid (x.ks = .slice KA x.n.kids.length kcap) := hks
      have HK3 := Lib.hid hk3
      clear hx hnr hos hks hk3
      go_upto_region 6 with (first | (refine wpList_load_mid rfl 32 (.tmp 20) rfl g0 (o0 + i * 6) rfl (nc x).toList _ hrange.out Tryd.underlying32 rfl info_node ?_) | (refine wpList_store_box rfl 32 (.tmp 5) (.tmp 21) rfl wr.heap.size (nc x) rfl rfl 32 _ (Box.new wr _ _) info_node rfl (nc_one x) ?_; intro w4 hx4 hu4 hz4; have n5 := hx4.cell 5; simp at n5))
      have hb4 : Below wr.heap.size wr w4 := ((Below.refl _ wr).alloc (Nat.le_refl _) _).trans (hu4.own (Nat.le_refl _) (by simp))
      have BS4 := BS.out.below hb4 BS.out.lt
      have bd4 := bd.below hb4 bd.lt
      have BW4 := Lib.hid (BW.out.trans (Upd.below hb4 W0.heap.size))
      have hw4 := Lib.hid (hwr.out.trans (hb4.mono hwr.out.size))
      have hz4' := hb4.size
      clear n5 hx4 hu4 hz4 hb4 bd
      go_loopg [25] x.n.kids.length (fun gg s25 wi => ∃ (k : Nat) (sn2 : List Bool), k ≤ x.n.kids.length ∧ x.n.kids.length - k ≤ gg ∧ s25 = .int .i64 (k : Int) ∧ sn2.length = d.length ∧ Hid (Upd w4 wi W0.heap.size) ∧ Hid (Box wi W0.heap.size 4 (bc sn2)) ∧ Hid (Domy.kidsIn (nods d) i sn x.n.kids = Domy.kidsIn (nods d) i sn2 (x.n.kids.drop k)))
      case atStart => exact ⟨0, sn, Nat.zero_le _, by omega, rfl, hsn, Upd.refl _ _, BS4, rfl⟩
      case round =>
        obtain ⟨wi, rfl⟩ : ∃ wi : World, wi = wr := ⟨_, rfl⟩
        obtain ⟨k, sn2, hk, hgk, rfl, hsn2, BI, BT, KI⟩ := hrel
        have bdi : Box wi w.heap.size 24 (dag (.slice (some ⟨g0, o0, none⟩) d.length cap) q) := bd4.grown BI.out (by intro h; injection h with h; omega)
        have hwi : Hid (Below w.heap.size w wi) := hw4.out.trans (Upd.own (B := w.heap.size) BI.out (by omega) (by omega))
        have BWi := Lib.hid (BW4.out.trans BI.out)
        by_cases hkt : k < x.n.kids.length
        · have hkt2 : decide ((k : Int) < (x.n.kids.length : Int)) = true := by simp; omega
          have hktz : (k : Int) < (x.n.kids.length : Int) := by omega
          obtain ⟨y, hy⟩ : ∃ y, x.n.kids[k]? = some y := ⟨_, List.getElem?_eq_getElem hkt⟩
          obtain ⟨g1, o1, hKA, hg1, hrg1⟩ := HK3.out (by omega)
          have hxK : x.K = some ⟨g1, o1, none⟩ := by
            have h := HKS.out
            injection h with h1 _ _
            rw [h1, hKA]
          have ERR : Hid (∀ e, e ≠ 0 → (Domy.kidsIn (nods d) i sn2 (x.n.kids.drop k)).1 = e → Domy.kidsE (nods d) = e) := fun e he h => by
            refine kidsE_err he ?_
            rw [KO.out, HOS.out, KI.out, if_pos (by rw [h]; exact he), h]
          have ce := hwi.out.cell (p := ⟨g1, o1 + k, none⟩) hg1
          have ce2 := RdL.elem (k := 1) (f := ic) (fun _ => rfl) hrg1 hy 0 _ rfl
          simp only [Nat.mul_one, Nat.add_zero] at ce2
          have cell_y := ce.trans ce2
          have HY := Lib.hid hy
          have cd := bdi.cell 0
          simp at cd
          clear hrg1 ce ce2 hy hKA
          simp only [NodeV.ks, hxK]
          have HXK := Lib.hid hxK
          clear hxK
          by_cases y1 : y < 0
          · have d1 : decide (y < 0) = true := decide_eq_true y1
            go_wp2
            go_ret
            exact ⟨ret_int (by rw [ERR.out 3 (by decide) (kidsIn_err1 HY.out (.inl y1))]; rfl), hwi.out⟩
          · obtain ⟨Y, rfl⟩ : ∃ Y : Nat, y = (Y : Int) := ⟨y.toNat, by omega⟩
            have d1 : decide ((Y : Int) < 0) = false := by simp
            clear y1
            by_cases y2 : d.length ≤ Y
            · have d2 : decide ((Y : Int) ≥ (d.length : Int)) = true := by simp; omega
              have d2N : decide (d.length ≤ Y) = true := by simp; omega
              go_wp2
              go_ret
              exact ⟨ret_int (by rw [ERR.out 3 (by decide) (kidsIn_err1 HY.out (.inr (.inl (by rw [hsn2]; omega))))]; rfl), hwi.out⟩
            · have d2 : decide ((Y : Int) ≥ (d.length : Int)) = false := by simp; omega
              have d2N : decide (d.length ≤ Y) = false := by simp; omega
              have hYz : (Y : Int) < (d.length : Int) := by omega
              obtain ⟨z, hz⟩ : ∃ z, d[Y]? = some z := ⟨_, List.getElem?_eq_getElem (by omega)⟩
              obtain ⟨b, hb⟩ : ∃ b, sn2[Y]? = some b := ⟨_, List.getElem?_eq_getElem (by omega)⟩
              have hel := RdL.elem (k := 6) (f := nc) (fun _ => rfl) HRG.out hz
              have p0 := (hwi.out.cell (p := ⟨g0, o0 + Y * 6, none⟩) hg0).trans (hel 0 _ rfl)
              have p4 := (hwi.out.cell (p := ⟨g0, o0 + Y * 6 + 4, none⟩) hg0).trans (hel 4 _ rfl)
              have sY : wi.cell? ⟨W0.heap.size, Y, none⟩ = some (.bool b) := (BT.out.cell Y).trans (bc_at _ _ _ hb)
              have fY := BT.out.frozen Y
              have hzn := nods_at hz
              have HZN := Lib.hid hzn
              have HB2 := Lib.hid hb
              clear hz hel hzn hb
              by_cases y3 : z.n.parent = (i : Int)
              · have d3 : (z.n.parent != (i : Int)) = false := by simp [y3]
                have Y3 := Lib.hid y3
                clear y3
                cases b with
                | true =>
                  go_wp2
                  go_ret
                  exact ⟨ret_int (by rw [ERR.out 3 (by decide) (kidsIn_err1 HY.out (.inr (.inr (.inr (by rw [Int.toNat_natCast]; exact HB2.out)))))]; rfl), hwi.out⟩
                | false =>
                  have HNO : Hid (¬ ((Y : Int) < 0 ∨ (sn2.length : Int) ≤ (Y : Int) ∨ (((nods d)[(Y : Int).toNat]?).map (·.parent)) ≠ some (i : Int) ∨ sn2[(Y : Int).toNat]? = some true)) := by
                    rintro (h | h | h | h)
                    · omega
                    · omega
                    · rw [Int.toNat_natCast, HZN.out] at h; exact h (by simp [Y3.out])
                    · rw [Int.toNat_natCast, HB2.out] at h; cases h
                  by_cases y4 : i = 0
                  · have d4 : ((i : Int) == 0) = true := by simp [y4]
                    have d4N : (i == 0) = true := by simp [y4]
                    have Y4 := Lib.hid y4
                    clear y4
                    by_cases y5 : z.n.kind = 3
                    · have d5 : (z.n.kind == 3) = true := by simp [y5]
                      have Y5 := Lib.hid y5
                      clear y5
                      go_wp2
                      go_ret
                      exact ⟨ret_int (by rw [ERR.out 7 (by decide) (kidsIn_err2 HY.out HNO.out ⟨Y4.out, by rw [Int.toNat_natCast, HZN.out]; simp [Y5.out]⟩)]; rfl), hwi.out⟩
                    · have d5 : (z.n.kind == 3) = false := by simp [y5]
                      have Y5 := Lib.hid y5
                      clear y5
                      have hgo := Lib.hid (kidsIn_go HY.out HNO.out (fun h => Y5.out (by have := h.2; rw [Int.toNat_natCast, HZN.out] at this; simpa using this)))
                      go_wp2
                      rw [← HXK.out]
                      go_roundg (x.n.kids.length - (k + 1))
                      case measure => omega
                      case rel =>
                        refine ⟨k + 1, sn2.set Y true, by omega, by omega, by go_num, by simpa using hsn2, BI.out.set (p := ⟨W0.heap.size, Y, none⟩) (.inl rfl) (.bool true), ?_, ?_⟩
                        · show Box _ _ _ _
                          have := BT.out.set Y (.bool true)
                          rw [bc_set] at this
                          exact this
                        · show _ = _
                          rw [KI.out, hgo.out, Int.toNat_natCast]
                  · have d4 : ((i : Int) == 0) = false := by rw [beq_eq_false_iff_ne]; omega
                    have d4N : (i == 0) = false := by simp [y4]
                    have Y4 := Lib.hid y4
                    clear y4
                    have hgo := Lib.hid (kidsIn_go HY.out HNO.out (fun h => Y4.out h.1))
                    go_wp2
                    rw [← HXK.out]
                    go_roundg (x.n.kids.length - (k + 1))
                    case measure => omega
                    case rel =>
                      refine ⟨k + 1, sn2.set Y true, by omega, by omega, by go_num, by simpa using hsn2, BI.out.set (p := ⟨W0.heap.size, Y, none⟩) (.inl rfl) (.bool true), ?_, ?_⟩
                      · show Box _ _ _ _
                        have := BT.out.set Y (.bool true)
                        rw [bc_set] at this
                        exact this
                      · show _ = _
                        rw [KI.out, hgo.out, Int.toNat_natCast]
              · have d3 : (z.n.parent != (i : Int)) = true := by simpa using y3
                have Y3 := Lib.hid y3
                clear y3
                go_wp2
                go_ret
                exact ⟨ret_int (by rw [ERR.out 3 (by decide) (kidsIn_err1 HY.out (.inr (.inr (.inl (by rw [Int.toNat_natCast, HZN.out]; simpa using Y3.out)))))]; rfl), hwi.out⟩
        · have hkt2 : decide ((k : Int) < (x.n.kids.length : Int)) = false := by simp; omega
          have hend : Hid (Domy.kidsIn (nods d) i sn x.n.kids = (0, sn2)) := by show _ = _; rw [KI.out, List.drop_eq_nil_of_le (by omega)]; rfl
          go_wp2
          go_roundg (d.length - (i + 1))
          case measure => omega
          case rel =>
            refine ⟨i + 1, sn2, by omega, by omega, by go_num, hsn2, BWi.out, BT.out, ?_⟩
            show _ = _
            rw [KO.out, HOS.out, hend.out]
            simp
    · have hlt2 : decide ((i : Int) < (d.length : Int)) = false := by simp; omega
      have KE : Hid (Domy.kidsE (nods d) = if Domy.seenGo sn (nods d) ≠ 0 then 3 else if ((nods d)[0]?).map (·.parent) ≠ some (-1) then 3 else 0) := by
        show _ = _
        refine kidsE_ok ?_
        rw [KO.out, List.drop_eq_nil_of_le (by omega)]; rfl
      obtain ⟨wo, rfl⟩ : ∃ wo : World, wo = wr := ⟨_, rfl⟩
      have cd := bd.cell 0
      simp at cd
      go_upto_region 16 with (fail)
      clear cd
      go_loopg [74] d.length (fun gg s74 wr => ∃ (j : Nat), j ≤ d.length ∧ d.length - j ≤ gg ∧ s74 = .int .i64 (j : Int) ∧ Hid (Below wo.heap.size wo wr) ∧ Hid (Domy.seenGo sn (nods d) = Domy.seenGo (sn.drop j) ((nods d).drop j)))
      case atStart => exact ⟨0, Nat.zero_le _, by omega, rfl, Below.refl _ _, rfl⟩
      case round =>
        obtain ⟨j, hj, hgj, rfl, BJ, SG⟩ := hrel
        have hwj : Hid (Below w.heap.size w wr) := hwr.out.trans (BJ.out.mono hwr.out.size)
        have BSj := BS.out.below BJ.out BS.out.lt
        have bdj := bd.below BJ.out bd.lt
        by_cases hjt : j < d.length
        · have hjt2 : decide ((j : Int) < (d.length : Int)) = true := by simp; omega
          have hjtz : (j : Int) < (d.length : Int) := by omega
          obtain ⟨x, hx⟩ : ∃ x, d[j]? = some x := ⟨_, List.getElem?_eq_getElem hjt⟩
          obtain ⟨b, hb⟩ : ∃ b, sn[j]? = some b := ⟨_, List.getElem?_eq_getElem (by omega)⟩
          have hrange : Hid (wr.rangeAt g0 (o0 + j * 6) (nc x).toList) := fun t u hu => by
            rw [hwj.out.cell (p := ⟨g0, o0 + j * 6 + t, none⟩) hg0]
            exact RdL.elem (k := 6) (f := nc) (fun _ => rfl) HRG.out hx t u hu
          have hst := seen_step (nods_at hx) hb
          have HST := Lib.hid hst
          have sj0 : wr.cell? ⟨W0.heap.size, j, none⟩ = some (.bool b) := (BSj.cell j).trans (bc_at _ _ _ hb)
          clear hx hb hst
          go_upto_region 18 with (first | (refine wpList_load_mid rfl 32 (.tmp 77) rfl g0 (o0 + j * 6) rfl (nc x).toList _ hrange.out Tryd.underlying32 rfl info_node ?_) | (refine wpList_store_box rfl 32 (.tmp 9) (.tmp 78) rfl wr.heap.size (nc x) rfl rfl 32 _ (Box.new wr _ _) info_node rfl (nc_one x) ?_; intro w4 hx4 hu4 hz4))
          have hb4 : Below wr.heap.size wr w4 := ((Below.refl _ wr).alloc (Nat.le_refl _) _).trans (hu4.own (Nat.le_refl _) (by simp))
          have sj : w4.cell? ⟨W0.heap.size, j, none⟩ = some (.bool b) := (hb4.cell (p := ⟨W0.heap.size, j, none⟩) BSj.lt).trans sj0
          have n4 := hx4.cell 4
          simp at n4
          have BJ4 := Lib.hid (BJ.out.trans (hb4.mono BJ.out.size))
          have HB4 := Lib.hid (hwj.out.trans (hb4.mono hwj.out.size))
          clear hx4 hu4 hz4 hb4 sj0
          by_cases y1 : x.n.parent = -1
          · have d1 : (x.n.parent != -1) = false := by simp [y1]
            have Y1 := Lib.hid y1
            clear y1
            go_wp2
            go_roundg (d.length - (j + 1))
            case measure => omega
            case rel => exact ⟨j + 1, by omega, by omega, by go_num, BJ4.out, by show _ = _; rw [SG.out, HST.out, if_neg (fun h => h.1 Y1.out)]⟩
          · have d1 : (x.n.parent != -1) = true := by simpa using y1
            have Y1 := Lib.hid y1
            clear y1
            cases b with
            | true =>
              go_wp2
              go_roundg (d.length - (j + 1))
              case measure => omega
              case rel => exact ⟨j + 1, by omega, by omega, by go_num, BJ4.out, by show _ = _; rw [SG.out, HST.out, if_neg (fun h => by cases h.2)]⟩
            | false =>
              go_wp2
              go_ret
              have hs3 : Domy.seenGo sn (nods d) = 3 := by rw [SG.out, HST.out, if_pos ⟨Y1.out, by simp⟩]
              exact ⟨ret_int (by rw [KE.out, hs3]; rfl), HB4.out⟩
        · have hjt2 : decide ((j : Int) < (d.length : Int)) = false := by simp; omega
          have hs0 : Hid (Domy.seenGo sn (nods d) = 0) := by show _ = _; rw [SG.out, show sn.drop j = [] from List.drop_eq_nil_of_le (by omega)]; rfl
          obtain ⟨x, hx⟩ : ∃ x, d[0]? = some x := ⟨_, List.getElem?_eq_getElem h0⟩
          have p4 := (hwj.out.cell (p := ⟨g0, o0 + 4, none⟩) hg0).trans (by have := RdL.elem (k := 6) (f := nc) (fun _ => rfl) HRG.out hx 4 _ rfl; simpa using this)
          have hn0 := Lib.hid (nods_at hx)
          have cd := bdj.cell 0
          simp at cd
          have h0z : (0 : Int) < (d.length : Int) := by omega
          clear hx
          by_cases y1 : x.n.parent = -1
          · have d1 : (x.n.parent != -1) = false := by simp [y1]
            have Y1 := Lib.hid y1
            clear y1
            go_wp2
            go_ret
            exact ⟨ret_int (by rw [KE.out, hs0.out, hn0.out]; simp [Y1.out]), hwj.out⟩
          · have d1 : (x.n.parent != -1) = true := by simpa using y1
            have Y1 := Lib.hid y1
            clear y1
            go_wp2
            go_ret
            exact ⟨ret_int (by rw [KE.out, hs0.out, hn0.out]; simp [Y1.out]), hwj.out⟩
end Go.Proofs.YtdommcjlpibpeaaDoor
