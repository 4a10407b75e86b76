/-
  The walk of the law of blanks, where the text can be read. Conditions: the library's table lies where it lies.
-/
import Derived.Test.YtgeaphapnoiniaaDoorJlW
import Derived.Lib.IndexAny
namespace Go.Proofs.YtgeaphapnoiniaaDoor
open Go.RowKit

theorem bu_lt {T e : TypeId} {B b : Nat} {bs : List Value} {w : World} (h : Lib.IsBuilder T e B b bs w) : b < w.heap.size := by
  rcases h with h | h
  · exact h.lt
  · exact h.lt

set_option maxRecDepth 100000 in
set_option maxHeartbeats 4000000 in
theorem blanks_yes (s : ByteArray) (ts : List Lexy.Tok) (hs : s.size ≤ 200) (hr : Lexy.toks s.data.toList = .ok ts) (w : World) (he : Env w) (h4 : 4 ≤ w.heap.size) :
    Calls Tryd.prog 6 #[.string s] w fun e w' => e = .returned (.bool true) ∧ Below w.heap.size w w' := by
  have HTK := tokens_any s w he h4 (by omega)
  rw [hr] at HTK
  obtain ⟨l, hl⟩ : ∃ l, s.data.toList = l := ⟨_, rfl⟩
  have hsz : l.length = s.size := by rw [← hl]; simp
  obtain ⟨hlex, hts, hl2⟩ := toks_ok hr
  have HT := Lib.hid HTK
  have HL := Lib.hid hl
  have HS := Lib.hid hsz
  obtain ⟨D, hD⟩ : ∃ D, Lexy.wide true 0 s.data.toList ts = D := ⟨_, rfl⟩
  have hdl := Lexy.wide_len hlex true
  rw [hD] at hdl
  have HDL : Hid (D.length ≤ 10000) := Lib.hid (by rw [hl, hsz] at hdl; omega)
  have HTW := Lib.hid (fun hw => Lexy.toks_wide hlex hts (by rw [hD]; exact hw))
  have hlen200 : decide ((200 : Int) < (s.size : Int)) = false := by simp; omega
  rw [hl] at hlex hD
  have HLX := Lib.hid hlex
  have HD := Lib.hid hD
  have HWX : Hid WX2 := Lib.hid wx2
  clear HTK hl hsz hlex hdl hD hr hl2
  go_enter Tryd.func6, Tryd.ntmps6
  go_wp2_with (fail)
  refine HT.out.mono ?_
  rintro e w1 ⟨A, cap, rfl, hown, hb1⟩
  have he1 := he.below hb1 h4
  have hz1 := hb1.size
  go_wp2_with (fail)
  refine (lives_true w1 he1 (by omega)).mono ?_
  rintro e w2 ⟨rfl, hb2⟩
  have hown2 := own_below hown hb2
  have he2 := he1.below hb2 (by omega)
  have hz2 := hb2.size
  go_wp2_with (fail)
  have hb12 : Below w.heap.size w w2 := hb1.trans (hb2.mono hz1)
  go_loopg [6, 31] ts.length (fun g a i wr => ∃ (j p : Nat) (acc : Lexy.Bs), g = ts.length - j ∧ j ≤ ts.length ∧ p ≤ s.size ∧ i = .int .i64 (j : Int) ∧ a = .int .i64 (p : Int) ∧ Below w2.heap.size w2 wr ∧ Lib.IsBuilder 36 5 w2.heap.size w2.heap.size (Lib.byteCells acc) wr ∧ (j = 0 ↔ p = 0) ∧
    Hid (Lexy.Lex p (l.drop p) (ts.drop j)) ∧ Hid (acc ++ Lexy.wide (decide (j = 0)) p (l.drop p) (ts.drop j) = D))
  case atStart => exact ⟨0, 0, [], by simp, by omega, by omega, rfl, rfl, (Below.refl _ w2).alloc (Nat.le_refl _) _, Lib.fresh_isBuilder _ _ w2, by simp, by simpa using HLX, by simpa using HD⟩
  case round =>
    obtain ⟨j, p, acc, hg, hj, hp, rfl, rfl, hbr, hbu, hjp, H, HW⟩ := hrel
    have HG := Lib.hid hg
    have HJP := Lib.hid hjp
    clear hg hjp
    have hacc : Hid (acc.length ≤ 10000) := Lib.hid (by have := congrArg List.length HW.out; rw [List.length_append] at this; have := HDL.out; omega)
    have hz3 := hbr.size
    by_cases hjt : j < ts.length
    · obtain ⟨x, hx⟩ : ∃ x, ts[j]? = some x := ⟨_, List.getElem?_eq_getElem hjt⟩
      have hd : ts.drop j = x :: ts.drop (j + 1) := by
        obtain ⟨h1, h2⟩ := List.getElem?_eq_some_iff.1 hx
        rw [List.drop_eq_getElem_cons h1, h2]
      have hst := H.out
      rw [hd] at hst
      have hdl : (l.drop p).length = s.size - p := by rw [List.length_drop, HS.out]
      obtain ⟨b1, b2, b3, _, _, hnext⟩ := Lexy.lex_step hst (by rw [hdl]; have := HS.out; omega)
      rw [hdl] at b3
      obtain ⟨g, rfl, hg1, hg2, hc⟩ := own_cells hown2 (by omega)
      have hrange : Hid (wr.rangeAt g (j * 5) (tokC x.toTk x.lo x.hi).toList) := by
        intro i v hv
        have hi : (tokCells ts)[j * 5 + i]? = some v := tokCells_at ts j x hx i v hv
        rw [hbr.cell (p := ⟨g, j * 5 + i, none⟩) hg2]
        exact hc _ _ hi
      have hl1 : decide ((j : Int) < (ts.length : Int)) = true := by simp; omega
      have hs1 := slice_of s p x.lo b1 (by omega)
      have hs2 := slice_of s x.lo x.hi (by omega) (by omega)
      obtain ⟨G, hG⟩ : ∃ G, s.extract p x.lo = G := ⟨_, rfl⟩
      obtain ⟨O, hO⟩ : ∃ O, s.extract x.lo x.hi = O := ⟨_, rfl⟩
      rw [hG] at hs1
      rw [hO] at hs2
      have hGl : G.data.toList = (l.drop p).take (x.lo - p) := by rw [← hG, ← HL.out]; simp
      have hOl : O.data.toList = ((l.drop p).drop (x.lo - p)).take (x.hi - x.lo) := by
        rw [← hO, ← HL.out, List.drop_drop, show p + (x.lo - p) = x.lo by omega]; simp
      have HNX : Hid (Lexy.Lex x.hi (l.drop x.hi) (ts.drop (j + 1))) := by
        rw [List.drop_drop, show p + (x.hi - p) = x.hi by omega] at hnext; exact hnext
      have HW2 : Hid (acc ++ (G.data.toList ++ (Lexy.so (decide (j = 0)) G.data.toList ++ (O.data.toList ++ Lexy.wide false x.hi (l.drop x.hi) (ts.drop (j + 1))))) = D) := by
        have h := HW.out
        rw [hd] at h
        rw [hGl, hOl]
        unfold Lexy.wide at h
        have e : (l.drop p).drop (x.hi - p) = l.drop x.hi := by rw [List.drop_drop, show p + (x.hi - p) = x.hi by omega]
        rw [e] at h
        exact h
      have hGz : Hid (G.size ≤ 1000) := Lib.hid (by rw [← hG]; simp; omega)
      have hOz : Hid (O.size ≤ 1000) := Lib.hid (by rw [← hO]; simp; omega)
      clear hx hd hst hdl hnext hc hG hO hGl hOl
      go_wp2_with (first | (refine wpList_load_mid rfl 28 (.tmp 33) rfl g (j * 5) rfl (tokC x.toTk x.lo x.hi).toList _ hrange.out Tryd.underlying28 rfl info_tok5 ?_) | (refine wpList_store_box rfl 28 (.tmp 8) (.tmp 34) rfl wr.heap.size (tokC x.toTk x.lo x.hi) rfl rfl 28 _ (Box.new wr _ _) info_tok5 rfl (tokC_one _ _ _) ?_; intro w4 hx4 hu4 hz4; have q0 := hx4.cell 0; have q1 := hx4.cell 1; have q2 := hx4.cell 2; have q3 := hx4.cell 3; have q4 := hx4.cell 4; simp [tokC] at q0 q1 q2 q3 q4))
      have hblt := bu_lt hbu
      have hb4 : Below wr.heap.size wr w4 := ((Below.refl _ wr).alloc (Nat.le_refl _) _).trans (hu4.own (Nat.le_refl _) (by simp))
      have hbu4 := bu_below hbu hb4
      have hz40 := hb4.size
      refine (HWX.out _ _ acc G w4 hbu4 (by have := hacc.out; omega) (by have := hGz.out; omega) (by omega)).mono ?_
      rintro e w5 ⟨⟨v5, rfl⟩, hbu5, hb5, hst5⟩
      have hx5 := hst5 _ _ _ hx4 (by decide) (by omega)
      clear hst5 q0 q1 q2 q3 q4
      have q0 := hx5.cell 0; have q1 := hx5.cell 1; have q2 := hx5.cell 2
      simp [tokC] at q0 q1 q2
      have hbr5 : Below w2.heap.size w2 w5 := (hbr.trans (hb4.mono hz3)).trans hb5
      have hz5 := hbr5.size
      by_cases hj0 : j = 0
      · have hp0 : p = 0 := HJP.out.1 hj0
        have hpg : decide (0 < p) = false := by simp; omega
        have HSO : Hid (Lexy.so (decide (j = 0)) G.data.toList = []) := Lib.hid (by simp [Lexy.so, hj0])
        clear hj0 hp0
        go_wp2_with (fail)
        refine (HWX.out _ _ (acc ++ G.data.toList) O w5 hbu5 (by have := hacc.out; have := hGz.out; simp; omega) (by have := hOz.out; omega) (by omega)).mono ?_
        rintro e w7 ⟨⟨v7, rfl⟩, hbu7, hb7, hst7⟩
        have hx7 := hst7 _ _ _ hx5 (by decide) (by omega)
        clear hst7 q0 q1 q2
        have q2 := hx7.cell 2
        simp [tokC] at q2
        have hbr7 : Below w2.heap.size w2 w7 := hbr5.trans hb7
        go_wp2_with (fail)
        go_roundg (ts.length - (j + 1))
        case measure => rw [HG.out]; omega
        case rel => exact ⟨j + 1, x.hi, (acc ++ G.data.toList) ++ O.data.toList, rfl, by omega, by omega, by go_num, rfl, hbr7, hbu7, by omega, HNX, by have h := HW2.out; rw [HSO.out] at h; have e : decide (j + 1 = 0) = false := rfl; rw [e, ← h]; exact Lib.hid (by simp)⟩
      · have hpp : p ≠ 0 := fun e => hj0 (HJP.out.2 e)
        have hpg : decide (0 < p) = true := by simp; omega
        have HCT0 := fun w => Tryd.strings_Contains_one G 47 w
        rw [show decide (0 ≤ Lib.indexByte G.data.toList 47) = G.data.toList.contains 47 from (Lib.contains_iff_indexByte _ _).symm] at HCT0
        obtain ⟨k, hk⟩ : ∃ k, G.data.toList.contains 47 = k := ⟨_, rfl⟩
        rw [hk] at HCT0
        have HCT := Lib.hid HCT0
        have HSO : Hid (Lexy.so (decide (j = 0)) G.data.toList = if k = true then [] else Lexy.SO) := by unfold Lexy.so; rw [hk, decide_eq_false hj0]; cases k <;> exact Lib.hid rfl
        clear HCT0 hk hj0 hpp
        go_wp2_with (fail)
        refine (HCT.out _).mono ?_
        rintro e w55 ⟨rfl, hw55⟩
        subst hw55
        cases k
        · have HSO2 : Hid (Lexy.so (decide (j = 0)) G.data.toList = Lexy.SO) := HSO.out
          clear HSO
          go_wp2_with (fail)
          refine (HWX.out _ _ (acc ++ G.data.toList) ⟨#[32, 9, 47, 47, 32, 115, 111, 10]⟩ w55 hbu5 (by have := hacc.out; have := hGz.out; simp; omega) (by decide) (by omega)).mono ?_
          rintro e w6 ⟨⟨v6, rfl⟩, hbu6, hb6, hst6⟩
          have hx6 := hst6 _ _ _ hx5 (by decide) (by omega)
          clear hst6 q0 q1 q2
          have q0 := hx6.cell 0; have q1 := hx6.cell 1; have q2 := hx6.cell 2
          simp [tokC] at q0 q1 q2
          have hbr6 : Below w2.heap.size w2 w6 := hbr5.trans hb6
          have hz6 := hbr6.size
          go_wp2_with (fail)
          refine (HWX.out _ _ (acc ++ G.data.toList ++ Lexy.SO) O w6 hbu6 (by have := hacc.out; have := hGz.out; have : Lexy.SO.length = 8 := rfl; simp; omega) (by have := hOz.out; omega) (by omega)).mono ?_
          rintro e w7 ⟨⟨v7, rfl⟩, hbu7, hb7, hst7⟩
          have hx7 := hst7 _ _ _ hx6 (by decide) (by omega)
          clear hst7 q0 q1 q2
          have q2 := hx7.cell 2
          simp [tokC] at q2
          have hbr7 : Below w2.heap.size w2 w7 := hbr6.trans hb7
          go_wp2_with (fail)
          go_roundg (ts.length - (j + 1))
          case measure => rw [HG.out]; omega
          case rel => exact ⟨j + 1, x.hi, (acc ++ G.data.toList ++ Lexy.SO) ++ O.data.toList, rfl, by omega, by omega, by go_num, rfl, hbr7, hbu7, by omega, HNX, by have h := HW2.out; rw [HSO2.out] at h; have e : decide (j + 1 = 0) = false := rfl; rw [e, ← h]; exact Lib.hid (by simp)⟩
        · have HSO2 : Hid (Lexy.so (decide (j = 0)) G.data.toList = []) := HSO.out
          clear HSO
          go_wp2_with (fail)
          refine (HWX.out _ _ (acc ++ G.data.toList) O w55 hbu5 (by have := hacc.out; have := hGz.out; simp; omega) (by have := hOz.out; omega) (by omega)).mono ?_
          rintro e w7 ⟨⟨v7, rfl⟩, hbu7, hb7, hst7⟩
          have hx7 := hst7 _ _ _ hx5 (by decide) (by omega)
          clear hst7 q0 q1 q2
          have q2 := hx7.cell 2
          simp [tokC] at q2
          have hbr7 : Below w2.heap.size w2 w7 := hbr5.trans hb7
          go_wp2_with (fail)
          go_roundg (ts.length - (j + 1))
          case measure => rw [HG.out]; omega
          case rel => exact ⟨j + 1, x.hi, (acc ++ G.data.toList) ++ O.data.toList, rfl, by omega, by omega, by go_num, rfl, hbr7, hbu7, by omega, HNX, by have h := HW2.out; rw [HSO2.out] at h; have e : decide (j + 1 = 0) = false := rfl; rw [e, ← h]; exact Lib.hid (by simp)⟩
    · have hl1 : decide ((j : Int) < (ts.length : Int)) = false := by simp; omega
      have hja : ts.drop j = [] := List.drop_eq_nil_of_le (by omega)
      have hDa : acc = D := by have h := HW.out; rw [hja] at h; simpa [Lexy.wide] using h
      subst hDa
      clear hja HW H
      have HLN := Lib.hid (Tryd.Builder_Len w2.heap.size w2.heap.size (Lib.byteCells acc) wr hbu)
      have HLN2 : Hid (Calls Tryd.prog 13 #[.pointer (some ⟨w2.heap.size, 0, none⟩)] wr fun e w' => e = .returned (.int .i64 (acc.length : Int)) ∧ w' = wr) := by
        have h := HLN.out
        rw [Lib.byteCells_length] at h
        exact h
      clear HLN
      go_wp2_with (fail)
      refine (HLN2.out).mono ?_
      rintro e w4 ⟨rfl, rfl⟩
      by_cases hlong : 2000 < acc.length
      · have hlg : (2000 : Int) < (acc.length : Int) := by omega
        go_wp2
        go_ret
        exact ⟨rfl, hb12.trans (hbr.mono (by omega))⟩
      · have hlg : (acc.length : Int) ≤ 2000 := by omega
        obtain ⟨ts2, htk, hmap⟩ := HTW.out (by omega)
        rw [HL.out, HD.out] at htk
        have hlen2 : ts2.length = ts.length := by have := congrArg List.length hmap; simpa using this
        have HMAP := Lib.hid hmap
        have HTK3 : Hid (∀ w5, Env w5 → 4 ≤ w5.heap.size → Calls Tryd.prog 7 #[.string ⟨acc.toArray⟩] w5 fun e w' => TokOut w5 (.ok ts2) e w') := by
          intro w5 he5 h45
          have h := tokens_any ⟨acc.toArray⟩ w5 he5 h45 (by simp [ByteArray.size]; omega)
          rwa [show (⟨acc.toArray⟩ : ByteArray).data.toList = acc from rfl, htk] at h
        have HLEN := Lib.hid hlen2
        have HST := Lib.hid (Tryd.Builder_String_any w2.heap.size w2.heap.size acc w4 hbu (by omega))
        clear hmap htk hlen2 hlong
        go_wp2_with (fail)
        refine (HST.out).mono ?_
        rintro e w5 ⟨rfl, hb5⟩
        have hbr5 : Below w2.heap.size w2 w5 := hbr.trans hb5
        have hz5 := hbr5.size
        go_wp2_with (fail)
        refine (HTK3.out _ (he2.below hbr5 (by omega)) (by omega)).mono ?_
        rintro e w6 ⟨A3, c3, rfl, hown3, hb6⟩
        rw [HLEN.out] at hown3 ⊢
        have hbr6 : Below w2.heap.size w2 w6 := hbr5.trans (hb6.mono hz5)
        have hz6 := hbr6.size
        go_wp2_with (fail)
        go_loopg [81] ts.length (fun g i wv => ∃ (k : Nat), g = ts.length - k ∧ k ≤ ts.length ∧ i = .int .i64 (k : Int) ∧ ∃ n, wv = w6.drewN n)
        case atStart => exact ⟨0, by simp, by omega, rfl, 0, rfl⟩
        case round =>
          obtain ⟨k, hgk, hk, rfl, nd, rfl⟩ := hrel
          have HGK := Lib.hid hgk
          clear hgk
          by_cases hkt : k < ts.length
          · obtain ⟨x, hx⟩ : ∃ x, ts[k]? = some x := ⟨_, List.getElem?_eq_getElem hkt⟩
            obtain ⟨y, hy⟩ : ∃ y, ts2[k]? = some y := ⟨_, List.getElem?_eq_getElem (by have := HLEN.out; omega)⟩
            have hxy : y.toTk = x.toTk := by
              have h := congrArg (fun q => q[k]?) HMAP.out
              simp only [List.getElem?_map, hx, hy, Option.map_some] at h
              injection h
            obtain ⟨g2, rfl, hg2a, hg2b, hc2⟩ := own_cells hown2 (by omega)
            obtain ⟨g3, rfl, hg3a, hg3b, hc3⟩ := own_cells hown3 (by omega)
            have cx := fun i v hv => hc2 _ _ (tokCells_at ts k x hx i v hv)
            have cy := fun i v hv => hc3 _ _ (tokCells_at ts2 k y hy i v hv)
            have p0 : w6.cell? ⟨g2, k * 5, none⟩ = some (.int .i64 (x.kind : Int)) := by rw [hbr6.cell (p := ⟨g2, k * 5, none⟩) hg2b]; exact cx 0 _ rfl
            have p3 : w6.cell? ⟨g2, k * 5 + 3, none⟩ = some (.string (bytes x.text)) := by rw [hbr6.cell (p := ⟨g2, k * 5 + 3, none⟩) hg2b]; exact cx 3 _ rfl
            have p4 : w6.cell? ⟨g2, k * 5 + 4, none⟩ = some (.int .i64 (x.num : Int)) := by rw [hbr6.cell (p := ⟨g2, k * 5 + 4, none⟩) hg2b]; exact cx 4 _ rfl
            have r0 : w6.cell? ⟨g3, k * 5, none⟩ = some (.int .i64 (x.kind : Int)) := by rw [← hxy]; exact cy 0 _ rfl
            have r3 : w6.cell? ⟨g3, k * 5 + 3, none⟩ = some (.string (bytes x.text)) := by rw [← hxy]; exact cy 3 _ rfl
            have r4 : w6.cell? ⟨g3, k * 5 + 4, none⟩ = some (.int .i64 (x.num : Int)) := by rw [← hxy]; exact cy 4 _ rfl
            have hl2 : decide ((k : Int) < (ts.length : Int)) = true := by simp; omega
            have hk0 : (0 : Int) ≤ (k : Int) := by omega
            have hk1 : (k : Int) < (ts.length : Int) := by omega
            clear hx hy hxy hc2 hc3 cx cy hl1
            go_wp2
            go_quiet (fail)
            go_wp2
            go_roundg (ts.length - (k + 1))
            case measure => rw [HGK.out]; omega
            case rel => exact ⟨k + 1, rfl, by omega, by go_num, _, rfl⟩
          · have hl2 : decide ((k : Int) < (ts.length : Int)) = false := by simp; omega
            go_wp2
            go_ret
            exact ⟨rfl, hb12.trans (below_drewN (hbr6.mono (by omega)) _)⟩
end Go.Proofs.YtgeaphapnoiniaaDoor
