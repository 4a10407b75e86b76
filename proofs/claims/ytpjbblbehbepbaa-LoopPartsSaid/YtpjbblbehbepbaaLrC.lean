/-
  LoopParts returns true. Conditions: the asks read as a list; both numbers are of 64 bits.
-/
import Derived.Test.YtpjbblbehbepbaaLqA
import Derived.Test.YtpjbblbehbepbaaLqM
import Derived.Test.YtpjbblbehbepbaaLoopM
namespace Go.Proofs.Ytpjbblbehbepbaa
set_option linter.unusedSimpArgs false
set_option linter.unusedVariables false
open Go.RowKit

theorem asks_own {w : World} {B : Nat} {v : Value} {l m : List Loopy.Ask} {n : Nat} (hn : n = (l ++ m).length) (h : w.ownsRow B 35 7 v n (flat ac l ++ flat ac m)) : ARd w (l ++ m) v := by
  subst hn
  rw [← flat_append] at h
  exact Rd.own h

set_option maxRecDepth 100000 in
set_option maxHeartbeats 8000000 in
theorem parts_walk (l : List Loopy.Ask) (a b : Int) (v : Value) (w : World) (hv : ARd w l v) (za : -9223372036854775808 ≤ a ∧ a ≤ 9223372036854775807) (zb : -9223372036854775808 ≤ b ∧ b ≤ 9223372036854775807) :
    Calls Try.prog 7 #[v, .int .i64 a, .int .i64 b] w fun e w' => e = .returned (.bool true) ∧ Below w.heap.size w w' := by
  obtain ⟨i0, hi0, hz0, hz1, hz2⟩ := info_parts parts_ask
  have HV := Lib.hid hv
  obtain ⟨A, cap, rfl, hc1, hc2, _⟩ := hv
  go_enter Try.func7, Try.ntmps7
  by_cases x0 : a < 0
  · have d0 : decide (a < 0) = true := decide_eq_true x0
    go_wp2_with (fail)
    refine (loopLives_true _).mono ?_
    rintro e w1 ⟨rfl, hb1⟩
    have HB1 := Lib.hid hb1
    clear hb1
    go_wp2_with (fail)
    refine (loopLives_true _).mono ?_
    rintro e w2 ⟨rfl, hb2⟩
    go_wp2
    go_ret
    exact ⟨rfl, HB1.out.trans (hb2.mono HB1.out.size)⟩
  · have d0 : decide (a < 0) = false := decide_eq_false x0
    by_cases x1 : b < 0
    · have d1 : decide (b < 0) = true := decide_eq_true x1
      go_wp2_with (fail)
      refine (loopLives_true _).mono ?_
      rintro e w1 ⟨rfl, hb1⟩
      have HB1 := Lib.hid hb1
      clear hb1
      go_wp2_with (fail)
      refine (loopLives_true _).mono ?_
      rintro e w2 ⟨rfl, hb2⟩
      go_wp2
      go_ret
      exact ⟨rfl, HB1.out.trans (hb2.mono HB1.out.size)⟩
    · have d1 : decide (b < 0) = false := decide_eq_false x1
      by_cases x2 : a > 500000
      · have d2 : decide (a > 500000) = true := decide_eq_true x2
        go_wp2_with (fail)
        refine (loopLives_true _).mono ?_
        rintro e w1 ⟨rfl, hb1⟩
        have HB1 := Lib.hid hb1
        clear hb1
        go_wp2_with (fail)
        refine (loopLives_true _).mono ?_
        rintro e w2 ⟨rfl, hb2⟩
        go_wp2
        go_ret
        exact ⟨rfl, HB1.out.trans (hb2.mono HB1.out.size)⟩
      · have d2 : decide (a > 500000) = false := decide_eq_false x2
        by_cases x3 : b > 500000
        · have d3 : decide (b > 500000) = true := decide_eq_true x3
          go_wp2_with (fail)
          refine (loopLives_true _).mono ?_
          rintro e w1 ⟨rfl, hb1⟩
          have HB1 := Lib.hid hb1
          clear hb1
          go_wp2_with (fail)
          refine (loopLives_true _).mono ?_
          rintro e w2 ⟨rfl, hb2⟩
          go_wp2
          go_ret
          exact ⟨rfl, HB1.out.trans (hb2.mono HB1.out.size)⟩
        · have d3 : decide (b > 500000) = false := decide_eq_false x3
          by_cases x4 : (l.length : Int) > 150
          · have d4 : decide ((l.length : Int) > 150) = true := decide_eq_true x4
            go_wp2_with (fail)
            refine (loopLives_true _).mono ?_
            rintro e w1 ⟨rfl, hb1⟩
            have HB1 := Lib.hid hb1
            clear hb1
            go_wp2_with (fail)
            refine (loopLives_true _).mono ?_
            rintro e w2 ⟨rfl, hb2⟩
            go_wp2
            go_ret
            exact ⟨rfl, HB1.out.trans (hb2.mono HB1.out.size)⟩
          · have d4 : decide ((l.length : Int) > 150) = false := decide_eq_false x4
            have PE := Loopy.parts_err (l := l) a b (a + b) (by omega)
            have PQ := Loopy.parts_eq (l := l) (a := a) (b := b) (by omega) (by omega) (by omega) (by omega) (by omega)
            have PL1 := Loopy.play_len (l ++ [Loopy.runs a, Loopy.runs b])
            have PR1 := Loopy.play_right (l ++ [Loopy.runs a, Loopy.runs b])
            obtain ⟨⟨js1, q1, e1⟩, hp1⟩ : ∃ r, Loopy.play (l ++ [Loopy.runs a, Loopy.runs b]) = r := ⟨_, rfl⟩
            obtain ⟨⟨js2, q2, e2⟩, hp2⟩ : ∃ r, Loopy.play (l ++ [Loopy.runs (a + b)]) = r := ⟨_, rfl⟩
            rw [hp1, hp2] at PE PQ
            rw [hp1] at PL1 PR1
            simp only at PE PQ PL1 PR1
            subst PE
            obtain ⟨E1, hE1⟩ : ∃ E : Int, (e1 : Int) = E := ⟨_, rfl⟩
            have HP1 := Lib.hid hp1
            have HP2 := Lib.hid hp2
            have HE1 := Lib.hid hE1
            have HPQ : Hid (E1 = 0 → js1.length < 300 → js1 = js2 ∧ q1 = q2) := fun h1 h2 => by have := PQ (by omega) h2; injection this with t1 t2; injection t2 with t2 t3; exact ⟨t1, t2⟩
            have HR1 := Lib.hid PR1
            clear hp1 hp2 hE1 PQ PR1
            have hll : l.length ≤ 150 := by omega
            go_wp2_with (fail)
            refine (loopLives_true _).mono ?_
            rintro e w1 ⟨rfl, hb1⟩
            have U1 : Below w.heap.size w w1 := hb1
            have HV1 := Lib.hid (HV.out.below hb1)
            have hz1w := hb1.size
            clear hb1
            go_wp2_with (fail)
            refine (clone_ask l _ w1 HV1.out (by omega)).mono ?_
            rintro e w2 ⟨V1, rfl, hown1, hbw2⟩
            obtain ⟨A1, k1, rfl⟩ := own_slice hown1
            have Uw2 := U1.trans (hbw2.mono U1.size)
            have hzw2 := hbw2.size
            have hlts1 := Lib.hid hown1.lt
            have HO1 := Lib.hid hown1
            clear hown1
            go_wp2_with (at_builtin; (refine wpList_append_lies _ rfl (.tmp 39) (.tmp 44) 22 rfl w1.heap.size 35 i0 _ 7 72 Try.underlying22 hi0 hz0 hz1 hz2 rfl (by decide) _ l.length (flat ac l) rfl (HO1.out.alloc _) ⟨w2.heap.size, 0, none⟩ 2 2 ((ac (Loopy.runs a)).toList ++ (ac (Loopy.runs b)).toList) rfl rfl (World.news_of_block (Box.new w2 _ _)) (by simp [Value.oneCell']) (by omega) (by unfold maxLen; omega) (by omega) (by simp; omega) (w2.heap.size + 1) (by simp) ?_); intro g1 cap1 w3 hown1 hgr1 hor1 hlt1)
            have hbw3 : Below w1.heap.size w2 w3 := ((Below.refl _ w2).alloc hzw2 _).trans (below_grown hgr1 (by simp; omega) (fun j hj => (hlts1.out j hj).1))
            have Uw3 := Uw2.trans (hbw3.mono U1.size)
            have hA1 : ARd w3 (l ++ [Loopy.runs a, Loopy.runs b]) (.slice (some ⟨g1, 0, none⟩) (l.length + 2) cap1) := asks_own (by simp) hown1
            refine (Play_any (l ++ [Loopy.runs a, Loopy.runs b]) _ w3 hA1).mono ?_
            rintro e w4 ⟨O1, T1, S1, R1, rfl, hOw1, hOut1, hap1, hbw4⟩
            rw [HP1.out] at hOw1 hOut1 ⊢
            dsimp only at hOw1 hOut1 ⊢
            rw [HE1.out]
            have Uw4 := Uw3.trans (hbw4.mono Uw3.size)
            obtain ⟨AO1, kO1, rfl⟩ := own_slice hOut1
            have hone1 := hOw1.one
            have HOw1 := Lib.hid hOw1
            have HOut1 := Lib.hid hOut1
            have Hst1 := Lib.hid ((hbw2.trans hbw3).trans (hbw4.mono (Nat.le_trans hzw2 hbw3.size)))
            have HVw4 := Lib.hid (HV1.out.below Hst1.out)
            clear hOw1 hOut1 hA1 hown1 hgr1 hor1 hbw2 hbw3 hbw4 hap1
            go_upto_region 4 with (refine wpList_store_box rfl 26 (.tmp 8) (.tmp 48) rfl w4.heap.size (lag q1 T1 S1 R1) rfl rfl 26 _ (Box.new w4 26 #[.int .i64 0, .int .i64 0, .slice none 0 0, .slice none 0 0, .slice none 0 0]) info_loop rfl hone1 ?_; intro w5 hx5 hu5 hz5)
            have hb5 : Below w4.heap.size w4 w5 := ((Below.refl _ w4).alloc (Nat.le_refl _) _).trans (hu5.own (Nat.le_refl _) (by simp))
            have U5 : Below w.heap.size w w5 := Uw4.trans (hb5.mono Uw4.size)
            have HV5 := Lib.hid (HVw4.out.below hb5)
            have P1 := Lib.hid (HOw1.out.below hb5)
            have J1 := Lib.hid (own_below HOut1.out hb5)
            have hz5w := hx5.lt
            have X5 := Lib.hid hx5
            clear hx5 hu5 hz5 hb5
            go_wp2_with (fail)
            refine (clone_ask l _ w5 HV5.out (by omega)).mono ?_
            rintro e w6 ⟨V2, rfl, hown2, hbw6⟩
            obtain ⟨A2, k2, rfl⟩ := own_slice hown2
            have Uw6 := U5.trans (hbw6.mono U5.size)
            have hzw6 := hbw6.size
            have hlts2 := Lib.hid hown2.lt
            have HO2 := Lib.hid hown2
            clear hown2
            go_wp2_with (at_builtin; (refine wpList_append_lies _ rfl (.tmp 52) (.tmp 57) 22 rfl w5.heap.size 35 i0 _ 7 72 Try.underlying22 hi0 hz0 hz1 hz2 rfl (by decide) _ l.length (flat ac l) rfl (HO2.out.alloc _) ⟨w6.heap.size, 0, none⟩ 1 1 ((ac (Loopy.runs (a + b))).toList) rfl rfl (World.news_of_block (Box.new w6 _ _)) (by simp [Value.oneCell']) (by omega) (by unfold maxLen; omega) (by omega) (by simp; omega) (w6.heap.size + 1) (by simp) ?_); intro g2 cap2 w7 hown2 hgr2 hor2 hlt2)
            have hbw7 : Below w5.heap.size w6 w7 := ((Below.refl _ w6).alloc hzw6 _).trans (below_grown hgr2 (by simp; omega) (fun j hj => (hlts2.out j hj).1))
            have Uw7 := Uw6.trans (hbw7.mono U5.size)
            have hA2 : ARd w7 (l ++ [Loopy.runs (a + b)]) (.slice (some ⟨g2, 0, none⟩) (l.length + 1) cap2) := asks_own (by simp) hown2
            refine (Play_any (l ++ [Loopy.runs (a + b)]) _ w7 hA2).mono ?_
            rintro e w8 ⟨O2, T2, S2, R2, rfl, hOw2, hOut2, hap2, hbw8⟩
            rw [HP2.out] at hOw2 hOut2 ⊢
            dsimp only at hOw2 hOut2 ⊢
            rw [HE1.out]
            have Uw8 := Uw7.trans (hbw8.mono Uw7.size)
            obtain ⟨AO2, kO2, rfl⟩ := own_slice hOut2
            have hone2 := hOw2.one
            have HOw2 := Lib.hid hOw2
            have HOut2 := Lib.hid hOut2
            have Hst2 := Lib.hid ((hbw6.trans hbw7).trans (hbw8.mono (Nat.le_trans hzw6 hbw7.size)))
            have HVw8 := Lib.hid (HV5.out.below Hst2.out)
            clear hOw2 hOut2 hA2 hown2 hgr2 hor2 hbw6 hbw7 hbw8 hap2
            go_upto_region 5 with (refine wpList_store_box rfl 26 (.tmp 11) (.tmp 61) rfl w8.heap.size (lag q2 T2 S2 R2) rfl rfl 26 _ (Box.new w8 26 #[.int .i64 0, .int .i64 0, .slice none 0 0, .slice none 0 0, .slice none 0 0]) info_loop rfl hone2 ?_; intro w9 hx9 hu9 hz9)
            have hb9 : Below w8.heap.size w8 w9 := ((Below.refl _ w8).alloc (Nat.le_refl _) _).trans (hu9.own (Nat.le_refl _) (by simp))
            have U9 : Below w.heap.size w w9 := Uw8.trans (hb9.mono Uw8.size)
            have h59 : Below w5.heap.size w5 w9 := Hst2.out.trans (hb9.mono Hst2.out.size)
            have Q1 := Lib.hid (P1.out.below h59)
            have K1 := Lib.hid (own_below J1.out h59)
            have Y1 := Lib.hid (X5.out.below h59 X5.out.lt)
            have Q2 := Lib.hid (HOw2.out.below hb9)
            have K2 := Lib.hid (own_below HOut2.out hb9)
            have Y2 := Lib.hid hx9
            have HU9 := Lib.hid U9
            clear hx9 hu9 hz9 hb9 h59 U9 Uw8 U5
            by_cases y1 : E1 = 0
            · subst y1
              by_cases y2 : js1.length < 300
              · obtain ⟨z1, z2⟩ := HPQ.out rfl y2
                subst z1 z2
                have r1 : decide ((js1.length : Int) ≥ 300) = false := decide_eq_false (by omega)
                go_wp2_with (fail)
                have hB := Box.new w9 27 #[.int .i64 0, .int .i64 0]
                have hbB : Below w9.heap.size w9 (w9.alloc (.cells #[.int .i64 0, .int .i64 0] 27)) := below1 w9 _
                refine (ok_yes _ _ _ w9.heap.size rfl ((hB.cell 0).trans rfl) ((hB.cell 1).trans rfl)).mono ?_
                rintro e w10 ⟨rfl, rfl⟩
                have HU10 := Lib.hid (HU9.out.trans (hbB.mono HU9.out.size))
                have Y3 := Lib.hid (Y1.out.below hbB Y1.out.lt)
                have Y4 := Lib.hid (Y2.out.below hbB Y2.out.lt)
                have Q3 := Lib.hid (Q1.out.below hbB)
                have Q4 := Lib.hid (Q2.out.below hbB)
                have K3 := Lib.hid (own_below K1.out hbB)
                have K4 := Lib.hid (own_below K2.out hbB)
                clear hB
                have f0 := Y3.out.cell 0
                have f1 := Y4.out.cell 0
                simp at f0 f1
                have nn : (q1.now != q1.now) = false := by simp
                generalize (w9.alloc (.cells #[.int .i64 0, .int .i64 0] 27)) = w10 at *
                go_wp2_with (fail)
                refine (equal_job js1 js1 _ _ w10 (Rd.own K3.out) (Rd.own K4.out) (by omega) (by omega)).mono ?_
                rintro e w11 ⟨rfl, hb11⟩
                have Y5 := Y3.out.below hb11 Y3.out.lt
                have Y6 := Y4.out.below hb11 Y4.out.lt
                have Q5 := Lib.hid (Q3.out.below hb11)
                have Q6 := Lib.hid (Q4.out.below hb11)
                have HU11 := Lib.hid (HU10.out.trans (hb11.mono HU10.out.size))
                have ed : decide (js1 = js1) = true := by simp
                rw [ed]
                clear hb11 f0 f1
                have u0 := Y5.cell 0
                have u1 := Y5.cell 1
                have u2 := Y5.cell 2
                have u3 := Y5.cell 3
                have u4 := Y5.cell 4
                have v0 := Y6.cell 0
                have v1 := Y6.cell 1
                have v2 := Y6.cell 2
                have v3 := Y6.cell 3
                have v4 := Y6.cell 4
                simp at u0 u1 u2 u3 u4 v0 v1 v2 v3 v4
                clear Y5 Y6
                go_wp2_with (fail)
                refine (same_true q1 _ _ _ _ _ _ w11 Q5.out.rd Q6.out.rd (by have := HR1.out.l1; omega) (by have := HR1.out.l2; omega) (by have := HR1.out.l3; omega)).mono ?_
                rintro e w12 ⟨rfl, hb12⟩
                go_wp2
                go_ret
                exact ⟨rfl, HU11.out.trans (hb12.mono HU11.out.size)⟩
              · have r1 : decide ((js1.length : Int) ≥ 300) = true := decide_eq_true (by omega)
                go_wp2_with (fail)
                have hB := Box.new w9 27 #[.int .i64 0, .int .i64 0]
                have hbB : Below w9.heap.size w9 (w9.alloc (.cells #[.int .i64 0, .int .i64 0] 27)) := below1 w9 _
                refine (ok_yes _ _ _ w9.heap.size rfl ((hB.cell 0).trans rfl) ((hB.cell 1).trans rfl)).mono ?_
                rintro e w10 ⟨rfl, rfl⟩
                have HU10 := Lib.hid (HU9.out.trans (hbB.mono HU9.out.size))
                clear hB
                generalize (w9.alloc (.cells #[.int .i64 0, .int .i64 0] 27)) = w10 at *
                go_wp2
                go_ret
                exact ⟨rfl, HU10.out⟩
            · have hee : (E1 == E1) = true := by simp
              go_wp2_with (fail)
              have hB := Box.new w9 27 #[.int .i64 E1, .int .i64 E1]
              have hbB : Below w9.heap.size w9 (w9.alloc (.cells #[.int .i64 E1, .int .i64 E1] 27)) := below1 w9 _
              refine (ok_no _ _ _ w9.heap.size E1 y1 rfl ((hB.cell 0).trans rfl)).mono ?_
              rintro e w10 ⟨rfl, rfl⟩
              have HU10 := Lib.hid (HU9.out.trans (hbB.mono HU9.out.size))
              clear hB
              generalize (w9.alloc (.cells #[.int .i64 E1, .int .i64 E1] 27)) = w10 at *
              go_wp2
              go_ret
              exact ⟨rfl, HU10.out⟩
end Go.Proofs.Ytpjbblbehbepbaa
