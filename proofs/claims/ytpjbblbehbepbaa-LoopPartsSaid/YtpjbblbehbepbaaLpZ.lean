/-
  Play, where what is asked is well formed. Conditions: it reads as a list.
-/
import Derived.Test.YtpjbblbehbepbaaLpY
namespace Go.Proofs.Ytpjbblbehbepbaa
set_option linter.unusedSimpArgs false
set_option linter.unusedVariables false
open Go.RowKit

set_option maxRecDepth 100000 in
set_option maxHeartbeats 8000000 in
theorem Play_good (l : List Loopy.Ask) (v : Value) (w : World) (hv : ARd w l v) (hl : ¬ 200 < l.length) (hb : (l.any fun a => !Valu.within a.what 1 6) = false) :
    Calls Try.prog 9 #[v] w fun e w' => PlayOut w (Loopy.play l) e w' := by
  have HALL : Hid (∀ (k : Nat) (x : Loopy.Ask), l[k]? = some x → Valu.within x.what 1 6 = true) := fun k x hx => by
    have := List.any_eq_false.1 hb x (List.mem_of_getElem? hx)
    simpa using this
  have HP : Hid (Loopy.play l = ((Loopy.plays l).2, (Loopy.plays l).1, 0)) := by show _ = _; unfold Loopy.play; rw [if_neg hl, if_neg (by rw [hb]; decide)]
  have hl1 : ¬ (200 : Int) < (l.length : Int) := by omega
  obtain ⟨i0, hi0, hz0, hz1, hz2⟩ := info_parts parts_job
  clear hb
  obtain ⟨A0, c0, rfl, hv1, hv2, hv3⟩ := hv
  have HV := Lib.hid hv3
  clear hv3
  go_enter Try.func9, Try.ntmps9
  go_upto_region 1 with (fail)
  have hb3 := Box.new w 26 #[.int .i64 0, .int .i64 0, .slice none 0 0, .slice none 0 0, .slice none 0 0]
  have hU : Below w.heap.size w (w.alloc (.cells #[.int .i64 0, .int .i64 0, .slice none 0 0, .slice none 0 0, .slice none 0 0] 26)) := below1 w _
  generalize w.alloc (.cells #[.int .i64 0, .int .i64 0, .slice none 0 0, .slice none 0 0, .slice none 0 0] 26) = W at *
  have hzW := hb3.lt
  go_wp2_with (fail)
  go_loopg [6, 23] l.length (fun gg _ c wr => ∃ k : Nat, k ≤ l.length ∧ l.length - k ≤ gg ∧ c = .int .i64 (k : Int) ∧ Hid (Below W.heap.size W wr))
  case atStart => exact ⟨0, Nat.zero_le _, by omega, rfl, Below.refl _ _⟩
  case round =>
    obtain ⟨k, hk, hg, rfl, BR⟩ := hrel
    have hbr := hU.trans (BR.out.mono hU.size)
    by_cases hlt : k < l.length
    · have hlt2 : decide ((k : Int) < (l.length : Int)) = true := by simp; omega
      obtain ⟨x, hx⟩ : ∃ x, l[k]? = some x := ⟨_, List.getElem?_eq_getElem (by omega)⟩
      have HWI := Lib.hid (fun w => within_is _ _ _ _ (HALL.out k x hx) w)
      obtain ⟨g0, o, rfl, hg0, hrg⟩ := HV.out (by omega)
      have hrange : Hid (wr.rangeAt g0 (o + k * 7) (ac x).toList) := fun i u hu => by
        rw [hbr.cell (p := ⟨g0, o + k * 7 + i, none⟩) hg0]
        exact RdL.elem (f := ac) (fun _ => rfl) hrg hx i u hu
      clear hrg
      clear hx
      go_wp2_with (first | (refine wpList_load_mid rfl 35 (.tmp 25) rfl g0 (o + k * 7) rfl (ac x).toList _ hrange.out Try.underlying35 rfl info_ask ?_) | (refine wpList_store_box rfl 35 (.tmp 6) (.tmp 26) rfl wr.heap.size (ac x) rfl rfl 35 _ (Box.new wr _ _) info_ask rfl (ac_one x) ?_; intro w4 hx4 hu4 hz4; have q0 := hx4.cell 0; have q2 := hx4.cell 2; simp at q0 q2; have hzw := hx4.lt; clear hz4))
      refine (HWI.out _).mono ?_
      rintro e w5 ⟨rfl, rfl⟩
      have hb4 : Below W.heap.size W w4 := (BR.out.alloc BR.out.size _).trans (hu4.own BR.out.size (by simp; have := BR.out.size; omega))
      go_wp2_with (fail)
      go_roundg (l.length - (k + 1))
      case measure => omega
      case rel => exact ⟨k + 1, by omega, by omega, by go_num, hb4⟩
    · have hlt2 : decide ((k : Int) < (l.length : Int)) = false := by simp; omega
      have hb3o : Box wr w.heap.size 26 #[.int .i64 0, .int .i64 0, .slice none 0 0, .slice none 0 0, .slice none 0 0] := Box.below hb3 BR.out hb3.lt
      obtain ⟨wo, rfl⟩ : ∃ wo : World, wo = wr := ⟨_, rfl⟩
      clear hg hb3 hU
      go_wp2_with (fail)
      clear hlt2 BR hzW hlt hk
      have P0 : Hid (PS w (wo.alloc (.cells #[.int .i64 0, .int .i64 0, .slice none 0 0, .slice none 0 0, .slice none 0 0] 26)) w.heap.size wo.heap.size Loopy.zero [] (.slice none 0 0) (.slice none 0 0) (.slice none 0 0) (.slice none 0 0)) :=
        ⟨hb3o.alloc _, Box.new wo _ _, own_zero _ _, World.ownsRow_nil _ _ _ _, fun k hk => by simp [Value.ownBlock] at hk, hbr.alloc hbr.size _, Nat.le_refl _, hb3o.lt⟩
      generalize wo.alloc (.cells #[.int .i64 0, .int .i64 0, .slice none 0 0, .slice none 0 0, .slice none 0 0] 26) = W2 at *
      have hz37 := hb3o.lt
      go_loopg [8, 10, 11, 12, 13, 14, 15, 16, 35] l.length (fun gg s8 _ _ _ _ _ _ _ s35 wr => ∃ (k : Nat) (A : Option Addr) (cap : Nat) (T S R : Value) (q : Loopy.Loop) (out : List Loopy.Job), k ≤ l.length ∧ l.length - k ≤ gg ∧ s35 = .int .i64 (k : Int) ∧ s8 = .slice A out.length cap ∧ Hid (Loopy.plays (l.take k) = (q, out)) ∧ Hid (PS w wr w.heap.size wo.heap.size q out (.slice A out.length cap) T S R))
      case atStart => exact ⟨0, none, 0, _, _, _, Loopy.zero, [], Nat.zero_le _, by omega, rfl, rfl, rfl, P0⟩
      case round =>
        obtain ⟨k, A1, cap1, T1, S1, R1, q, out, hk, hg, rfl, rfl, HS, P⟩ := hrel
        have hR : Hid (Loopy.Right q) := by have := Loopy.plays_right (l.take k); rw [HS.out] at this; exact this
        have hol : out.length ≤ 300 := by have := Loopy.plays_len (l.take k); rw [HS.out] at this; exact this
        have hzr := P.out.size
        have HWB : Hid (Below w.heap.size w wr) := P.out.bel
        by_cases hlt : k < l.length
        · have hlt2 : decide ((k : Int) < (l.length : Int)) = true := by simp; omega
          obtain ⟨x, hx⟩ : ∃ x, l[k]? = some x := ⟨_, List.getElem?_eq_getElem (by omega)⟩
          have HN : Hid (Loopy.plays (l.take (k + 1)) = Loopy.stepA (q, out) x) := by show _ = _; rw [Loopy.plays_step hx, HS.out]
          obtain ⟨g0, o, rfl, hg0, hrg⟩ := HV.out (by omega)
          have hrange : Hid (wr.rangeAt g0 (o + k * 7) (ac x).toList) := fun i u hu => by
            rw [HWB.out.cell (p := ⟨g0, o + k * 7 + i, none⟩) hg0]
            exact RdL.elem (f := ac) (fun _ => rfl) hrg hx i u hu
          clear hrg
          clear hx
          by_cases h6 : x.what = 6
          rotate_left
          · have w6 : (x.what == 6) = false := by simpa using h6
            go_wp2_with (first | (refine wpList_load_mid rfl 35 (.tmp 37) rfl g0 (o + k * 7) rfl (ac x).toList _ hrange.out Try.underlying35 rfl info_ask ?_) | (refine wpList_store_box rfl 35 (.tmp 10) (.tmp 38) rfl wr.heap.size (ac x) rfl rfl 35 _ (Box.new wr _ _) info_ask rfl (ac_one x) ?_; intro w4 hx4 hu4 hz4; have P4 : Hid (PS w w4 w.heap.size wo.heap.size q out (.slice A1 out.length cap1) T1 S1 R1) := P.out.below (((Below.refl _ wr).alloc (Nat.le_refl _) _).trans (hu4.own (Nat.le_refl _) (by simp))); have h74 := P4.out.h7; have c70 := h74.cell 0; have q0 := hx4.cell 0; have q2 := hx4.cell 2; simp at q0 q2 c70; have hzw := hx4.lt; clear hz4) | (refine wpList_load_row rfl 26 (.tmp 7) rfl (wo.heap.size) rfl _ (lag q T1 S1 R1) (0, 0) _ h74 Try.underlying26 rfl info_loop ?_) | (refine wpList_load_row rfl 35 (.tmp 10) rfl (wr.heap.size) rfl _ (ac x) (0, 0) _ hx4 Try.underlying35 rfl info_ask ?_))
            refine (Ask_any q x T1 S1 R1 w4 P4.out.own.rd).mono ?_
            rintro e w5 ⟨T5, S5, R5, rfl, hO5, hB5⟩
            obtain ⟨⟨q5, i5, e5⟩, hq5⟩ : ∃ r, Loopy.ask q x = r := ⟨_, rfl⟩
            rw [hq5] at hO5
            rw [hq5]
            have HQ5 := Lib.hid hq5
            have HO5 := Lib.hid hO5
            have HB5 := Lib.hid hB5
            have hone := hO5.one
            have hz5 := hB5.size
            have h75 := Box.below h74 hB5 h74.lt
            clear hq5 hO5 hB5 h74 c70 q0 q2
            simp only
            by_cases he : e5 = 0
            · subst he
              go_wp2_with (first | (refine wpList_store_box rfl 26 (.tmp 11) (.tmp 46) rfl (w5.heap.size) (lag q5 T5 S5 R5) rfl rfl 26 _ (Box.new w5 26 #[.int .i64 0, .int .i64 0, .slice none 0 0, .slice none 0 0, .slice none 0 0]) info_loop rfl hone ?_; intro w6 hx6 hu6 hz6; have hb6 : Hid (Below w5.heap.size w5 w6) := ((Below.refl _ w5).alloc (Nat.le_refl _) _).trans (hu6.own (Nat.le_refl _) (by simp)); have h76 := Box.below h75 hb6.out h75.lt; clear hz6) | (refine wpList_load_row rfl 26 (.tmp 11) rfl (w5.heap.size) rfl _ (lag q5 T5 S5 R5) (0, 0) _ hx6 Try.underlying26 rfl info_loop ?_) | (refine wpList_store_box rfl 26 (.tmp 7) (.tmp 51) rfl (wo.heap.size) (lag q5 T5 S5 R5) rfl rfl 26 _ h76 info_loop rfl hone ?_; intro w7 hx7 hu7 hz7; clear hz7))
              have HN2 : Hid (Loopy.plays (l.take (k + 1)) = (q5, out)) := by
                show _ = _
                rw [HN.out]
                unfold Loopy.stepA
                rw [if_neg h6, HQ5.out]
                rfl
              go_roundg (l.length - (k + 1))
              case measure => omega
              case rel => exact ⟨k + 1, A1, cap1, T5, S5, R5, q5, out, by omega, by omega, by go_num, rfl, HN2, P4.out.ask HO5.out HB5.out hb6.out hu7 hx7⟩
            · obtain ⟨z, hz⟩ : ∃ z : Int, (e5 : Int) = z := ⟨_, rfl⟩
              have hz0' : ¬ z = 0 := by omega
              have hz1' : (z == 0) = false := by simpa using hz0'
              rw [hz]
              go_wp2_with (first | (refine wpList_store_box rfl 26 (.tmp 11) (.tmp 46) rfl (w5.heap.size) (lag q5 T5 S5 R5) rfl rfl 26 _ (Box.new w5 26 #[.int .i64 0, .int .i64 0, .slice none 0 0, .slice none 0 0, .slice none 0 0]) info_loop rfl hone ?_; intro w6 hx6 hu6 hz6; have hb6 : Hid (Below w5.heap.size w5 w6) := ((Below.refl _ w5).alloc (Nat.le_refl _) _).trans (hu6.own (Nat.le_refl _) (by simp)); have h76 := Box.below h75 hb6.out h75.lt; clear hz6))
              have HN2 : Hid (Loopy.plays (l.take (k + 1)) = (q, out)) := by
                show _ = _
                rw [HN.out]
                unfold Loopy.stepA
                rw [if_neg h6, HQ5.out, if_neg he]
              go_roundg (l.length - (k + 1))
              case measure => omega
              case rel => exact ⟨k + 1, A1, cap1, T1, S1, R1, q, out, by omega, by omega, by go_num, rfl, HN2, (P4.out.below HB5.out).below hb6.out⟩
          · have w6 : (x.what == 6) = true := by simpa using h6
            have H6 := Lib.hid h6
            clear h6
            obtain ⟨d, hd⟩ : ∃ d, Valu.within x.n 0 1000000 = d := ⟨_, rfl⟩
            have HWI := Lib.hid (fun w => within_is _ _ _ _ hd w)
            have HD := Lib.hid hd
            have hnow0 := hR.out.now0
            have hnow1 : q.now ≤ 1000000000 := hR.out.now1
            cases d
            case false =>
              clear hd
              go_wp2_with (first | (refine wpList_load_mid rfl 35 (.tmp 37) rfl g0 (o + k * 7) rfl (ac x).toList _ hrange.out Try.underlying35 rfl info_ask ?_) | (refine wpList_store_box rfl 35 (.tmp 10) (.tmp 38) rfl wr.heap.size (ac x) rfl rfl 35 _ (Box.new wr _ _) info_ask rfl (ac_one x) ?_; intro w4 hx4 hu4 hz4; have P4 : Hid (PS w w4 w.heap.size wo.heap.size q out (.slice A1 out.length cap1) T1 S1 R1) := P.out.below (((Below.refl _ wr).alloc (Nat.le_refl _) _).trans (hu4.own (Nat.le_refl _) (by simp))); have h74 := P4.out.h7; have c70 := h74.cell 0; have q0 := hx4.cell 0; have q2 := hx4.cell 2; simp at q0 q2 c70; have hzw := hx4.lt; clear hz4))
              refine (HWI.out _).mono ?_
              rintro e w5 ⟨rfl, rfl⟩
              clear q0 q2 c70
              go_wp2_with (fail)
              refine wp_loop_rounds 1 ?_
              rw [rounds_succ]
              go_wp2_with (fail)
              have HN2 : Hid (Loopy.plays (l.take (k + 1)) = (q, out)) := by
                show _ = _
                rw [HN.out]
                unfold Loopy.stepA
                rw [if_pos H6.out, if_neg (by unfold Loopy.goes; rw [HD.out]; simp)]
              go_roundg (l.length - (k + 1))
              case measure => omega
              case rel => exact ⟨k + 1, A1, cap1, T1, S1, R1, q, out, by omega, by omega, by go_num, rfl, HN2, P4⟩
            case true =>
              have hw := Valu.within_iff.1 hd
              clear hd
              by_cases hle : q.now + x.n ≤ 1000000000
              rotate_left
              · have hle2 : decide (q.now + x.n ≤ 1000000000) = false := by simpa using hle
                go_wp2_with (first | (refine wpList_load_mid rfl 35 (.tmp 37) rfl g0 (o + k * 7) rfl (ac x).toList _ hrange.out Try.underlying35 rfl info_ask ?_) | (refine wpList_store_box rfl 35 (.tmp 10) (.tmp 38) rfl wr.heap.size (ac x) rfl rfl 35 _ (Box.new wr _ _) info_ask rfl (ac_one x) ?_; intro w4 hx4 hu4 hz4; have P4 : Hid (PS w w4 w.heap.size wo.heap.size q out (.slice A1 out.length cap1) T1 S1 R1) := P.out.below (((Below.refl _ wr).alloc (Nat.le_refl _) _).trans (hu4.own (Nat.le_refl _) (by simp))); have h74 := P4.out.h7; have c70 := h74.cell 0; have q0 := hx4.cell 0; have q2 := hx4.cell 2; simp at q0 q2 c70; have hzw := hx4.lt; clear hz4))
                refine (HWI.out _).mono ?_
                rintro e w5 ⟨rfl, rfl⟩
                clear q0 q2 c70
                go_wp2_with (fail)
                refine wp_loop_rounds 1 ?_
                rw [rounds_succ]
                go_wp2_with (fail)
                have HN2 : Hid (Loopy.plays (l.take (k + 1)) = (q, out)) := by
                  show _ = _
                  rw [HN.out]
                  unfold Loopy.stepA
                  rw [if_pos H6.out, if_neg (by unfold Loopy.goes; rw [HD.out]; simp; omega)]
                go_roundg (l.length - (k + 1))
                case measure => omega
                case rel => exact ⟨k + 1, A1, cap1, T1, S1, R1, q, out, by omega, by omega, by go_num, rfl, HN2, P4⟩
              · have hle2 : decide (q.now + x.n ≤ 1000000000) = true := by simpa using hle
                go_wp2_with (first | (refine wpList_load_mid rfl 35 (.tmp 37) rfl g0 (o + k * 7) rfl (ac x).toList _ hrange.out Try.underlying35 rfl info_ask ?_) | (refine wpList_store_box rfl 35 (.tmp 10) (.tmp 38) rfl wr.heap.size (ac x) rfl rfl 35 _ (Box.new wr _ _) info_ask rfl (ac_one x) ?_; intro w4 hx4 hu4 hz4; have P4 : Hid (PS w w4 w.heap.size wo.heap.size q out (.slice A1 out.length cap1) T1 S1 R1) := P.out.below (((Below.refl _ wr).alloc (Nat.le_refl _) _).trans (hu4.own (Nat.le_refl _) (by simp))); have h74 := P4.out.h7; have c70 := h74.cell 0; have q0 := hx4.cell 0; have q2 := hx4.cell 2; simp at q0 q2 c70; have hzw := hx4.lt; clear hz4))
                refine (HWI.out _).mono ?_
                rintro e w5 ⟨rfl, rfl⟩
                clear q0 q2 c70
                go_wp2_with (fail)
                obtain ⟨til, htil⟩ : ∃ til, q.now + x.n = til := ⟨_, rfl⟩
                obtain ⟨F, hF⟩ : ∃ F, Loopy.run til (300 - out.length) q out = F := ⟨_, rfl⟩
                have HF0 := Lib.hid hF
                have HN2 : Hid (Loopy.plays (l.take (k + 1)) = F) := by
                  show _ = _
                  rw [HN.out]
                  unfold Loopy.stepA
                  rw [if_pos H6.out, if_pos (by unfold Loopy.goes; rw [HD.out]; simp; omega)]
                  show Loopy.run (q.now + x.n) (300 - out.length) q out = F
                  rw [htil, hF]
                rw [htil]
                have htil1 : q.now ≤ til := by omega
                have htil2 : til ≤ 1000000000 := by omega
                clear hF h74
                obtain ⟨wr1, rfl⟩ : ∃ w' : World, w' = wr := ⟨_, rfl⟩
                go_loopg [8, 15, 16] 302 (fun gg s8 s15 _ wr => ∃ (A : Option Addr) (cap : Nat) (T S R : Value) (q' : Loopy.Loop) (out' : List Loopy.Job) (b : Bool), s8 = .slice A out'.length cap ∧ s15 = .bool b ∧ out'.length ≤ 300 ∧ (300 - out'.length) + (if b then 1 else 0) ≤ gg ∧ Hid (Loopy.Right q') ∧ q'.now ≤ til ∧ Hid ((if b then Loopy.run til (300 - out'.length) q' out' else (q', out')) = F) ∧ Hid (PS w wr w.heap.size wo.heap.size q' out' (.slice A out'.length cap) T S R))
                case atStart => exact ⟨A1, cap1, T1, S1, R1, q, out, true, rfl, rfl, hol, by simp; omega, hR, htil1, HF0, P4⟩
                case round =>
                  obtain ⟨A2, cap2, T2, S2, R2, q2, out2, b, rfl, rfl, hol2, hg2, hR2, hn2, HF2, P2⟩ := hrel
                  cases b
                  case false =>
                    obtain ⟨wo2, rfl⟩ : ∃ wo : World, wo = wr := ⟨_, rfl⟩
                    go_wp2_with (fail)
                    go_roundg (l.length - (k + 1))
                    case measure => omega
                    case rel => exact ⟨k + 1, A2, cap2, T2, S2, R2, q2, out2, by omega, by omega, by go_num, rfl, (by show _ = _; rw [HN2.out, ← HF2.out]; rfl), P2⟩
                  case true =>
                    have HF3 : Hid (Loopy.run til (300 - out2.length) q2 out2 = F) := by
                      have := HF2.out
                      first | exact this | (rw [if_pos trivial] at this; exact this)
                    by_cases h300 : out2.length < 300
                    rotate_left
                    · have h3d : decide ((out2.length : Int) < 300) = false := by simp; omega
                      obtain ⟨wo2, rfl⟩ : ∃ wo : World, wo = wr := ⟨_, rfl⟩
                      go_wp2_with (fail)
                      go_roundg (l.length - (k + 1))
                      case measure => omega
                      case rel => exact ⟨k + 1, A2, cap2, T2, S2, R2, q2, out2, by omega, by omega, by go_num, rfl, (by show _ = _; rw [HN2.out, ← HF3.out, Loopy.run_full h300]), P2⟩
                    · have h3d : decide ((out2.length : Int) < 300) = true := by simp; omega
                      obtain ⟨⟨q5, oj⟩, hq5⟩ : ∃ r, Loopy.next q2 til = r := ⟨_, rfl⟩
                      have HQ5 := Lib.hid hq5
                      have h72 := P2.out.h7
                      have hzp2 := P2.out.size
                      have hmlt := Lib.hid (fun k (hm : mine T2 S2 R2 k) => P2.out.own.mine_lt hm)
                      have holt := Lib.hid (fun k (hm : (Value.slice A2 out2.length cap2).ownBlock = some k) => (P2.out.out.lt k hm).2)
                      clear hq5
                      go_wp2_with (first | (refine wpList_load_row rfl 26 (.tmp 7) rfl (wo.heap.size) rfl _ (lag q2 T2 S2 R2) (0, 0) _ (Box.alloc h72 (.cells #[.int .i64 0, .int .i64 0, .bool false, .string ⟨#[]⟩, .int .i64 0, .int .i64 0, .string ⟨#[]⟩] 39)) Try.underlying26 rfl info_loop ?_))
                      have P3 : Hid (PS w (wr.alloc (.cells #[.int .i64 0, .int .i64 0, .bool false, .string ⟨#[]⟩, .int .i64 0, .int .i64 0, .string ⟨#[]⟩] 39)) w.heap.size wo.heap.size q2 out2 (.slice A2 out2.length cap2) T2 S2 R2) := P2.out.below (below1 wr _)
                      refine (next_any q2 til (wo.heap.size + 1) T2 S2 R2 _ P3.out.own P3.out.size hR2.out).mono ?_
                      rintro e w5 ⟨T5, S5, R5, rfl, hO5, hS5⟩
                      rw [HQ5.out] at hO5
                      rw [HQ5.out]
                      have hone := hO5.one
                      have h75 : Box w5 wo.heap.size 26 (lag q2 T2 S2 R2) := hS5.box (Box.alloc h72 _) (fun hm => by have := P2.out.own.mine_lo hm; omega)
                      have hj5 : Box w5 wr.heap.size 39 #[.int .i64 0, .int .i64 0, .bool false, .string ⟨#[]⟩, .int .i64 0, .int .i64 0, .string ⟨#[]⟩] := hS5.box (Box.new wr _ _) (fun hm => by have := hmlt.out _ hm; omega)
                      have hnm : Hid (¬ mine T5 S5 R5 wr.heap.size) := fun hm => by
                        rcases hS5.fresh _ hm with a | a
                        · have := hmlt.out _ a; omega
                        · simp at a
                          omega
                      have hno : Hid ((Value.slice A2 out2.length cap2).ownBlock ≠ some wr.heap.size) := fun hm => by have := holt.out _ hm; omega
                      have HO5 := Lib.hid hO5
                      have HS5 := Lib.hid hS5
                      clear hO5 hS5 h72
                      simp only
                      have hrn := Lib.hid (Loopy.next_right hR2.out hn2 (by unfold Loopy.most; omega))
                      have hn5 : q5.now ≤ til := by have := hrn.out.2.2; rw [HQ5.out] at this; exact this
                      have hR5 : Hid (Loopy.Right q5) := by have := hrn.out.1; rw [HQ5.out] at this; exact this
                      cases oj
                      case none =>
                        go_wp2_with (first | (refine wpList_store_box rfl 26 (.tmp 7) (.tmp 74) rfl (wo.heap.size) (lag q5 T5 S5 R5) rfl rfl 26 _ h75 info_loop rfl hone ?_; intro w6 hx6 hu6 hz6; have hj6 := Box.grown hj5 hu6 (by intro h; injection h with h; omega); clear hz6) | (refine wpList_store_box rfl 39 (.tmp 16) (.tmp 75) rfl (wr.heap.size) (jc jzero) rfl rfl 39 _ hj6 info_job rfl (jc_one _) ?_; intro w7 hx7 hu7 hz7; have P7 : Hid (PS w w7 w.heap.size wo.heap.size q5 out2 (.slice A2 out2.length cap2) T5 S5 R5) := (P3.out.next HO5.out HS5.out hu6 hx6).past hu7 hzp2 hnm.out hno.out; have hz77 := hx7.lt; clear hz7))
                        go_roundg (300 - out2.length)
                        case measure => simp at hg2; omega
                        case rel => exact ⟨A2, cap2, T5, S5, R5, q5, out2, false, rfl, rfl, hol2, by simp, hR5, hn5, by show _ = _; rw [← HF3.out, Loopy.run_none (til := til) (q := q2) h300 (by rw [HQ5.out]), HQ5.out]; rfl, P7⟩
                      case some j =>
                        have hj1 : Hid (∀ u ∈ (jc j).toList, u.oneCell' = true) := by intro u hu; exact flat_one (f := jc) jc_one [j] u (by simpa [flat] using hu)
                        go_wp2_with (first | (refine wpList_store_box rfl 26 (.tmp 7) (.tmp 74) rfl (wo.heap.size) (lag q5 T5 S5 R5) rfl rfl 26 _ h75 info_loop rfl hone ?_; intro w6 hx6 hu6 hz6; have hj6 := Box.grown hj5 hu6 (by intro h; injection h with h; omega); clear hz6) | (refine wpList_store_box rfl 39 (.tmp 16) (.tmp 75) rfl (wr.heap.size) (jc j) rfl rfl 39 _ hj6 info_job rfl (jc_one _) ?_; intro w7 hx7 hu7 hz7; have P7 : Hid (PS w w7 w.heap.size wo.heap.size q5 out2 (.slice A2 out2.length cap2) T5 S5 R5) := (P3.out.next HO5.out HS5.out hu6 hx6).past hu7 hzp2 hnm.out hno.out; have hz77 := hx7.lt; clear hz7) | (refine wpList_load_row rfl 39 (.tmp 16) rfl (wr.heap.size) rfl _ (jc j) (0, 0) _ hx7 Try.underlying39 rfl info_job ?_) | (at_builtin; have e1 : 0 < 1 := Nat.one_pos; have e2 : out2.length + 1 ≤ maxLen := (by unfold maxLen; omega); have e3 : (out2.length + 1) * 72 ≤ 140737488355328 := (by omega); have e4 : wo.heap.size + 1 ≤ (w7.alloc (.cells (jc j) 39)).heap.size := (by simp; omega); have e5 : (w7.alloc (.cells (jc j) 39)).heap.size = w7.heap.size + 1 := (by simp); have e6 := World.ownsRow.alloc P7.out.out (.cells (jc j) 39); have e7 := World.news_of_block (Box.new w7 39 (jc j)); refine wpList_append_lies _ rfl (.tmp 78) (.tmp 80) 23 rfl (wo.heap.size + 1) 39 i0 _ 7 72 Try.underlying23 hi0 hz0 hz1 hz2 rfl (by decide) (.slice A2 out2.length cap2) out2.length (flat jc out2) rfl e6 ⟨w7.heap.size, 0, none⟩ 1 1 (jc j).toList rfl rfl e7 hj1.out e1 e2 e3 e4 (w7.heap.size + 1) e5 ?_; intro g8 cap8 w8 hown8 hgr8 hor8 hlt8))
                        have P8 : Hid (PS w w8 w.heap.size wo.heap.size q5 (out2 ++ [j]) (.slice (some ⟨g8, 0, none⟩) (out2.length + 1) cap8) T5 S5 R5) :=
                          PS.app (out' := out2 ++ [j]) (A := none) (P7.out.below (below1 w7 _)) hgr8 (by rw [List.length_append, flat_append]; simpa [flat] using hown8) (hor8.imp id (fun h => by simp; omega))
                        go_roundg (300 - out2.length)
                        case measure => simp at hg2; omega
                        case rel => exact ⟨some ⟨g8, 0, none⟩, cap8, T5, S5, R5, q5, out2 ++ [j], true, by simp, rfl, by simp; omega, by simp; omega, hR5, hn5, by show _ = _; rw [← HF3.out, Loopy.run_some (til := til) (q := q2) h300 (by rw [HQ5.out]), HQ5.out]; rfl, by simpa using P8⟩
        · have hlt2 : decide ((k : Int) < (l.length : Int)) = false := by simp; omega
          obtain rfl : k = l.length := by omega
          have HE : Hid (Loopy.play l = (out, q, 0)) := by
            have := HS.out
            rw [List.take_length] at this
            show _ = _
            rw [HP.out, this]
          have hone := P.out.own.one
          have h37 := P.out.h7
          have h33 := P.out.h3
          obtain ⟨wr2, rfl⟩ : ∃ w' : World, w' = wr := ⟨_, rfl⟩
          go_upto_region 26 with (fail)
          refine wp_region_held_drew (S := fun w' => Box w' (wo.heap.size) 26 (lag q T1 S1 R1) ∧ True) (by kernel_rfl) ⟨h37, trivial⟩ (fun hHeld => ?_)
          refine wpAnyH_take (i := 0) (v := ?_) rfl (by kernel_rfl) (by kernel_rfl) (by kernel_rfl) (fun _ _ _ h => h) (Or.inl ⟨by kernel_rfl, ?_⟩) (by assumption) ?_
          rotate_left
          · intro w hSw
            (try dsimp only at hSw)
            go_simp
            try (with_reducible rfl)
          (try simp only [Act.put, List.getElem_toArray, List.getElem_cons_zero, List.setIfInBounds_toArray, List.set_cons_zero, List.set_cons_succ])
          refine wpAnyH_take (i := 1) (v := _) rfl (by kernel_rfl) (by kernel_rfl) (by kernel_rfl) (fun _ _ _ h => h) (yields_load_box (by kernel_rfl) 26 (.tmp 7) rfl (wo.heap.size) 26 (lag q T1 S1 R1) _ rfl (fun _ h => h.1) Try.underlying26 rfl info_loop) (by assumption) ?_
          (try simp only [Act.put, List.getElem_toArray, List.getElem_cons_succ, List.getElem_cons_zero, List.setIfInBounds_toArray, List.set_cons_zero, List.set_cons_succ])
          refine wpAnyH_take (i := 2) (v := ?_) rfl (by kernel_rfl) (by kernel_rfl) (by kernel_rfl) (fun _ _ _ h => h) (Or.inl ⟨by kernel_rfl, ?_⟩) (by assumption) ?_
          rotate_left
          · intro w hSw
            (try dsimp only at hSw)
            go_simp
            try (with_reducible rfl)
          (try simp only [Act.put, List.getElem_toArray, List.getElem_cons_succ, List.getElem_cons_zero, List.setIfInBounds_toArray, List.set_cons_zero, List.set_cons_succ])
          refine wpAnyH_ready (rs := [3]) (by kernel_rfl) (by simp) ?_
          refine AllReadyH.cons rfl (fun K hK => ?_) AllReadyH.nil
          refine step_store_box rfl 26 (.tmp 3) (.tmp 84) rfl (w.heap.size) (lag q T1 S1 R1) rfl rfl 26 _ (Box.drew h33) info_loop rfl hone ?_; intro w9 hx9 hu9 hz9
          refine hK.out _ _ ⟨Box.grown (Box.drew h37) hu9 (by intro h; injection h with h; omega), trivial⟩ (fun hHeld => ?_)
          clear hK K
          (try simp only [Act.put, List.getElem_toArray, List.getElem_cons_succ, List.getElem_cons_zero, List.setIfInBounds_toArray, List.set_cons_zero, List.set_cons_succ])
          refine wpAnyH_take (i := 4) (v := ?_) rfl (by kernel_rfl) (by kernel_rfl) (by kernel_rfl) (fun _ _ _ h => h) (Or.inl ⟨by kernel_rfl, ?_⟩) (by assumption) ?_
          rotate_left
          · intro w hSw
            (try dsimp only at hSw)
            go_simp
            try (with_reducible rfl)
          (try simp only [Act.put, List.getElem_toArray, List.getElem_cons_succ, List.getElem_cons_zero, List.setIfInBounds_toArray, List.set_cons_zero, List.set_cons_succ])
          refine wpAnyH_done (by kernel_rfl) ?_ _
          go_wp2
          refine bodyPost_ret (results_tbt rfl (Back.mk' (w.heap.size) 26 _ rfl hx9 Try.underlying26 rfl info_loop)) rfl ?_
          have hPo := P.out.own
          have hOd : Own wr2.drew (wo.heap.size + 1) q T1 S1 R1 := ⟨hPo.t, hPo.s, hPo.r, hPo.ts, hPo.tr, hPo.sr⟩
          have hou : wr2.drew.ownsRow (wo.heap.size + 1) 39 7 (.slice A1 out.length cap1) out.length (flat jc out) := P.out.out
          have hB9 : Below w.heap.size w w9 := HWB.out.drew.trans (Upd.own (B := w.heap.size) hu9 (Nat.le_refl _) HWB.out.size)
          exact ⟨_, _, _, _, by rw [HE.out]; rfl, by rw [HE.out]; exact (hOd.far hu9 (by omega)).base (by omega), by rw [HE.out]; exact own_base (own_far hou hu9 (by omega)) (by omega), P.out.ap, hB9⟩

theorem Play_any (l : List Loopy.Ask) (v : Value) (w : World) (hv : ARd w l v) :
    Calls Try.prog 9 #[v] w fun e w' => PlayOut w (Loopy.play l) e w' := by
  by_cases hl : 200 < l.length
  · exact Play_long l v w hv hl
  · cases hb : l.any fun a => !Valu.within a.what 1 6
    · exact Play_good l v w hv hl hb
    · exact Play_bad l v w hv hl hb
end Go.Proofs.Ytpjbblbehbepbaa
