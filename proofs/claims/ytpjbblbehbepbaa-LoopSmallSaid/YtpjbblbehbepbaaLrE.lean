/-
  LoopSmall returns true. Conditions: the loop's rows read as lists.
-/
import Derived.Test.YtpjbblbehbepbaaLqA
import Derived.Test.YtpjbblbehbepbaaLqM
import Derived.Test.YtpjbblbehbepbaaLoopM
import Derived.BigQuiet
import Derived.Deep.QuietTactic
namespace Go.Proofs.Ytpjbblbehbepbaa
set_option linter.unusedSimpArgs false
set_option linter.unusedVariables false
open Go.RowKit

theorem nextR_ok {p : Loopy.Loop} {til : Int} (h : Loopy.Right p) (h1 : p.now ≤ til) (h2 : til ≤ 1000000000) : nextR p til = (Loopy.next p til, 0) := by
  unfold nextR
  rw [if_pos ((Loopy.check_iff p).2 h), if_pos (Valu.within_iff.2 ⟨h1, h2⟩)]
theorem neq_same (j : Loopy.Job) (w : World) : (binOp .neq 39 (jag j) (jag j)).run Try.prog w = .ok (.bool false) w := by
  have := neq_job j j w
  simpa using this

set_option maxRecDepth 100000 in
set_option maxHeartbeats 8000000 in
theorem small_walk (q : Loopy.Loop) (til : Int) (T S R : Value) (w : World) (hq : LRd w q T S R) :
    Calls Try.prog 5 #[.agg (lag q T S R), .int .i64 til] w fun e w' => e = .returned (.bool true) ∧ Below w.heap.size w w' := by
  have HC : Hid (∀ w T S R, LRd w q T S R → Calls Try.prog 15 #[.agg (lag q T S R)] w fun e w' => e = .returned (.int .i64 (Loopy.check q : Int)) ∧ Below w.heap.size w w') := fun w T S R h => check_any q T S R w h
  obtain ⟨C, hC⟩ : ∃ C : Int, (Loopy.check q : Int) = C := ⟨_, rfl⟩
  rw [hC] at HC
  have HR : Hid (C = 0 → Loopy.Right q) := fun h => (Loopy.check_iff q).1 (by omega)
  clear hC
  have HQ := Lib.hid hq
  obtain ⟨⟨AT, cT, rfl, _⟩, ⟨AS, cS, rfl, _⟩, ⟨AR, cR, rfl, _⟩⟩ := hq
  obtain ⟨c0, hc0⟩ : ∃ c, lag q (.slice AT q.tasks.length cT) (.slice AS q.smalls.length cS) (.slice AR q.timers.length cR) = c := ⟨_, rfl⟩
  go_enter Try.func5, Try.ntmps5
  go_upto_region 1 with (fail)
  rw [hc0]
  have b0 : Box (w.alloc (.cells c0 26)) w.heap.size 26 c0 := Box.new w _ _
  have hU : Below w.heap.size w (w.alloc (.cells c0 26)) := below1 w _
  generalize (w.alloc (.cells c0 26)) = W at *
  go_wp2_with (fail)
  refine (loopLives_true _).mono ?_
  rintro e w1 ⟨rfl, hb1⟩
  have b1 := b0.below hb1 b0.lt
  have hU1 : Below w.heap.size w w1 := hU.trans (hb1.mono hU.size)
  have hW1 := Lib.hid (HQ.out.below hU1)
  clear b0 hb1 hU
  subst hc0
  have u0 := b1.cell 0
  have u1 := b1.cell 1
  have u2 := b1.cell 2
  have u3 := b1.cell 3
  have u4 := b1.cell 4
  simp at u0 u1 u2 u3 u4
  go_wp2_with (fail)
  refine (HC.out _ _ _ _ hW1.out).mono ?_
  rintro e w2 ⟨rfl, hb2⟩
  have b2 := b1.below hb2 b1.lt
  have hU2 : Below w.heap.size w w2 := hU1.trans (hb2.mono hU1.size)
  clear b1 hb2 hU1 u0 u1 u2 u3 u4
  have u0 := b2.cell 0
  simp at u0
  by_cases y1 : C = 0
  · subst y1
    have hR := HR.out rfl
    have HRq := Lib.hid hR
    have l1 := hR.l1
    have l2 := hR.l2
    have l3 := hR.l3
    clear hR
    by_cases x1 : til < q.now
    · have d1 : decide (til < q.now) = true := decide_eq_true x1
      go_wp2_with (fail)
      refine (loopLives_true _).mono ?_
      rintro e w3 ⟨rfl, hb3⟩
      go_wp2
      go_ret
      exact ⟨rfl, hU2.trans (hb3.mono hU2.size)⟩
    · have d1 : decide (til < q.now) = false := decide_eq_false x1
      by_cases x2 : til > 1000000000
      · have d2 : decide (til > 1000000000) = true := decide_eq_true x2
        go_wp2_with (fail)
        refine (loopLives_true _).mono ?_
        rintro e w3 ⟨rfl, hb3⟩
        go_wp2
        go_ret
        exact ⟨rfl, hU2.trans (hb3.mono hU2.size)⟩
      · have d2 : decide (til > 1000000000) = false := decide_eq_false x2
        have u2 := b2.cell 2
        have u3 := b2.cell 3
        simp at u2 u3
        go_upto_region 5 with (first | (refine wpList_load_row rfl 26 (.tmp 2) rfl w.heap.size rfl _ (lag q (.slice AT q.tasks.length cT) (.slice AS q.smalls.length cS) (.slice AR q.timers.length cR)) (0, 0) _ b2 Try.underlying26 rfl info_loop ?_) | (refine wpList_store_box rfl 26 (.tmp 7) (.tmp 35) rfl w2.heap.size (lag q (.slice AT q.tasks.length cT) (.slice AS q.smalls.length cS) (.slice AR q.timers.length cR)) rfl rfl 26 _ (Box.new w2 26 #[.int .i64 0, .int .i64 0, .slice none 0 0, .slice none 0 0, .slice none 0 0]) info_loop rfl (by simp [Value.oneCell']) ?_; intro w3 hx3 hu3 hz3))
        have hb3 : Below w2.heap.size w2 w3 := ((Below.refl _ w2).alloc (Nat.le_refl _) _).trans (hu3.own (Nat.le_refl _) (by simp))
        have b3 := b2.below hb3 b2.lt
        have hU3 : Below w.heap.size w w3 := hU2.trans (hb3.mono hU2.size)
        have hPQ : w.heap.size < w2.heap.size := b2.lt
        have hzw3 := hx3.lt
        have HW3 := Lib.hid (HQ.out.below hU3)
        have HB2 := Lib.hid b3
        have f2 := b3.cell 2
        simp at f2
        clear b2 hb3 hu3 hz3 u0 u2 u3
        go_upto_region 6 with (fail)
        clear f2
        generalize hN : q.smalls.length + q.tasks.length + 1 = N
        go_loopg [6, 42] N (fun gg s6 s42 wr => ∃ (k tk : Nat) (p : Loopy.Loop) (T S R : Value), k ≤ N ∧ N - k ≤ gg ∧ s6 = .int .i64 (tk : Int) ∧ s42 = .int .i64 (k : Int) ∧ tk ≤ q.tasks.length ∧ Hid (Below w.heap.size w wr) ∧ Hid (Box wr w.heap.size 26 (lag q (.slice AT q.tasks.length cT) (.slice AS q.smalls.length cS) (.slice AR q.timers.length cR))) ∧ Hid (Box wr w2.heap.size 26 (lag p T S R)) ∧ Hid (LRd wr p T S R) ∧ Hid ((lag p T S R).all (·.oneCell') = true) ∧ Hid (Loopy.Right p ∧ p.now ≤ til ∧ p.smalls = q.smalls.drop k ∧ p.tasks = q.tasks.drop tk))
        case atStart => exact ⟨0, 0, q, _, _, _, Nat.zero_le _, by omega, rfl, rfl, Nat.zero_le _, hU3, b3, hx3, HW3.out, (by show _ = true; simp [Value.oneCell']), HRq.out, by omega, rfl, rfl⟩
        case round =>
          obtain ⟨k, tk, p, T, S, R, hk, hg, rfl, rfl, htk, HB, BQ, BP, LR, ON, PR⟩ := hrel
          have hQr := BQ.out.lt
          have hPr := BP.out.lt
          by_cases hlt : k < N
          · have hlt2 : decide ((k : Int) < (q.smalls.length : Int) + (q.tasks.length : Int) + 1) = true := by simp; omega
            obtain ⟨o, oj, tk2, en, ro, no, so, to, htk2, hcs⟩ := Loopy.small_cases (q := q) (p := p) (til := til) (k := k) (tk := tk) PR.out.1 PR.out.2.1 (by unfold Loopy.most; omega) PR.out.2.2.1 PR.out.2.2.2 htk
            have hnr := nextR_ok PR.out.1 PR.out.2.1 (by omega)
            rw [en] at hnr
            have HN : Hid (∀ w T S R, LRd w p T S R → Calls Try.prog 14 #[.agg (lag p T S R), .int .i64 til] w fun e w' => NextFnOut w ((o, oj), 0) e w') := fun w T S R h => by have := Next_any p til T S R w h; rw [hnr] at this; exact this
            have PO : Hid (Loopy.Right o ∧ o.now ≤ til ∧ o.smalls = q.smalls.drop (k + 1) ∧ o.tasks = q.tasks.drop tk2) := ⟨ro, no, so, to⟩
            have lT : p.timers.length ≤ 1000000 := by have := PR.out.1.l3; omega
            have HCS := Lib.hid hcs
            clear en ro no so to hcs hnr
            have bp := BP.out
            go_wp2_with (refine wpList_load_row rfl 26 (.tmp 7) rfl w2.heap.size rfl _ (lag p T S R) (0, 0) _ bp Try.underlying26 rfl info_loop ?_)
            refine (HN.out _ _ _ _ LR.out).mono ?_
            rintro e w4 ⟨T2, S2, R2, rfl, ho2, hb4⟩
            dsimp only at ho2 ⊢
            have hone2 := ho2.one
            have O2 := Lib.hid ho2
            have HB4 := Lib.hid hb4
            have hz4 := hb4.size
            clear ho2 hb4 bp
            obtain ⟨j2, hj2⟩ : ∃ j, oj.getD jzero = j := ⟨_, rfl⟩
            obtain ⟨is2, his2⟩ : ∃ b, oj.isSome = b := ⟨_, rfl⟩
            rw [hj2, his2]
            have HJ2 := Lib.hid hj2
            have HI2 := Lib.hid his2
            clear hj2 his2
            have bx0 : Box ((w4.alloc (.cells #[.int .i64 0, .int .i64 0, .slice none 0 0, .slice none 0 0, .slice none 0 0] 26)).alloc (.cells (jc jzero) 39)) w4.heap.size 26 #[.int .i64 0, .int .i64 0, .slice none 0 0, .slice none 0 0, .slice none 0 0] := (Box.new w4 _ _).alloc _
            have bx1 : Box ((w4.alloc (.cells #[.int .i64 0, .int .i64 0, .slice none 0 0, .slice none 0 0, .slice none 0 0] 26)).alloc (.cells (jc jzero) 39)) (w4.heap.size + 1) 39 (jc jzero) := by have := Box.new (w4.alloc (.cells #[.int .i64 0, .int .i64 0, .slice none 0 0, .slice none 0 0, .slice none 0 0] 26)) 39 (jc jzero); simpa using this
            have hUx : Below w4.heap.size w4 ((w4.alloc (.cells #[.int .i64 0, .int .i64 0, .slice none 0 0, .slice none 0 0, .slice none 0 0] 26)).alloc (.cells (jc jzero) 39)) := (below1 w4 _).alloc (by simp) _
            have hzx : w4.heap.size + 1 + 1 ≤ ((w4.alloc (.cells #[.int .i64 0, .int .i64 0, .slice none 0 0, .slice none 0 0, .slice none 0 0] 26)).alloc (.cells (jc jzero) 39)).heap.size := by simp
            go_upto_region 9 with (first | (refine wpList_store_box rfl 26 (.tmp 9) (.tmp 49) rfl w4.heap.size (lag o T2 S2 R2) rfl rfl 26 _ bx0 info_loop rfl hone2 ?_; intro w5 hx5 hu5 hz5; have bx4 := bx1.grown hu5 (by intro h; injection h with h; omega); have hU5 := hUx.trans (hu5.own (Nat.le_refl _) (Nat.le_of_lt bx0.lt)); clear hu5 hz5 hzx) | (refine wpList_store_box rfl 39 (.tmp 10) (.tmp 50) rfl (w4.heap.size + 1) (jc j2) rfl rfl 39 _ bx4 info_job rfl (jc_one _) ?_; intro w6 hx6 hu6 hz6; have hy6 := hx5.grown hu6 (by intro h; injection h with h; omega); have hU6 := hU5.trans (hu6.own (by omega) hU5.size); clear hu6 hz6))
            have H46 := Lib.hid (HB4.out.trans (hU6.mono HB4.out.size))
            have BQ6 := Lib.hid (BQ.out.below H46.out hQr)
            have BP6 := Lib.hid (BP.out.below H46.out hPr)
            have LR6 := Lib.hid (LR.out.below H46.out)
            have O6 := Lib.hid (O2.out.below hU6)
            have HB6 := Lib.hid (HB.out.trans (H46.out.mono HB.out.size))
            have B9 := Lib.hid hy6
            have B10 := Lib.hid hx6
            have HQ6 := Lib.hid (HQ.out.below HB6.out)
            have hn10 := hx6.lt
            have hs6 : w4.heap.size < w6.heap.size := by omega
            have ONE2 := Lib.hid hone2
            clear hx5 hx6 hy6 bx0 bx1 bx4 hUx hU5 hU6 BQ BP LR O2 HB hone2
            have HT : Hid (∀ w', Below w6.heap.size w6 w' → Calls Try.prog 16 #[R, .func (.func 17) #[] #[.pointer (some ⟨w4.heap.size + 1, 0, none⟩)]] w' fun e w'' => e = .returned (.bool (p.timers.any fun t => t.id == j2.id)) ∧ Below w'.heap.size w' w'') := fun w' h => has_timer p.timers R j2.id _ w' (LR6.out.below h).r lT (((h.cell (p := ⟨w4.heap.size + 1, 0, none⟩) hn10).trans (B10.out.cell 0)).trans rfl)
            have p4 := BP6.out.cell 4
            simp at p4
            rcases HCS.out with hc | hc | hc | hc <;> clear HCS
            · obtain ⟨hkS, rfl, j, rfl, hj⟩ := hc
              obtain rfl : is2 = true := HI2.out.symm
              obtain rfl : j2 = j := HJ2.out.symm
              generalize (p.timers.any fun t => t.id == j2.id) = tb at HT
              have dk : decide ((k : Int) < (q.smalls.length : Int)) = true := by simp; omega
              have dg : decide ((k : Int) ≥ (q.smalls.length : Int)) = false := by simp; omega
              have dkN : decide (k < q.smalls.length) = true := by simp; omega
              have dgN : decide (q.smalls.length ≤ k) = false := by simp; omega
              clear HI2 HJ2
              have hltz : (k : Int) < (q.smalls.length : Int) := by omega
              obtain ⟨_, _, hx1, _, _, hx4⟩ := HQ6.out.s
              injection hx1 with hx1 _ hx5
              subst hx1
              subst hx5
              obtain ⟨g0, o0, rfl, hg0, hrg⟩ := hx4 (by omega)
              have hel := RdL.elem (k := 7) (f := jc) (fun _ => rfl) hrg hj
              have z0 := hel 0 (.int .i64 j2.id) rfl
              have z1 := hel 1 (.int .i64 j2.src) rfl
              have z2 := hel 2 (.bool j2.small) rfl
              have z3 := hel 3 (.string (byt j2.call)) rfl
              have z4 := hel 4 (.int .i64 j2.arg.k) rfl
              have z5 := hel 5 (.int .i64 j2.arg.n) rfl
              have z6 := hel 6 (.string (byt j2.arg.s)) rfl
              simp only [Nat.add_zero] at z0
              have y0 := B10.out.cell 0
              have y1 := B10.out.cell 1
              have y2 := B10.out.cell 2
              have y3 := B10.out.cell 3
              have y4 := B10.out.cell 4
              have y5 := B10.out.cell 5
              have y6 := B10.out.cell 6
              simp at y0 y1 y2 y3 y4 y5 y6
              have q3 := BQ6.out.cell 3
              simp at q3
              have hnq := fun w => neq_same j2 w
              clear hrg hel hx4 hj
              go_quiet (fail)
              go_wp2_with (fail)
              refine (HT.out _ (below_drewN (Below.refl _ _) _)).mono ?_
              rintro e w8 ⟨rfl, hb8⟩
              have hb68 : Below w6.heap.size w6 w8 := (below_drewN (Below.refl _ w6) _).trans hb8
              have BQ8 := Lib.hid (BQ6.out.below hb68 BQ6.out.lt)
              have BP8 := Lib.hid (BP6.out.below hb68 BP6.out.lt)
              have O8 := Lib.hid (O6.out.below hb68)
              have HB8 := Lib.hid (HB6.out.trans (hb68.mono HB6.out.size))
              have B98 := Lib.hid (B9.out.below hb68 B9.out.lt)
              have B108 := Lib.hid (B10.out.below hb68 B10.out.lt)
              have hz8 := hb68.size
              clear hb8 hb68 p4 BQ6 BP6 O6 HB6 B9 B10 HT LR6 z0 z1 z2 z3 z4 z5 z6 y0 y1 y2 y3 y4 y5 y6 q3
              go_wp2_with (first | (refine wpList_load_row rfl 26 (.tmp 9) rfl w4.heap.size rfl _ (lag o T2 S2 R2) (0, 0) _ B98.out Try.underlying26 rfl info_loop ?_) | (refine wpList_store_box rfl 26 (.tmp 7) (.tmp 113) rfl w2.heap.size (lag o T2 S2 R2) rfl rfl 26 _ BP8.out info_loop rfl ONE2.out ?_; intro w9 hx9 hu9 hz9; have hv9 : Upd w8 w9 w2.heap.size := hu9; clear hu9 hz9))
              go_roundg (N - (k + 1))
              case measure => omega
              case rel =>
                exact ⟨k + 1, tk2, o, T2, S2, R2, by omega, by omega, by go_num, by go_num, htk2, HB8.out.trans (hv9.own (by omega) HB8.out.size), BQ8.out.grown hv9 (by intro h; injection h with h; omega), hx9, (O8.out.far hv9 (by omega)).rd, ONE2.out, PO.out⟩
            · obtain ⟨hkS, rfl, j, rfl, hany, hsm⟩ := hc
              obtain rfl : is2 = true := HI2.out.symm
              obtain rfl : j2 = j := HJ2.out.symm
              rw [hany] at HT
              have dk : decide ((k : Int) < (q.smalls.length : Int)) = false := by simp; omega
              have dg : decide ((k : Int) ≥ (q.smalls.length : Int)) = true := by simp; omega
              have dkN : decide (k < q.smalls.length) = false := by simp; omega
              have dgN : decide (q.smalls.length ≤ k) = true := by simp; omega
              clear HI2 HJ2
              refine wp_region_held_drew (S := fun w' => Below w6.heap.size w6 w') (by kernel_rfl) (Below.refl _ _).drew (fun hHeld => ?_)
              refine wpAnyH_take (i := 0) (v := ?_) rfl (by kernel_rfl) (by kernel_rfl) (by kernel_rfl) (fun _ _ _ h => h) (Or.inl ⟨by kernel_rfl, ?_⟩) (by assumption) ?_
              rotate_left
              · intro w hSw
                (try dsimp only at hSw)
                go_simp
                try (with_reducible rfl)
              (try simp only [Act.put, List.getElem_toArray, List.getElem_cons_zero, List.setIfInBounds_toArray, List.set_cons_zero, List.set_cons_succ])
              refine wpAnyH_take (i := 1) (v := ?_) rfl (by kernel_rfl) (by kernel_rfl) (by kernel_rfl) (fun _ _ _ h => h) (Or.inl ⟨by kernel_rfl, ?_⟩) (by assumption) ?_
              rotate_left
              · intro w hSw
                (try dsimp only at hSw)
                go_simp
                try (with_reducible rfl)
              (try simp only [Act.put, List.getElem_toArray, List.getElem_cons_succ, List.getElem_cons_zero, List.setIfInBounds_toArray, List.set_cons_zero, List.set_cons_succ])
              refine wpAnyH_take (i := 2) (v := ?_) rfl (by kernel_rfl) (by kernel_rfl) (by kernel_rfl) (fun _ _ _ h => h) (Or.inl ⟨by kernel_rfl, ?_⟩) (by assumption) ?_
              rotate_left
              · intro w hSw
                (try dsimp only at hSw)
                go_simp
                try (with_reducible rfl)
              (try simp only [Act.put, List.getElem_toArray, List.getElem_cons_succ, List.getElem_cons_zero, List.setIfInBounds_toArray, List.set_cons_zero, List.set_cons_succ])
              refine wpAnyH_take (i := 3) (v := ?_) rfl (by kernel_rfl) (by kernel_rfl) (by kernel_rfl) (fun _ _ _ h => h) (Or.inl ⟨by kernel_rfl, ?_⟩) (by assumption) ?_
              rotate_left
              · intro w hSw
                (try dsimp only at hSw)
                go_simp
                try (with_reducible rfl)
              (try simp only [Act.put, List.getElem_toArray, List.getElem_cons_succ, List.getElem_cons_zero, List.setIfInBounds_toArray, List.set_cons_zero, List.set_cons_succ])
              refine wpAnyH_take (i := 4) (v := ?_) rfl (by kernel_rfl) (by kernel_rfl) (by kernel_rfl) (fun _ _ _ h => h) (Or.inl ⟨by kernel_rfl, ?_⟩) (by assumption) ?_
              rotate_left
              · intro w hSw
                (try dsimp only at hSw)
                go_simp
                try (with_reducible rfl)
              (try simp only [Act.put, List.getElem_toArray, List.getElem_cons_succ, List.getElem_cons_zero, List.setIfInBounds_toArray, List.set_cons_zero, List.set_cons_succ])
              refine wpAnyH_take (i := 5) (v := ?_) rfl (by kernel_rfl) (by kernel_rfl) (by kernel_rfl) (fun _ _ _ h => h) (Or.inl ⟨by kernel_rfl, ?_⟩) (by assumption) ?_
              rotate_left
              · intro w hSw
                (try dsimp only at hSw)
                go_simp
                try (with_reducible rfl)
              (try simp only [Act.put, List.getElem_toArray, List.getElem_cons_succ, List.getElem_cons_zero, List.setIfInBounds_toArray, List.set_cons_zero, List.set_cons_succ])
              refine wpAnyH_take (i := 6) (v := ?_) rfl (by kernel_rfl) (by kernel_rfl) (by kernel_rfl) (fun _ _ _ h => h) (Or.inl ⟨by kernel_rfl, ?_⟩) (by assumption) ?_
              rotate_left
              · intro w hSw
                (try dsimp only at hSw)
                go_simp
                try (with_reducible rfl)
              (try simp only [Act.put, List.getElem_toArray, List.getElem_cons_succ, List.getElem_cons_zero, List.setIfInBounds_toArray, List.set_cons_zero, List.set_cons_succ])
              refine wpAnyH_take (i := 7) (v := undef) rfl (by kernel_rfl) (by kernel_rfl) (by kernel_rfl) (fun _ _ _ h => h) (Or.inr ⟨by kernel_rfl, rfl⟩) (by assumption) ?_
              (try simp only [Act.put, List.getElem_toArray, List.getElem_cons_succ, List.getElem_cons_zero, List.setIfInBounds_toArray, List.set_cons_zero, List.set_cons_succ])
              refine wpAnyH_take (i := 8) (v := undef) rfl (by kernel_rfl) (by kernel_rfl) (by kernel_rfl) (fun _ _ _ h => h) (Or.inr ⟨by kernel_rfl, rfl⟩) (by assumption) ?_
              (try simp only [Act.put, List.getElem_toArray, List.getElem_cons_succ, List.getElem_cons_zero, List.setIfInBounds_toArray, List.set_cons_zero, List.set_cons_succ])
              refine wpAnyH_take (i := 9) (v := undef) rfl (by kernel_rfl) (by kernel_rfl) (by kernel_rfl) (fun _ _ _ h => h) (Or.inr ⟨by kernel_rfl, rfl⟩) (by assumption) ?_
              (try simp only [Act.put, List.getElem_toArray, List.getElem_cons_succ, List.getElem_cons_zero, List.setIfInBounds_toArray, List.set_cons_zero, List.set_cons_succ])
              refine wpAnyH_take (i := 10) (v := undef) rfl (by kernel_rfl) (by kernel_rfl) (by kernel_rfl) (fun _ _ _ h => h) (Or.inr ⟨by kernel_rfl, rfl⟩) (by assumption) ?_
              (try simp only [Act.put, List.getElem_toArray, List.getElem_cons_succ, List.getElem_cons_zero, List.setIfInBounds_toArray, List.set_cons_zero, List.set_cons_succ])
              refine wpAnyH_take (i := 11) (v := undef) rfl (by kernel_rfl) (by kernel_rfl) (by kernel_rfl) (fun _ _ _ h => h) (Or.inr ⟨by kernel_rfl, rfl⟩) (by assumption) ?_
              (try simp only [Act.put, List.getElem_toArray, List.getElem_cons_succ, List.getElem_cons_zero, List.setIfInBounds_toArray, List.set_cons_zero, List.set_cons_succ])
              refine wpAnyH_take (i := 12) (v := undef) rfl (by kernel_rfl) (by kernel_rfl) (by kernel_rfl) (fun _ _ _ h => h) (Or.inr ⟨by kernel_rfl, rfl⟩) (by assumption) ?_
              (try simp only [Act.put, List.getElem_toArray, List.getElem_cons_succ, List.getElem_cons_zero, List.setIfInBounds_toArray, List.set_cons_zero, List.set_cons_succ])
              refine wpAnyH_take (i := 13) (v := undef) rfl (by kernel_rfl) (by kernel_rfl) (by kernel_rfl) (fun _ _ _ h => h) (Or.inr ⟨by kernel_rfl, rfl⟩) (by assumption) ?_
              (try simp only [Act.put, List.getElem_toArray, List.getElem_cons_succ, List.getElem_cons_zero, List.setIfInBounds_toArray, List.set_cons_zero, List.set_cons_succ])
              refine wpAnyH_take (i := 14) (v := undef) rfl (by kernel_rfl) (by kernel_rfl) (by kernel_rfl) (fun _ _ _ h => h) (Or.inr ⟨by kernel_rfl, rfl⟩) (by assumption) ?_
              (try simp only [Act.put, List.getElem_toArray, List.getElem_cons_succ, List.getElem_cons_zero, List.setIfInBounds_toArray, List.set_cons_zero, List.set_cons_succ])
              refine wpAnyH_take (i := 15) (v := undef) rfl (by kernel_rfl) (by kernel_rfl) (by kernel_rfl) (fun _ _ _ h => h) (Or.inr ⟨by kernel_rfl, rfl⟩) (by assumption) ?_
              (try simp only [Act.put, List.getElem_toArray, List.getElem_cons_succ, List.getElem_cons_zero, List.setIfInBounds_toArray, List.set_cons_zero, List.set_cons_succ])
              refine wpAnyH_take (i := 16) (v := undef) rfl (by kernel_rfl) (by kernel_rfl) (by kernel_rfl) (fun _ _ _ h => h) (Or.inr ⟨by kernel_rfl, rfl⟩) (by assumption) ?_
              (try simp only [Act.put, List.getElem_toArray, List.getElem_cons_succ, List.getElem_cons_zero, List.setIfInBounds_toArray, List.set_cons_zero, List.set_cons_succ])
              refine wpAnyH_take (i := 17) (v := undef) rfl (by kernel_rfl) (by kernel_rfl) (by kernel_rfl) (fun _ _ _ h => h) (Or.inr ⟨by kernel_rfl, rfl⟩) (by assumption) ?_
              (try simp only [Act.put, List.getElem_toArray, List.getElem_cons_succ, List.getElem_cons_zero, List.setIfInBounds_toArray, List.set_cons_zero, List.set_cons_succ])
              refine wpAnyH_take (i := 18) (v := ?_) rfl (by kernel_rfl) (by kernel_rfl) (by kernel_rfl) (fun _ _ _ h => h) (Or.inl ⟨by kernel_rfl, ?_⟩) (by assumption) ?_
              rotate_left
              · intro w hSw
                (try dsimp only at hSw)
                go_simp
                try (with_reducible rfl)
              (try simp only [Act.put, List.getElem_toArray, List.getElem_cons_succ, List.getElem_cons_zero, List.setIfInBounds_toArray, List.set_cons_zero, List.set_cons_succ])
              refine wpAnyH_take (i := 19) (v := ?_) rfl (by kernel_rfl) (by kernel_rfl) (by kernel_rfl) (fun _ _ _ h => h) (Or.inl ⟨by kernel_rfl, ?_⟩) (by assumption) ?_
              rotate_left
              · intro w hSw
                (try dsimp only at hSw)
                go_simp
                try (with_reducible rfl)
              (try simp only [Act.put, List.getElem_toArray, List.getElem_cons_succ, List.getElem_cons_zero, List.setIfInBounds_toArray, List.set_cons_zero, List.set_cons_succ])
              refine wpAnyH_done (by kernel_rfl) ?_ _
              go_wp2_with (fail)
              refine (HT.out _ (Below.refl _ _).drew).mono ?_
              rintro e w8 ⟨rfl, hb8⟩
              have hb68 : Below w6.heap.size w6 w8 := (Below.refl _ w6).drew.trans hb8
              have BQ8 := Lib.hid (BQ6.out.below hb68 BQ6.out.lt)
              have BP8 := Lib.hid (BP6.out.below hb68 BP6.out.lt)
              have O8 := Lib.hid (O6.out.below hb68)
              have HB8 := Lib.hid (HB6.out.trans (hb68.mono HB6.out.size))
              have B98 := Lib.hid (B9.out.below hb68 B9.out.lt)
              have B108 := Lib.hid (B10.out.below hb68 B10.out.lt)
              have hz8 := hb68.size
              clear hb8 hb68 p4 BQ6 BP6 O6 HB6 B9 B10 HT LR6
              have y2 := B108.out.cell 2
              simp at y2
              rw [hsm] at y2
              go_wp2_with (first | (refine wpList_load_row rfl 26 (.tmp 9) rfl w4.heap.size rfl _ (lag o T2 S2 R2) (0, 0) _ B98.out Try.underlying26 rfl info_loop ?_) | (refine wpList_store_box rfl 26 (.tmp 7) (.tmp 113) rfl w2.heap.size (lag o T2 S2 R2) rfl rfl 26 _ BP8.out info_loop rfl ONE2.out ?_; intro w9 hx9 hu9 hz9; have hv9 : Upd w8 w9 w2.heap.size := hu9; clear hu9 hz9))
              go_roundg (N - (k + 1))
              case measure => omega
              case rel =>
                exact ⟨k + 1, tk2, o, T2, S2, R2, by omega, by omega, by go_num, by go_num, htk2, HB8.out.trans (hv9.own (by omega) HB8.out.size), BQ8.out.grown hv9 (by intro h; injection h with h; omega), hx9, (O8.out.far hv9 (by omega)).rd, ONE2.out, PO.out⟩
            · obtain ⟨hkS, rfl, j, rfl, hany, hsm, hj⟩ := hc
              obtain rfl : is2 = true := HI2.out.symm
              obtain rfl : j2 = j := HJ2.out.symm
              rw [hany] at HT
              have dk : decide ((k : Int) < (q.smalls.length : Int)) = false := by simp; omega
              have dg : decide ((k : Int) ≥ (q.smalls.length : Int)) = true := by simp; omega
              have dkN : decide (k < q.smalls.length) = false := by simp; omega
              have dgN : decide (q.smalls.length ≤ k) = true := by simp; omega
              clear HI2 HJ2
              refine wp_region_held_drew (S := fun w' => Below w6.heap.size w6 w') (by kernel_rfl) (Below.refl _ _).drew (fun hHeld => ?_)
              refine wpAnyH_take (i := 0) (v := ?_) rfl (by kernel_rfl) (by kernel_rfl) (by kernel_rfl) (fun _ _ _ h => h) (Or.inl ⟨by kernel_rfl, ?_⟩) (by assumption) ?_
              rotate_left
              · intro w hSw
                (try dsimp only at hSw)
                go_simp
                try (with_reducible rfl)
              (try simp only [Act.put, List.getElem_toArray, List.getElem_cons_zero, List.setIfInBounds_toArray, List.set_cons_zero, List.set_cons_succ])
              refine wpAnyH_take (i := 1) (v := ?_) rfl (by kernel_rfl) (by kernel_rfl) (by kernel_rfl) (fun _ _ _ h => h) (Or.inl ⟨by kernel_rfl, ?_⟩) (by assumption) ?_
              rotate_left
              · intro w hSw
                (try dsimp only at hSw)
                go_simp
                try (with_reducible rfl)
              (try simp only [Act.put, List.getElem_toArray, List.getElem_cons_succ, List.getElem_cons_zero, List.setIfInBounds_toArray, List.set_cons_zero, List.set_cons_succ])
              refine wpAnyH_take (i := 2) (v := ?_) rfl (by kernel_rfl) (by kernel_rfl) (by kernel_rfl) (fun _ _ _ h => h) (Or.inl ⟨by kernel_rfl, ?_⟩) (by assumption) ?_
              rotate_left
              · intro w hSw
                (try dsimp only at hSw)
                go_simp
                try (with_reducible rfl)
              (try simp only [Act.put, List.getElem_toArray, List.getElem_cons_succ, List.getElem_cons_zero, List.setIfInBounds_toArray, List.set_cons_zero, List.set_cons_succ])
              refine wpAnyH_take (i := 3) (v := ?_) rfl (by kernel_rfl) (by kernel_rfl) (by kernel_rfl) (fun _ _ _ h => h) (Or.inl ⟨by kernel_rfl, ?_⟩) (by assumption) ?_
              rotate_left
              · intro w hSw
                (try dsimp only at hSw)
                go_simp
                try (with_reducible rfl)
              (try simp only [Act.put, List.getElem_toArray, List.getElem_cons_succ, List.getElem_cons_zero, List.setIfInBounds_toArray, List.set_cons_zero, List.set_cons_succ])
              refine wpAnyH_take (i := 4) (v := ?_) rfl (by kernel_rfl) (by kernel_rfl) (by kernel_rfl) (fun _ _ _ h => h) (Or.inl ⟨by kernel_rfl, ?_⟩) (by assumption) ?_
              rotate_left
              · intro w hSw
                (try dsimp only at hSw)
                go_simp
                try (with_reducible rfl)
              (try simp only [Act.put, List.getElem_toArray, List.getElem_cons_succ, List.getElem_cons_zero, List.setIfInBounds_toArray, List.set_cons_zero, List.set_cons_succ])
              refine wpAnyH_take (i := 5) (v := ?_) rfl (by kernel_rfl) (by kernel_rfl) (by kernel_rfl) (fun _ _ _ h => h) (Or.inl ⟨by kernel_rfl, ?_⟩) (by assumption) ?_
              rotate_left
              · intro w hSw
                (try dsimp only at hSw)
                go_simp
                try (with_reducible rfl)
              (try simp only [Act.put, List.getElem_toArray, List.getElem_cons_succ, List.getElem_cons_zero, List.setIfInBounds_toArray, List.set_cons_zero, List.set_cons_succ])
              refine wpAnyH_take (i := 6) (v := ?_) rfl (by kernel_rfl) (by kernel_rfl) (by kernel_rfl) (fun _ _ _ h => h) (Or.inl ⟨by kernel_rfl, ?_⟩) (by assumption) ?_
              rotate_left
              · intro w hSw
                (try dsimp only at hSw)
                go_simp
                try (with_reducible rfl)
              (try simp only [Act.put, List.getElem_toArray, List.getElem_cons_succ, List.getElem_cons_zero, List.setIfInBounds_toArray, List.set_cons_zero, List.set_cons_succ])
              refine wpAnyH_take (i := 7) (v := undef) rfl (by kernel_rfl) (by kernel_rfl) (by kernel_rfl) (fun _ _ _ h => h) (Or.inr ⟨by kernel_rfl, rfl⟩) (by assumption) ?_
              (try simp only [Act.put, List.getElem_toArray, List.getElem_cons_succ, List.getElem_cons_zero, List.setIfInBounds_toArray, List.set_cons_zero, List.set_cons_succ])
              refine wpAnyH_take (i := 8) (v := undef) rfl (by kernel_rfl) (by kernel_rfl) (by kernel_rfl) (fun _ _ _ h => h) (Or.inr ⟨by kernel_rfl, rfl⟩) (by assumption) ?_
              (try simp only [Act.put, List.getElem_toArray, List.getElem_cons_succ, List.getElem_cons_zero, List.setIfInBounds_toArray, List.set_cons_zero, List.set_cons_succ])
              refine wpAnyH_take (i := 9) (v := undef) rfl (by kernel_rfl) (by kernel_rfl) (by kernel_rfl) (fun _ _ _ h => h) (Or.inr ⟨by kernel_rfl, rfl⟩) (by assumption) ?_
              (try simp only [Act.put, List.getElem_toArray, List.getElem_cons_succ, List.getElem_cons_zero, List.setIfInBounds_toArray, List.set_cons_zero, List.set_cons_succ])
              refine wpAnyH_take (i := 10) (v := undef) rfl (by kernel_rfl) (by kernel_rfl) (by kernel_rfl) (fun _ _ _ h => h) (Or.inr ⟨by kernel_rfl, rfl⟩) (by assumption) ?_
              (try simp only [Act.put, List.getElem_toArray, List.getElem_cons_succ, List.getElem_cons_zero, List.setIfInBounds_toArray, List.set_cons_zero, List.set_cons_succ])
              refine wpAnyH_take (i := 11) (v := undef) rfl (by kernel_rfl) (by kernel_rfl) (by kernel_rfl) (fun _ _ _ h => h) (Or.inr ⟨by kernel_rfl, rfl⟩) (by assumption) ?_
              (try simp only [Act.put, List.getElem_toArray, List.getElem_cons_succ, List.getElem_cons_zero, List.setIfInBounds_toArray, List.set_cons_zero, List.set_cons_succ])
              refine wpAnyH_take (i := 12) (v := undef) rfl (by kernel_rfl) (by kernel_rfl) (by kernel_rfl) (fun _ _ _ h => h) (Or.inr ⟨by kernel_rfl, rfl⟩) (by assumption) ?_
              (try simp only [Act.put, List.getElem_toArray, List.getElem_cons_succ, List.getElem_cons_zero, List.setIfInBounds_toArray, List.set_cons_zero, List.set_cons_succ])
              refine wpAnyH_take (i := 13) (v := undef) rfl (by kernel_rfl) (by kernel_rfl) (by kernel_rfl) (fun _ _ _ h => h) (Or.inr ⟨by kernel_rfl, rfl⟩) (by assumption) ?_
              (try simp only [Act.put, List.getElem_toArray, List.getElem_cons_succ, List.getElem_cons_zero, List.setIfInBounds_toArray, List.set_cons_zero, List.set_cons_succ])
              refine wpAnyH_take (i := 14) (v := undef) rfl (by kernel_rfl) (by kernel_rfl) (by kernel_rfl) (fun _ _ _ h => h) (Or.inr ⟨by kernel_rfl, rfl⟩) (by assumption) ?_
              (try simp only [Act.put, List.getElem_toArray, List.getElem_cons_succ, List.getElem_cons_zero, List.setIfInBounds_toArray, List.set_cons_zero, List.set_cons_succ])
              refine wpAnyH_take (i := 15) (v := undef) rfl (by kernel_rfl) (by kernel_rfl) (by kernel_rfl) (fun _ _ _ h => h) (Or.inr ⟨by kernel_rfl, rfl⟩) (by assumption) ?_
              (try simp only [Act.put, List.getElem_toArray, List.getElem_cons_succ, List.getElem_cons_zero, List.setIfInBounds_toArray, List.set_cons_zero, List.set_cons_succ])
              refine wpAnyH_take (i := 16) (v := undef) rfl (by kernel_rfl) (by kernel_rfl) (by kernel_rfl) (fun _ _ _ h => h) (Or.inr ⟨by kernel_rfl, rfl⟩) (by assumption) ?_
              (try simp only [Act.put, List.getElem_toArray, List.getElem_cons_succ, List.getElem_cons_zero, List.setIfInBounds_toArray, List.set_cons_zero, List.set_cons_succ])
              refine wpAnyH_take (i := 17) (v := undef) rfl (by kernel_rfl) (by kernel_rfl) (by kernel_rfl) (fun _ _ _ h => h) (Or.inr ⟨by kernel_rfl, rfl⟩) (by assumption) ?_
              (try simp only [Act.put, List.getElem_toArray, List.getElem_cons_succ, List.getElem_cons_zero, List.setIfInBounds_toArray, List.set_cons_zero, List.set_cons_succ])
              refine wpAnyH_take (i := 18) (v := ?_) rfl (by kernel_rfl) (by kernel_rfl) (by kernel_rfl) (fun _ _ _ h => h) (Or.inl ⟨by kernel_rfl, ?_⟩) (by assumption) ?_
              rotate_left
              · intro w hSw
                (try dsimp only at hSw)
                go_simp
                try (with_reducible rfl)
              (try simp only [Act.put, List.getElem_toArray, List.getElem_cons_succ, List.getElem_cons_zero, List.setIfInBounds_toArray, List.set_cons_zero, List.set_cons_succ])
              refine wpAnyH_take (i := 19) (v := ?_) rfl (by kernel_rfl) (by kernel_rfl) (by kernel_rfl) (fun _ _ _ h => h) (Or.inl ⟨by kernel_rfl, ?_⟩) (by assumption) ?_
              rotate_left
              · intro w hSw
                (try dsimp only at hSw)
                go_simp
                try (with_reducible rfl)
              (try simp only [Act.put, List.getElem_toArray, List.getElem_cons_succ, List.getElem_cons_zero, List.setIfInBounds_toArray, List.set_cons_zero, List.set_cons_succ])
              refine wpAnyH_done (by kernel_rfl) ?_ _
              go_wp2_with (fail)
              refine (HT.out _ (Below.refl _ _).drew).mono ?_
              rintro e w8 ⟨rfl, hb8⟩
              have hb68 : Below w6.heap.size w6 w8 := (Below.refl _ w6).drew.trans hb8
              have BQ8 := Lib.hid (BQ6.out.below hb68 BQ6.out.lt)
              have BP8 := Lib.hid (BP6.out.below hb68 BP6.out.lt)
              have O8 := Lib.hid (O6.out.below hb68)
              have HB8 := Lib.hid (HB6.out.trans (hb68.mono HB6.out.size))
              have B98 := Lib.hid (B9.out.below hb68 B9.out.lt)
              have B108 := Lib.hid (B10.out.below hb68 B10.out.lt)
              have hz8 := hb68.size
              clear hb8 hb68 p4 BQ6 BP6 O6 HB6 B9 B10 HT LR6
              have dtk : decide ((tk : Int) ≥ (q.tasks.length : Int)) = false := by simp; omega
              have dtkN : decide (q.tasks.length ≤ tk) = false := by simp; omega
              have hltz : (tk : Int) < (q.tasks.length : Int) := by omega
              have HQ8 := HQ.out.below HB8.out
              obtain ⟨_, _, hx1, _, _, hx4⟩ := HQ8.t
              injection hx1 with hx1 _ hx5
              subst hx1
              subst hx5
              obtain ⟨g0, o0, rfl, hg0, hrg⟩ := hx4 (by omega)
              have hel := RdL.elem (k := 7) (f := jc) (fun _ => rfl) hrg hj
              have z0 := hel 0 (.int .i64 j2.id) rfl
              have z1 := hel 1 (.int .i64 j2.src) rfl
              have z2 := hel 2 (.bool j2.small) rfl
              have z3 := hel 3 (.string (byt j2.call)) rfl
              have z4 := hel 4 (.int .i64 j2.arg.k) rfl
              have z5 := hel 5 (.int .i64 j2.arg.n) rfl
              have z6 := hel 6 (.string (byt j2.arg.s)) rfl
              simp only [Nat.add_zero] at z0
              have y0 := B108.out.cell 0
              have y1 := B108.out.cell 1
              have y2 := B108.out.cell 2
              have y3 := B108.out.cell 3
              have y4 := B108.out.cell 4
              have y5 := B108.out.cell 5
              have y6 := B108.out.cell 6
              simp at y0 y1 y2 y3 y4 y5 y6
              have q2 := BQ8.out.cell 2
              simp at q2
              have hnq := fun w => neq_same j2 w
              clear hrg hel hx4 hj HQ8
              go_upto_region 13 with (fail)
              go_quiet (fail)
              rw [hsm] at y2
              go_wp2_with (first | (refine wpList_load_row rfl 26 (.tmp 9) rfl w4.heap.size rfl _ (lag o T2 S2 R2) (0, 0) _ (B98.out.below (below_drewN (Below.refl _ _) _) B98.out.lt) Try.underlying26 rfl info_loop ?_) | (refine wpList_store_box rfl 26 (.tmp 7) (.tmp 113) rfl w2.heap.size (lag o T2 S2 R2) rfl rfl 26 _ (BP8.out.below (below_drewN (Below.refl _ _) _) BP8.out.lt) info_loop rfl ONE2.out ?_; intro w9 hx9 hu9 hz9; have hv9 : Upd w8 w9 w2.heap.size := (Upd.below (below_drewN (Below.refl _ w8) _) _).trans hu9; clear hu9 hz9))
              go_roundg (N - (k + 1))
              case measure => omega
              case rel =>
                exact ⟨k + 1, tk + 1, o, T2, S2, R2, by omega, by omega, by go_num, by go_num, htk2, HB8.out.trans (hv9.own (by omega) HB8.out.size), BQ8.out.grown hv9 (by intro h; injection h with h; omega), hx9, (O8.out.far hv9 (by omega)).rd, ONE2.out, PO.out⟩
            · obtain ⟨hkS, rfl, rfl⟩ := hc
              obtain rfl : is2 = false := HI2.out.symm
              generalize (p.timers.any fun t => t.id == j2.id) = tb at HT
              have dk : decide ((k : Int) < (q.smalls.length : Int)) = false := by simp; omega
              have dg : decide ((k : Int) ≥ (q.smalls.length : Int)) = true := by simp; omega
              have dkN : decide (k < q.smalls.length) = false := by simp; omega
              have dgN : decide (q.smalls.length ≤ k) = true := by simp; omega
              clear HI2 HJ2
              refine wp_region_held_drew (S := fun w' => Below w6.heap.size w6 w') (by kernel_rfl) (Below.refl _ _).drew (fun hHeld => ?_)
              refine wpAnyH_take (i := 0) (v := ?_) rfl (by kernel_rfl) (by kernel_rfl) (by kernel_rfl) (fun _ _ _ h => h) (Or.inl ⟨by kernel_rfl, ?_⟩) (by assumption) ?_
              rotate_left
              · intro w hSw
                (try dsimp only at hSw)
                go_simp
                try (with_reducible rfl)
              (try simp only [Act.put, List.getElem_toArray, List.getElem_cons_zero, List.setIfInBounds_toArray, List.set_cons_zero, List.set_cons_succ])
              refine wpAnyH_take (i := 1) (v := ?_) rfl (by kernel_rfl) (by kernel_rfl) (by kernel_rfl) (fun _ _ _ h => h) (Or.inl ⟨by kernel_rfl, ?_⟩) (by assumption) ?_
              rotate_left
              · intro w hSw
                (try dsimp only at hSw)
                go_simp
                try (with_reducible rfl)
              (try simp only [Act.put, List.getElem_toArray, List.getElem_cons_succ, List.getElem_cons_zero, List.setIfInBounds_toArray, List.set_cons_zero, List.set_cons_succ])
              refine wpAnyH_take (i := 2) (v := ?_) rfl (by kernel_rfl) (by kernel_rfl) (by kernel_rfl) (fun _ _ _ h => h) (Or.inl ⟨by kernel_rfl, ?_⟩) (by assumption) ?_
              rotate_left
              · intro w hSw
                (try dsimp only at hSw)
                go_simp
                try (with_reducible rfl)
              (try simp only [Act.put, List.getElem_toArray, List.getElem_cons_succ, List.getElem_cons_zero, List.setIfInBounds_toArray, List.set_cons_zero, List.set_cons_succ])
              refine wpAnyH_take (i := 3) (v := ?_) rfl (by kernel_rfl) (by kernel_rfl) (by kernel_rfl) (fun _ _ _ h => h) (Or.inl ⟨by kernel_rfl, ?_⟩) (by assumption) ?_
              rotate_left
              · intro w hSw
                (try dsimp only at hSw)
                go_simp
                try (with_reducible rfl)
              (try simp only [Act.put, List.getElem_toArray, List.getElem_cons_succ, List.getElem_cons_zero, List.setIfInBounds_toArray, List.set_cons_zero, List.set_cons_succ])
              refine wpAnyH_take (i := 4) (v := ?_) rfl (by kernel_rfl) (by kernel_rfl) (by kernel_rfl) (fun _ _ _ h => h) (Or.inl ⟨by kernel_rfl, ?_⟩) (by assumption) ?_
              rotate_left
              · intro w hSw
                (try dsimp only at hSw)
                go_simp
                try (with_reducible rfl)
              (try simp only [Act.put, List.getElem_toArray, List.getElem_cons_succ, List.getElem_cons_zero, List.setIfInBounds_toArray, List.set_cons_zero, List.set_cons_succ])
              refine wpAnyH_take (i := 5) (v := ?_) rfl (by kernel_rfl) (by kernel_rfl) (by kernel_rfl) (fun _ _ _ h => h) (Or.inl ⟨by kernel_rfl, ?_⟩) (by assumption) ?_
              rotate_left
              · intro w hSw
                (try dsimp only at hSw)
                go_simp
                try (with_reducible rfl)
              (try simp only [Act.put, List.getElem_toArray, List.getElem_cons_succ, List.getElem_cons_zero, List.setIfInBounds_toArray, List.set_cons_zero, List.set_cons_succ])
              refine wpAnyH_take (i := 6) (v := ?_) rfl (by kernel_rfl) (by kernel_rfl) (by kernel_rfl) (fun _ _ _ h => h) (Or.inl ⟨by kernel_rfl, ?_⟩) (by assumption) ?_
              rotate_left
              · intro w hSw
                (try dsimp only at hSw)
                go_simp
                try (with_reducible rfl)
              (try simp only [Act.put, List.getElem_toArray, List.getElem_cons_succ, List.getElem_cons_zero, List.setIfInBounds_toArray, List.set_cons_zero, List.set_cons_succ])
              refine wpAnyH_take (i := 7) (v := undef) rfl (by kernel_rfl) (by kernel_rfl) (by kernel_rfl) (fun _ _ _ h => h) (Or.inr ⟨by kernel_rfl, rfl⟩) (by assumption) ?_
              (try simp only [Act.put, List.getElem_toArray, List.getElem_cons_succ, List.getElem_cons_zero, List.setIfInBounds_toArray, List.set_cons_zero, List.set_cons_succ])
              refine wpAnyH_take (i := 8) (v := undef) rfl (by kernel_rfl) (by kernel_rfl) (by kernel_rfl) (fun _ _ _ h => h) (Or.inr ⟨by kernel_rfl, rfl⟩) (by assumption) ?_
              (try simp only [Act.put, List.getElem_toArray, List.getElem_cons_succ, List.getElem_cons_zero, List.setIfInBounds_toArray, List.set_cons_zero, List.set_cons_succ])
              refine wpAnyH_take (i := 9) (v := undef) rfl (by kernel_rfl) (by kernel_rfl) (by kernel_rfl) (fun _ _ _ h => h) (Or.inr ⟨by kernel_rfl, rfl⟩) (by assumption) ?_
              (try simp only [Act.put, List.getElem_toArray, List.getElem_cons_succ, List.getElem_cons_zero, List.setIfInBounds_toArray, List.set_cons_zero, List.set_cons_succ])
              refine wpAnyH_take (i := 10) (v := undef) rfl (by kernel_rfl) (by kernel_rfl) (by kernel_rfl) (fun _ _ _ h => h) (Or.inr ⟨by kernel_rfl, rfl⟩) (by assumption) ?_
              (try simp only [Act.put, List.getElem_toArray, List.getElem_cons_succ, List.getElem_cons_zero, List.setIfInBounds_toArray, List.set_cons_zero, List.set_cons_succ])
              refine wpAnyH_take (i := 11) (v := undef) rfl (by kernel_rfl) (by kernel_rfl) (by kernel_rfl) (fun _ _ _ h => h) (Or.inr ⟨by kernel_rfl, rfl⟩) (by assumption) ?_
              (try simp only [Act.put, List.getElem_toArray, List.getElem_cons_succ, List.getElem_cons_zero, List.setIfInBounds_toArray, List.set_cons_zero, List.set_cons_succ])
              refine wpAnyH_take (i := 12) (v := undef) rfl (by kernel_rfl) (by kernel_rfl) (by kernel_rfl) (fun _ _ _ h => h) (Or.inr ⟨by kernel_rfl, rfl⟩) (by assumption) ?_
              (try simp only [Act.put, List.getElem_toArray, List.getElem_cons_succ, List.getElem_cons_zero, List.setIfInBounds_toArray, List.set_cons_zero, List.set_cons_succ])
              refine wpAnyH_take (i := 13) (v := undef) rfl (by kernel_rfl) (by kernel_rfl) (by kernel_rfl) (fun _ _ _ h => h) (Or.inr ⟨by kernel_rfl, rfl⟩) (by assumption) ?_
              (try simp only [Act.put, List.getElem_toArray, List.getElem_cons_succ, List.getElem_cons_zero, List.setIfInBounds_toArray, List.set_cons_zero, List.set_cons_succ])
              refine wpAnyH_take (i := 14) (v := undef) rfl (by kernel_rfl) (by kernel_rfl) (by kernel_rfl) (fun _ _ _ h => h) (Or.inr ⟨by kernel_rfl, rfl⟩) (by assumption) ?_
              (try simp only [Act.put, List.getElem_toArray, List.getElem_cons_succ, List.getElem_cons_zero, List.setIfInBounds_toArray, List.set_cons_zero, List.set_cons_succ])
              refine wpAnyH_take (i := 15) (v := undef) rfl (by kernel_rfl) (by kernel_rfl) (by kernel_rfl) (fun _ _ _ h => h) (Or.inr ⟨by kernel_rfl, rfl⟩) (by assumption) ?_
              (try simp only [Act.put, List.getElem_toArray, List.getElem_cons_succ, List.getElem_cons_zero, List.setIfInBounds_toArray, List.set_cons_zero, List.set_cons_succ])
              refine wpAnyH_take (i := 16) (v := undef) rfl (by kernel_rfl) (by kernel_rfl) (by kernel_rfl) (fun _ _ _ h => h) (Or.inr ⟨by kernel_rfl, rfl⟩) (by assumption) ?_
              (try simp only [Act.put, List.getElem_toArray, List.getElem_cons_succ, List.getElem_cons_zero, List.setIfInBounds_toArray, List.set_cons_zero, List.set_cons_succ])
              refine wpAnyH_take (i := 17) (v := undef) rfl (by kernel_rfl) (by kernel_rfl) (by kernel_rfl) (fun _ _ _ h => h) (Or.inr ⟨by kernel_rfl, rfl⟩) (by assumption) ?_
              (try simp only [Act.put, List.getElem_toArray, List.getElem_cons_succ, List.getElem_cons_zero, List.setIfInBounds_toArray, List.set_cons_zero, List.set_cons_succ])
              refine wpAnyH_take (i := 18) (v := ?_) rfl (by kernel_rfl) (by kernel_rfl) (by kernel_rfl) (fun _ _ _ h => h) (Or.inl ⟨by kernel_rfl, ?_⟩) (by assumption) ?_
              rotate_left
              · intro w hSw
                (try dsimp only at hSw)
                go_simp
                try (with_reducible rfl)
              (try simp only [Act.put, List.getElem_toArray, List.getElem_cons_succ, List.getElem_cons_zero, List.setIfInBounds_toArray, List.set_cons_zero, List.set_cons_succ])
              refine wpAnyH_take (i := 19) (v := ?_) rfl (by kernel_rfl) (by kernel_rfl) (by kernel_rfl) (fun _ _ _ h => h) (Or.inl ⟨by kernel_rfl, ?_⟩) (by assumption) ?_
              rotate_left
              · intro w hSw
                (try dsimp only at hSw)
                go_simp
                try (with_reducible rfl)
              (try simp only [Act.put, List.getElem_toArray, List.getElem_cons_succ, List.getElem_cons_zero, List.setIfInBounds_toArray, List.set_cons_zero, List.set_cons_succ])
              refine wpAnyH_done (by kernel_rfl) ?_ _
              go_wp2_with (fail)
              refine (HT.out _ (Below.refl _ _).drew).mono ?_
              rintro e w8 ⟨rfl, hb8⟩
              have hb68 : Below w6.heap.size w6 w8 := (Below.refl _ w6).drew.trans hb8
              have BQ8 := Lib.hid (BQ6.out.below hb68 BQ6.out.lt)
              have BP8 := Lib.hid (BP6.out.below hb68 BP6.out.lt)
              have O8 := Lib.hid (O6.out.below hb68)
              have HB8 := Lib.hid (HB6.out.trans (hb68.mono HB6.out.size))
              have B98 := Lib.hid (B9.out.below hb68 B9.out.lt)
              have B108 := Lib.hid (B10.out.below hb68 B10.out.lt)
              have hz8 := hb68.size
              clear hb8 hb68 p4 BQ6 BP6 O6 HB6 B9 B10 HT LR6
              go_wp2_with (first | (refine wpList_load_row rfl 26 (.tmp 9) rfl w4.heap.size rfl _ (lag o T2 S2 R2) (0, 0) _ B98.out Try.underlying26 rfl info_loop ?_) | (refine wpList_store_box rfl 26 (.tmp 7) (.tmp 113) rfl w2.heap.size (lag o T2 S2 R2) rfl rfl 26 _ BP8.out info_loop rfl ONE2.out ?_; intro w9 hx9 hu9 hz9; have hv9 : Upd w8 w9 w2.heap.size := hu9; clear hu9 hz9))
              go_roundg (N - (k + 1))
              case measure => omega
              case rel =>
                exact ⟨k + 1, tk2, o, T2, S2, R2, by omega, by omega, by go_num, by go_num, htk2, HB8.out.trans (hv9.own (by omega) HB8.out.size), BQ8.out.grown hv9 (by intro h; injection h with h; omega), hx9, (O8.out.far hv9 (by omega)).rd, ONE2.out, PO.out⟩
          · have hlt2 : decide ((k : Int) < (q.smalls.length : Int) + (q.tasks.length : Int) + 1) = false := by simp; omega
            go_wp2
            go_ret
            exact ⟨rfl, HB.out⟩
  · have g1 : (C == 0) = false := by simpa using y1
    have g1' : (C != 0) = true := by simpa using y1
    go_wp2_with (fail)
    refine (loopLives_true _).mono ?_
    rintro e w3 ⟨rfl, hb3⟩
    go_wp2
    go_ret
    exact ⟨rfl, hU2.trans (hb3.mono hU2.size)⟩
end Go.Proofs.Ytpjbblbehbepbaa
