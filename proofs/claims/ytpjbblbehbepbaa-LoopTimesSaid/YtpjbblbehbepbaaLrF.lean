/-
  LoopTimes returns true. Conditions: the loop's rows read as lists.
-/
import Derived.Test.YtpjbblbehbepbaaLqA
import Derived.Test.YtpjbblbehbepbaaLqM
import Derived.Test.YtpjbblbehbepbaaLoopM
import Derived.BigQuiet
import Derived.Deep.QuietTactic
namespace Go.Proofs.Ytpjbblbehbepbaa
set_option linter.unusedSimpArgs false
set_option linter.unusedVariables false
open Go.RowKit

theorem nextR_okT {p : Loopy.Loop} {til : Int} (h : Loopy.Right p) (h1 : p.now ≤ til) (h2 : til ≤ 1000000000) : nextR p til = (Loopy.next p til, 0) := by
  unfold nextR
  rw [if_pos ((Loopy.check_iff p).2 h), if_pos (Valu.within_iff.2 ⟨h1, h2⟩)]
theorem neq_sameT (j : Loopy.Job) (w : World) : (binOp .neq 39 (jag j) (jag j)).run Try.prog w = .ok (.bool false) w := by
  have := neq_job j j w
  simpa using this

set_option maxRecDepth 100000 in
set_option maxHeartbeats 8000000 in
theorem times_walk (q : Loopy.Loop) (til : Int) (T S R : Value) (w : World) (hq : LRd w q T S R) :
    Calls Try.prog 6 #[.agg (lag q T S R), .int .i64 til] w fun e w' => e = .returned (.bool true) ∧ Below w.heap.size w w' := by
  have HC : Hid (∀ w T S R, LRd w q T S R → Calls Try.prog 15 #[.agg (lag q T S R)] w fun e w' => e = .returned (.int .i64 (Loopy.check q : Int)) ∧ Below w.heap.size w w') := fun w T S R h => check_any q T S R w h
  obtain ⟨C, hC⟩ : ∃ C : Int, (Loopy.check q : Int) = C := ⟨_, rfl⟩
  rw [hC] at HC
  have HR : Hid (C = 0 → Loopy.Right q) := fun h => (Loopy.check_iff q).1 (by omega)
  clear hC
  have HQ := Lib.hid hq
  obtain ⟨⟨AT, cT, rfl, -⟩, ⟨AS, cS, rfl, -⟩, ⟨AR, cR, rfl, -⟩⟩ := hq
  obtain ⟨c0, hc0⟩ : ∃ c, lag q (.slice AT q.tasks.length cT) (.slice AS q.smalls.length cS) (.slice AR q.timers.length cR) = c := ⟨_, rfl⟩
  go_enter Try.func6, Try.ntmps6
  go_upto_region 1 with (fail)
  rw [hc0]
  have b0 : Box (w.alloc (.cells c0 26)) w.heap.size 26 c0 := Box.new w _ _
  have hU : Below w.heap.size w (w.alloc (.cells c0 26)) := below1 w _
  generalize (w.alloc (.cells c0 26)) = W at *
  go_wp2_with (fail)
  refine (loopLives_true _).mono ?_
  rintro e w1 ⟨rfl, hb1⟩
  have b1 := b0.below hb1 b0.lt
  have hU1 : Below w.heap.size w w1 := hU.trans (hb1.mono hU.size)
  have hW1 := Lib.hid (HQ.out.below hU1)
  clear b0 hb1 hU
  subst hc0
  have u0 := b1.cell 0
  have u1 := b1.cell 1
  have u2 := b1.cell 2
  have u3 := b1.cell 3
  have u4 := b1.cell 4
  simp at u0 u1 u2 u3 u4
  go_wp2_with (fail)
  refine (HC.out _ _ _ _ hW1.out).mono ?_
  rintro e w2 ⟨rfl, hb2⟩
  have b2 := b1.below hb2 b1.lt
  have hU2 : Below w.heap.size w w2 := hU1.trans (hb2.mono hU1.size)
  clear b1 hb2 hU1 u0 u1 u2 u3 u4
  have u0 := b2.cell 0
  simp at u0
  by_cases y1 : C = 0
  · subst y1
    have hR := HR.out rfl
    have HRq := Lib.hid hR
    have l1 := hR.l1
    have l2 := hR.l2
    have l3 := hR.l3
    clear hR
    by_cases x1 : til < q.now
    · have d1 : decide (til < q.now) = true := decide_eq_true x1
      go_wp2_with (fail)
      refine (loopLives_true _).mono ?_
      rintro e w3 ⟨rfl, hb3⟩
      go_wp2
      go_ret
      exact ⟨rfl, hU2.trans (hb3.mono hU2.size)⟩
    · have d1 : decide (til < q.now) = false := decide_eq_false x1
      by_cases x2 : til > 1000000000
      · have d2 : decide (til > 1000000000) = true := decide_eq_true x2
        go_wp2_with (fail)
        refine (loopLives_true _).mono ?_
        rintro e w3 ⟨rfl, hb3⟩
        go_wp2
        go_ret
        exact ⟨rfl, hU2.trans (hb3.mono hU2.size)⟩
      · have d2 : decide (til > 1000000000) = false := decide_eq_false x2
        go_upto_region 4 with (first | (refine wpList_load_row rfl 26 (.tmp 2) rfl w.heap.size rfl _ (lag q (.slice AT q.tasks.length cT) (.slice AS q.smalls.length cS) (.slice AR q.timers.length cR)) (0, 0) _ b2 Try.underlying26 rfl info_loop ?_) | (refine wpList_store_box rfl 26 (.tmp 5) (.tmp 30) rfl w2.heap.size (lag q (.slice AT q.tasks.length cT) (.slice AS q.smalls.length cS) (.slice AR q.timers.length cR)) rfl rfl 26 _ (Box.new w2 26 #[.int .i64 0, .int .i64 0, .slice none 0 0, .slice none 0 0, .slice none 0 0]) info_loop rfl (by simp [Value.oneCell']) ?_; intro w3 hx3 hu3 hz3))
        have hb3 : Below w2.heap.size w2 w3 := ((Below.refl _ w2).alloc (Nat.le_refl _) _).trans (hu3.own (Nat.le_refl _) (by simp))
        have hU3 : Below w.heap.size w w3 := hU2.trans (hb3.mono hU2.size)
        have hPQ : w.heap.size < w2.heap.size := b2.lt
        have hzw3 := hx3.lt
        have HW3 := Lib.hid (HQ.out.below hU3)
        clear b2 hb3 hu3 hz3 u0
        go_upto_region 5 with (fail)
        go_loopg [31] 60 (fun gg s31 wr => ∃ (k : Nat) (p : Loopy.Loop) (T S R : Value), k ≤ 60 ∧ 60 - k ≤ gg ∧ s31 = .int .i64 (k : Int) ∧ Hid (Below w.heap.size w wr) ∧ Hid (Box wr w2.heap.size 26 (lag p T S R)) ∧ Hid (LRd wr p T S R) ∧ Hid ((lag p T S R).all (·.oneCell') = true) ∧ Hid (Loopy.Right p ∧ p.now ≤ til))
        case atStart => exact ⟨0, q, _, _, _, Nat.zero_le _, by omega, rfl, hU3, hx3, HW3.out, (by show _ = true; simp [Value.oneCell']), HRq.out, by omega⟩
        case round =>
          obtain ⟨k, p, T, S, R, hk, hg, rfl, HB, BP, LR, ON, PR⟩ := hrel
          have hPr := BP.out.lt
          by_cases hlt : k < 60
          · have hlt2 : decide ((k : Int) < 60) = true := by simp; omega
            obtain ⟨o, oj, en, ro, no, hcs⟩ := Loopy.times_cases (p := p) (til := til) PR.out.1 PR.out.2 (by unfold Loopy.most; omega)
            have hnr := nextR_okT PR.out.1 PR.out.2 (by omega)
            rw [en] at hnr
            have HN : Hid (∀ w T S R, LRd w p T S R → Calls Try.prog 14 #[.agg (lag p T S R), .int .i64 til] w fun e w' => NextFnOut w ((o, oj), 0) e w') := fun w T S R h => by have := Next_any p til T S R w h; rw [hnr] at this; exact this
            have PO : Hid (Loopy.Right o ∧ o.now ≤ til) := ⟨ro, no⟩
            have lT : p.timers.length ≤ 1000000 := by have := PR.out.1.l3; omega
            have l1o := ro.l1
            have l2o := ro.l2
            have l3o := ro.l3
            have HCS := Lib.hid hcs
            clear en ro no hcs hnr
            have hlr := LR.out
            obtain ⟨⟨A1, k1, rfl, -⟩, ⟨A2, k2, rfl, -⟩, ⟨A3, k3, rfl, -⟩⟩ := hlr
            have bp := BP.out
            go_upto_region 7 with (first | (refine wpList_load_row rfl 26 (.tmp 5) rfl w2.heap.size rfl _ (lag p (.slice A1 p.tasks.length k1) (.slice A2 p.smalls.length k2) (.slice A3 p.timers.length k3)) (0, 0) _ bp Try.underlying26 rfl info_loop ?_) | (refine wpList_store_box rfl 26 (.tmp 6) (.tmp 33) rfl wr.heap.size (lag p (.slice A1 p.tasks.length k1) (.slice A2 p.smalls.length k2) (.slice A3 p.timers.length k3)) rfl rfl 26 _ (Box.new wr 26 #[.int .i64 0, .int .i64 0, .slice none 0 0, .slice none 0 0, .slice none 0 0]) info_loop rfl ON.out ?_; intro w4 hx4 hu4 hz4))
            have hb4 : Below wr.heap.size wr w4 := ((Below.refl _ wr).alloc (Nat.le_refl _) _).trans (hu4.own (Nat.le_refl _) (by simp))
            have BP4 := Lib.hid (bp.below hb4 hPr)
            have BF4 := Lib.hid hx4
            have LR4 := Lib.hid (LR.out.below hb4)
            have HB4 := Lib.hid (HB.out.trans (hb4.mono HB.out.size))
            have hF4 := hx4.lt
            have hP4 := BP4.out.lt
            have bp4 := BP4.out
            clear bp hb4 hu4 hz4 hx4 BP LR HB
            go_wp2_with (refine wpList_load_row rfl 26 (.tmp 5) rfl w2.heap.size rfl _ (lag p (.slice A1 p.tasks.length k1) (.slice A2 p.smalls.length k2) (.slice A3 p.timers.length k3)) (0, 0) _ bp4 Try.underlying26 rfl info_loop ?_)
            refine (HN.out _ _ _ _ LR4.out).mono ?_
            rintro e w5 ⟨T2, S2, R2, rfl, ho2, hb5⟩
            dsimp only at ho2 ⊢
            have hone2 := ho2.one
            obtain ⟨A4, k4, rfl⟩ := own_slice ho2.t
            obtain ⟨A5, k5, rfl⟩ := own_slice ho2.s
            obtain ⟨A6, k6, rfl⟩ := own_slice ho2.r
            have O2 := Lib.hid ho2
            have HB5 := Lib.hid hb5
            have hz5 := hb5.size
            clear ho2 hb5 bp4
            obtain ⟨j2, hj2⟩ : ∃ j, oj.getD jzero = j := ⟨_, rfl⟩
            obtain ⟨is2, his2⟩ : ∃ b, oj.isSome = b := ⟨_, rfl⟩
            rw [hj2, his2]
            have HJ2 := Lib.hid hj2
            have HI2 := Lib.hid his2
            clear hj2 his2
            have bx0 : Box ((w5.alloc (.cells #[.int .i64 0, .int .i64 0, .slice none 0 0, .slice none 0 0, .slice none 0 0] 26)).alloc (.cells (jc jzero) 39)) w5.heap.size 26 #[.int .i64 0, .int .i64 0, .slice none 0 0, .slice none 0 0, .slice none 0 0] := (Box.new w5 _ _).alloc _
            have bx1 : Box ((w5.alloc (.cells #[.int .i64 0, .int .i64 0, .slice none 0 0, .slice none 0 0, .slice none 0 0] 26)).alloc (.cells (jc jzero) 39)) (w5.heap.size + 1) 39 (jc jzero) := by have := Box.new (w5.alloc (.cells #[.int .i64 0, .int .i64 0, .slice none 0 0, .slice none 0 0, .slice none 0 0] 26)) 39 (jc jzero); simpa using this
            have hUx : Below w5.heap.size w5 ((w5.alloc (.cells #[.int .i64 0, .int .i64 0, .slice none 0 0, .slice none 0 0, .slice none 0 0] 26)).alloc (.cells (jc jzero) 39)) := (below1 w5 _).alloc (by simp) _
            have hzx : w5.heap.size + 1 + 1 ≤ ((w5.alloc (.cells #[.int .i64 0, .int .i64 0, .slice none 0 0, .slice none 0 0, .slice none 0 0] 26)).alloc (.cells (jc jzero) 39)).heap.size := by simp
            go_upto_region 8 with (first | (refine wpList_store_box rfl 26 (.tmp 7) (.tmp 38) rfl w5.heap.size (lag o (.slice A4 o.tasks.length k4) (.slice A5 o.smalls.length k5) (.slice A6 o.timers.length k6)) rfl rfl 26 _ bx0 info_loop rfl hone2 ?_; intro w55 hx5 hu5 hz55; have bx4 := bx1.grown hu5 (by intro h; injection h with h; omega); have hU5 := hUx.trans (hu5.own (Nat.le_refl _) (Nat.le_of_lt bx0.lt)); clear hu5 hz55 hzx) | (refine wpList_store_box rfl 39 (.tmp 8) (.tmp 39) rfl (w5.heap.size + 1) (jc j2) rfl rfl 39 _ bx4 info_job rfl (jc_one _) ?_; intro w6 hx6 hu6 hz6; have hy6 := hx5.grown hu6 (by intro h; injection h with h; omega); have hU6 := hU5.trans (hu6.own (by omega) hU5.size); clear hu6 hz6))
            have H46 := Lib.hid (HB5.out.trans (hU6.mono HB5.out.size))
            have BP6 := Lib.hid (BP4.out.below H46.out hP4)
            have BF6 := Lib.hid (BF4.out.below H46.out hF4)
            have LR6 := Lib.hid (LR4.out.below H46.out)
            have O6 := Lib.hid (O2.out.below hU6)
            have HB6 := Lib.hid (HB4.out.trans (H46.out.mono HB4.out.size))
            have B7 := Lib.hid hy6
            have B8 := Lib.hid hx6
            have hn8 := hx6.lt
            have ONE2 := Lib.hid hone2
            clear hx5 hx6 hy6 bx0 bx1 bx4 hUx hU5 hU6 BP4 BF4 LR4 O2 HB4 hone2
            have HT : Hid (∀ w', Below w6.heap.size w6 w' → Calls Try.prog 18 #[.slice A3 p.timers.length k3, .func (.func 19) #[] #[.pointer (some ⟨w5.heap.size + 1, 0, none⟩)]] w' fun e w'' => e = .returned (.int .i64 (idx (fun t => t.id == j2.id) p.timers)) ∧ Below w'.heap.size w' w'') := fun w' h => where_timer p.timers _ j2.id _ w' (LR6.out.below h).r lT (((h.cell (p := ⟨w5.heap.size + 1, 0, none⟩) hn8).trans (B8.out.cell 0)).trans rfl)
            rcases HCS.out with hc | hc | hc | hc <;> clear HCS
            · obtain ⟨rfl, hnow, htk, hsm, htm⟩ := hc
              obtain rfl : is2 = false := HI2.out.symm
              have g1 : (o.now == til) = true := by simpa using hnow
              have lt0 : o.tasks.length = 0 := by rw [htk]; rfl
              have ls0 : o.smalls.length = 0 := by rw [hsm]; rfl
              have c0 := B7.out.cell 0
              have c2 := B7.out.cell 2
              have c3 := B7.out.cell 3
              have c4 := B7.out.cell 4
              simp at c0 c2 c3 c4
              rw [lt0] at c2
              rw [ls0] at c3
              clear HI2 HJ2 hnow htk hsm lt0 ls0 HT
              cases htl : o.timers with
              | nil =>
                rw [htl] at c4
                simp only [List.length_nil] at c4
                clear htm
                go_wp2
                go_ret
                exact ⟨rfl, HB6.out⟩
              | cons t r =>
                have hdue := htm t r htl
                have dd : decide (t.due > til) = true := decide_eq_true hdue
                have hO := O6.out.rd.r
                obtain ⟨_, _, hx1, _, _, hx4⟩ := hO
                injection hx1 with hx1 _ hx5
                subst hx1
                subst hx5
                obtain ⟨g0, o0, rfl, hg0, hrg⟩ := hx4 (by rw [htl]; simp)
                have hel := RdL.elem (k := 5) (f := tc) (j := 0) (x := t) (fun _ => rfl) hrg (by rw [htl]; rfl)
                have z1 := hel 1 (.int .i64 t.due) rfl
                simp only [Nat.zero_mul, Nat.add_zero] at z1
                have hpos : 0 < o.timers.length := by rw [htl]; simp
                have hl0 : ((o.timers.length : Int) == 0) = false := by rw [beq_eq_false_iff_ne]; omega
                have hl0N : (o.timers.length == 0) = false := by rw [beq_eq_false_iff_ne]; omega
                have hb0 : (0 : Int) < (o.timers.length : Int) := by omega
                clear hrg hel hx4 htm htl hdue
                go_wp2
                go_ret
                exact ⟨rfl, HB6.out⟩
            · obtain ⟨j, rfl, hsm, hsrc⟩ := hc
              obtain rfl : is2 = true := HI2.out.symm
              obtain rfl : j2 = j := HJ2.out.symm
              have gs : (j2.src == 3) = false := by rw [hsrc]; rfl
              have y1 := B8.out.cell 1
              simp at y1
              clear HI2 HJ2 HT hsm hsrc
              go_wp2_with (first | (refine wpList_load_row rfl 26 (.tmp 7) rfl w5.heap.size rfl _ (lag o (.slice A4 o.tasks.length k4) (.slice A5 o.smalls.length k5) (.slice A6 o.timers.length k6)) (0, 0) _ B7.out Try.underlying26 rfl info_loop ?_) | (refine wpList_store_box rfl 26 (.tmp 5) (.tmp 109) rfl w2.heap.size (lag o (.slice A4 o.tasks.length k4) (.slice A5 o.smalls.length k5) (.slice A6 o.timers.length k6)) rfl rfl 26 _ BP6.out info_loop rfl ONE2.out ?_; intro w9 hx9 hu9 hz9; have hv9 : Upd w6 w9 w2.heap.size := hu9; clear hu9 hz9))
              go_roundg (60 - (k + 1))
              case measure => omega
              case rel =>
                exact ⟨k + 1, o, _, _, _, by omega, by omega, by go_num, HB6.out.trans (hv9.own (by omega) HB6.out.size), hx9, (O6.out.far hv9 (by omega)).rd, ONE2.out, PO.out⟩
            · obtain ⟨j, rfl, hps, hsm, hne⟩ := hc
              obtain rfl : is2 = true := HI2.out.symm
              obtain rfl : j2 = j := HJ2.out.symm
              have hix : idx (fun t => t.id == j2.id) p.timers = -1 := idx_miss _ _ (fun i y hy => by have := hne y (List.mem_of_getElem? hy); simp; omega)
              rw [hix] at HT
              have lp0 : p.smalls.length = 0 := by rw [hps]; rfl
              have y1 := B8.out.cell 1
              have y2 := B8.out.cell 2
              simp at y1 y2
              have f3 := BF6.out.cell 3
              have f4 := BF6.out.cell 4
              simp at f3 f4
              rw [hsm] at y2
              rw [lp0] at f3
              clear HI2 HJ2 hsm hne hix hps
              by_cases hs3 : j2.src = 3
              · have gs : (j2.src == 3) = true := by simpa using hs3
                clear hs3 lp0
                go_wp2_with (fail)
                refine (HT.out _ (Below.refl _ _)).mono ?_
                rintro e w8 ⟨rfl, hb68⟩
                have BP8 := Lib.hid (BP6.out.below hb68 BP6.out.lt)
                have O8 := Lib.hid (O6.out.below hb68)
                have HB8 := Lib.hid (HB6.out.trans (hb68.mono HB6.out.size))
                have B78 := Lib.hid (B7.out.below hb68 B7.out.lt)
                have BF8 := Lib.hid (BF6.out.below hb68 BF6.out.lt)
                have LR8 := Lib.hid (LR6.out.below hb68)
                have hz8 := hb68.size
                clear hb68 BP6 O6 HB6 B7 BF6 LR6 HT
                clear y1 y2 f3 f4
                go_upto_region 14 with (fail)
                go_quiet (fail)
                go_wp2_with (first | (refine wpList_load_row rfl 26 (.tmp 7) rfl w5.heap.size rfl _ (lag o (.slice A4 o.tasks.length k4) (.slice A5 o.smalls.length k5) (.slice A6 o.timers.length k6)) (0, 0) _ (B78.out.below (below_drewN (Below.refl _ _) _) B78.out.lt) Try.underlying26 rfl info_loop ?_) | (refine wpList_store_box rfl 26 (.tmp 5) (.tmp 109) rfl w2.heap.size (lag o (.slice A4 o.tasks.length k4) (.slice A5 o.smalls.length k5) (.slice A6 o.timers.length k6)) rfl rfl 26 _ (BP8.out.below (below_drewN (Below.refl _ _) _) BP8.out.lt) info_loop rfl ONE2.out ?_; intro w9 hx9 hu9 hz9; have hv9 : Upd w8 w9 w2.heap.size := (Upd.below (below_drewN (Below.refl _ w8) _) _).trans hu9; clear hu9 hz9))
                go_roundg (60 - (k + 1))
                case measure => omega
                case rel =>
                  exact ⟨k + 1, o, _, _, _, by omega, by omega, by go_num, HB8.out.trans (hv9.own (by omega) HB8.out.size), hx9, (O8.out.far hv9 (by omega)).rd, ONE2.out, PO.out⟩
              · have gs : (j2.src == 3) = false := by simpa using hs3
                clear hs3 lp0 HT
                go_wp2_with (first | (refine wpList_load_row rfl 26 (.tmp 7) rfl w5.heap.size rfl _ (lag o (.slice A4 o.tasks.length k4) (.slice A5 o.smalls.length k5) (.slice A6 o.timers.length k6)) (0, 0) _ B7.out Try.underlying26 rfl info_loop ?_) | (refine wpList_store_box rfl 26 (.tmp 5) (.tmp 109) rfl w2.heap.size (lag o (.slice A4 o.tasks.length k4) (.slice A5 o.smalls.length k5) (.slice A6 o.timers.length k6)) rfl rfl 26 _ BP6.out info_loop rfl ONE2.out ?_; intro w9 hx9 hu9 hz9; have hv9 : Upd w6 w9 w2.heap.size := hu9; clear hu9 hz9))
                go_roundg (60 - (k + 1))
                case measure => omega
                case rel =>
                  exact ⟨k + 1, o, _, _, _, by omega, by omega, by go_num, HB6.out.trans (hv9.own (by omega) HB6.out.size), hx9, (O6.out.far hv9 (by omega)).rd, ONE2.out, PO.out⟩
            · obtain ⟨j, t, rr, rfl, hps, hsm, hsrc, htl, hid, hdue⟩ := hc
              obtain rfl : is2 = true := HI2.out.symm
              obtain rfl : j2 = j := HJ2.out.symm
              have hix : idx (fun t => t.id == j2.id) p.timers = 0 := idx_hit _ _ 0 t (by rw [htl]; rfl) (by simp [hid]) (fun i y hi => by omega)
              rw [hix] at HT
              have lp0 : p.smalls.length = 0 := by rw [hps]; rfl
              have gs : (j2.src == 3) = true := by simpa using hsrc
              have y1 := B8.out.cell 1
              have y2 := B8.out.cell 2
              simp at y1 y2
              have f3 := BF6.out.cell 3
              have f4 := BF6.out.cell 4
              simp at f3 f4
              rw [hsm] at y2
              rw [lp0] at f3
              have hlp := LR6.out.r
              obtain ⟨_, _, hx1, _, _, hx4⟩ := hlp
              injection hx1 with hx1 _ hx5
              subst hx1
              subst hx5
              obtain ⟨g0, o0, rfl, hg0, hrg⟩ := hx4 (by rw [htl]; simp)
              have hel := RdL.elem (k := 5) (f := tc) (j := 0) (x := t) (fun _ => rfl) hrg (by rw [htl]; rfl)
              have z1 := hel 1 (.int .i64 t.due) rfl
              simp only [Nat.zero_mul, Nat.add_zero] at z1
              have hpos : 0 < p.timers.length := by rw [htl]; simp
              have hb0 : (0 : Int) < (p.timers.length : Int) := by omega
              have dd : decide (t.due > o.now) = false := by simp; omega
              have Z1 := Lib.hid z1
              clear HI2 HJ2 hsm hix hps hsrc hid htl hrg hel hx4 lp0 hdue z1
              go_wp2_with (fail)
              refine (HT.out _ (Below.refl _ _)).mono ?_
              rintro e w8 ⟨rfl, hb68⟩
              have z8 : w8.cell? ⟨g0, o0 + 1, none⟩ = some (.int .i64 t.due) := (hb68.cell (p := ⟨g0, o0 + 1, none⟩) (by simpa using hg0)).trans Z1.out
              have BP8 := Lib.hid (BP6.out.below hb68 BP6.out.lt)
              have O8 := Lib.hid (O6.out.below hb68)
              have HB8 := Lib.hid (HB6.out.trans (hb68.mono HB6.out.size))
              have B78 := Lib.hid (B7.out.below hb68 B7.out.lt)
              have BF8 := Lib.hid (BF6.out.below hb68 BF6.out.lt)
              have LR8 := Lib.hid (LR6.out.below hb68)
              have hz8 := hb68.size
              clear hb68 BP6 O6 HB6 B7 BF6 LR6 HT
              clear y1 y2 f3 f4
              have f4 := BF8.out.cell 4
              simp at f4
              have m0 := B78.out.cell 0
              simp at m0
              go_upto_region 14 with (fail)
              go_quiet (fail)
              go_wp2_with (first | (refine wpList_load_row rfl 26 (.tmp 7) rfl w5.heap.size rfl _ (lag o (.slice A4 o.tasks.length k4) (.slice A5 o.smalls.length k5) (.slice A6 o.timers.length k6)) (0, 0) _ (B78.out.below (below_drewN (Below.refl _ _) _) B78.out.lt) Try.underlying26 rfl info_loop ?_) | (refine wpList_store_box rfl 26 (.tmp 5) (.tmp 109) rfl w2.heap.size (lag o (.slice A4 o.tasks.length k4) (.slice A5 o.smalls.length k5) (.slice A6 o.timers.length k6)) rfl rfl 26 _ (BP8.out.below (below_drewN (Below.refl _ _) _) BP8.out.lt) info_loop rfl ONE2.out ?_; intro w9 hx9 hu9 hz9; have hv9 : Upd w8 w9 w2.heap.size := (Upd.below (below_drewN (Below.refl _ w8) _) _).trans hu9; clear hu9 hz9))
              go_roundg (60 - (k + 1))
              case measure => omega
              case rel =>
                exact ⟨k + 1, o, _, _, _, by omega, by omega, by go_num, HB8.out.trans (hv9.own (by omega) HB8.out.size), hx9, (O8.out.far hv9 (by omega)).rd, ONE2.out, PO.out⟩
          · have hlt2 : decide ((k : Int) < 60) = false := by simp; omega
            go_wp2
            go_ret
            exact ⟨rfl, HB.out⟩
  · have g1 : (C == 0) = false := by simpa using y1
    have g1' : (C != 0) = true := by simpa using y1
    go_wp2_with (fail)
    refine (loopLives_true _).mono ?_
    rintro e w3 ⟨rfl, hb3⟩
    go_wp2
    go_ret
    exact ⟨rfl, hU2.trans (hb3.mono hU2.size)⟩
end Go.Proofs.Ytpjbblbehbepbaa
