/-
  What is asked is done. Conditions: the loop's rows are its own; the loop is right.
-/
import Derived.Test.YtpjbblbehbepbaaLpU
namespace Go.Proofs.Ytpjbblbehbepbaa
set_option linter.unusedSimpArgs false
set_option linter.unusedVariables false
open Go.RowKit

theorem idx_of (p : Loopy.Timer → Bool) : ∀ l, idx p l = Loopy.idxOf p l
  | [] => rfl
  | x :: l => by unfold idx Loopy.idxOf; rw [idx_of p l]
theorem idx_lt (p : Loopy.Timer → Bool) : ∀ l : List Loopy.Timer, Loopy.idxOf p l < (l.length : Int)
  | [] => by simp [Loopy.idxOf]
  | x :: l => by
    have := idx_lt p l
    unfold Loopy.idxOf
    split
    · simp <;> omega
    · split <;> simp <;> omega
theorem idxOf_lo (p : Loopy.Timer → Bool) (l : List Loopy.Timer) : -1 ≤ Loopy.idxOf p l := by rw [← idx_of]; exact idx_lo p l
theorem eg3 : ∀ args w, (callFunc 41 args).run Try.prog w = .ok (.enter 41 args) w := Go.Proofs.enters_of Try.func41 (by kernel_rfl) rfl
set_option maxHeartbeats 1000000 in
theorem is_any (t : Loopy.Timer) (n : Int) (b : Nat) (w : World) (hc : w.cell? ⟨b, 7, none⟩ = some (.int .i64 n)) :
    Calls Try.prog 41 #[tag t, .pointer (some ⟨b, 0, none⟩)] w fun e w' => e = .returned (.bool (t.id == n)) ∧ Below w.heap.size w w' := by
  have hlt : b < w.heap.size := block_lt_of_cell hc
  have hc2 : (w.alloc (.cells (tc t) 49)).cell? ⟨b, 7, none⟩ = some (.int .i64 n) := ((below1 w _).cell (p := ⟨b, 7, none⟩) hlt).trans hc
  go_enter Try.func41, Try.ntmps41
  go_wp2
  go_ret
  exact ⟨rfl, below1 _ _⟩
theorem Kp.of_step {w W w2 : World} {T S R T2 S2 R2 : Value} (hU : Below w.heap.size w W) (h : Step W w2 T S R T2 S2 R2) : Kp w w2 (mine T S R) :=
  ⟨h.os.trans hU.os, h.tape.trans hU.tape, h.output.trans hU.output, Nat.le_trans hU.size h.size, fun k hk hn => (h.block k (Nat.lt_of_lt_of_le hk hU.size) hn).trans (hU.block k hk)⟩
set_option maxRecDepth 100000 in
set_option maxHeartbeats 4000000 in
theorem do_1 (q : Loopy.Loop) (a : Loopy.Ask) (B : Nat) (T S R : Value) (w : World) (ho : Own w B q T S R) (hB : B ≤ w.heap.size) (hr : Loopy.Right q) (h1 : a.what = 1) :
    Calls Try.prog 28 #[.agg (qac q T S R a)] w fun e w' => AskOut w B T S R (Loopy.doAsk q a) e w' := by
  have HP : Hid (Loopy.doAsk q a = Loopy.post q a false) := by
    show _ = _
    unfold Loopy.doAsk
    rw [h1]
    rfl
  have hw_ : a.what = 1 := h1
  have w1 : (a.what == 1) = true := by rw [hw_]; rfl
  have w2 : (a.what == 2) = false := by rw [hw_]; rfl
  have w3 : (a.what == 3) = false := by rw [hw_]; rfl
  have w4 : (a.what == 4) = false := by rw [hw_]; rfl
  clear hw_ h1
  have HR := Lib.hid hr
  have l3 := hr.l3
  obtain ⟨A1, c1, e1⟩ := own_slice ho.t
  obtain ⟨A2, c2, e2⟩ := own_slice ho.s
  obtain ⟨A3, c3, e3⟩ := own_slice ho.r
  subst e1 e2 e3
  have HO := Lib.hid ho
  have hml := Lib.hid (fun k (hm : mine (.slice A1 q.tasks.length c1) (.slice A2 q.smalls.length c2) (.slice A3 q.timers.length c3) k) => HO.out.mine_lt hm)
  have hone : (lag q (.slice A1 q.tasks.length c1) (.slice A2 q.smalls.length c2) (.slice A3 q.timers.length c3)).all (·.oneCell') = true := by simp [Value.oneCell']
  clear ho hr
  go_enter Try.func28, Try.ntmps28
  go_upto_region 1 with (fail)
  have hb : Box ((w.alloc (.cells (qac q (.slice A1 q.tasks.length c1) (.slice A2 q.smalls.length c2) (.slice A3 q.timers.length c3) a) 64)).alloc (.cells #[.int .i64 0, .int .i64 0, .slice none 0 0, .slice none 0 0, .slice none 0 0] 26)) (w.heap.size) 64 (qac q (.slice A1 q.tasks.length c1) (.slice A2 q.smalls.length c2) (.slice A3 q.timers.length c3) a) := (Box.new w 64 (qac q (.slice A1 q.tasks.length c1) (.slice A2 q.smalls.length c2) (.slice A3 q.timers.length c3) a)).alloc (.cells #[.int .i64 0, .int .i64 0, .slice none 0 0, .slice none 0 0, .slice none 0 0] 26)
  have hl : Box ((w.alloc (.cells (qac q (.slice A1 q.tasks.length c1) (.slice A2 q.smalls.length c2) (.slice A3 q.timers.length c3) a) 64)).alloc (.cells #[.int .i64 0, .int .i64 0, .slice none 0 0, .slice none 0 0, .slice none 0 0] 26)) (w.heap.size + 1) 26 (#[.int .i64 0, .int .i64 0, .slice none 0 0, .slice none 0 0, .slice none 0 0]) := new2 w (.cells (qac q (.slice A1 q.tasks.length c1) (.slice A2 q.smalls.length c2) (.slice A3 q.timers.length c3) a) 64) 26 #[.int .i64 0, .int .i64 0, .slice none 0 0, .slice none 0 0, .slice none 0 0]
  have hU : Below w.heap.size w ((w.alloc (.cells (qac q (.slice A1 q.tasks.length c1) (.slice A2 q.smalls.length c2) (.slice A3 q.timers.length c3) a) 64)).alloc (.cells #[.int .i64 0, .int .i64 0, .slice none 0 0, .slice none 0 0, .slice none 0 0] 26)) := (below1 w _).alloc (by simp) _
  generalize ((w.alloc (.cells (qac q (.slice A1 q.tasks.length c1) (.slice A2 q.smalls.length c2) (.slice A3 q.timers.length c3) a) 64)).alloc (.cells #[.int .i64 0, .int .i64 0, .slice none 0 0, .slice none 0 0, .slice none 0 0] 26)) = W at *
  have hzW := hl.lt
  have hzb := hU.size
  have HW := Lib.hid (HO.out.below hU)
  have a5 := hb.cell 5
  simp at a5
  go_wp2_with (refine wpList_load_row rfl 64 (.tmp 1) rfl (w.heap.size) rfl _ (qac q (.slice A1 q.tasks.length c1) (.slice A2 q.smalls.length c2) (.slice A3 q.timers.length c3) a) (0, 0) _ hb Try.underlying64 rfl info_asked ?_)
  refine (post_any q a false B _ _ _ W HW.out (by omega) HR.out).mono ?_
  rintro e w2 ⟨T2, S2, R2, rfl, hO2, hS2⟩
  clear a5
  obtain ⟨⟨q2, i2, e2⟩, hq2⟩ : ∃ r, Loopy.post q a false = r := ⟨_, rfl⟩
  rw [hq2] at hO2
  rw [hq2]
  have HQ2 := Lib.hid hq2
  have HO2 := Lib.hid hO2
  have HS2 := Lib.hid hS2
  have hone2 := hO2.one
  have hl2 := hS2.box hl (fun hm => by have := hml.out _ hm; omega)
  have hs2 := hS2.size
  have hl2z := hl2.lt
  clear hq2 hO2 hS2 hl hb
  simp only
  go_wp2_with (refine wpList_store_box rfl 26 (.tmp 2) (.tmp 13) rfl (w.heap.size + 1) (lag q2 T2 S2 R2) rfl rfl 26 _ hl2 info_loop rfl hone2 ?_; intro w3 hx3 hu3 hz3)
  refine bodyPost_ret (results_btt rfl (Back.mk' (w.heap.size + 1) 26 _ rfl hx3 Try.underlying26 rfl info_loop)) rfl ?_
  have hn1 : ¬ mine T2 S2 R2 (w.heap.size + 1) := fun hm => by
    rcases HS2.out.fresh _ hm with h | h
    · have := hml.out _ h; omega
    · omega
  refine ⟨_, _, _, by rw [HP.out, HQ2.out]; rfl, by rw [HP.out, HQ2.out]; exact HO2.out.past hu3 hn1, ?_⟩
  have hS := HS2.out
  exact Step.of_kp ((Kp.of_step hU hS).upd hu3 (.inr (by omega))) (fun k hk => (hS.fresh k hk).imp id (fun h => by omega))

set_option maxRecDepth 100000 in
set_option maxHeartbeats 4000000 in
theorem do_2 (q : Loopy.Loop) (a : Loopy.Ask) (B : Nat) (T S R : Value) (w : World) (ho : Own w B q T S R) (hB : B ≤ w.heap.size) (hr : Loopy.Right q) (h1 : a.what = 2) :
    Calls Try.prog 28 #[.agg (qac q T S R a)] w fun e w' => AskOut w B T S R (Loopy.doAsk q a) e w' := by
  have HP : Hid (Loopy.doAsk q a = Loopy.post q a true) := by
    show _ = _
    unfold Loopy.doAsk
    rw [h1]
    rfl
  have hw_ : a.what = 2 := h1
  have w1 : (a.what == 1) = false := by rw [hw_]; rfl
  have w2 : (a.what == 2) = true := by rw [hw_]; rfl
  have w3 : (a.what == 3) = false := by rw [hw_]; rfl
  have w4 : (a.what == 4) = false := by rw [hw_]; rfl
  clear hw_ h1
  have HR := Lib.hid hr
  have l3 := hr.l3
  obtain ⟨A1, c1, e1⟩ := own_slice ho.t
  obtain ⟨A2, c2, e2⟩ := own_slice ho.s
  obtain ⟨A3, c3, e3⟩ := own_slice ho.r
  subst e1 e2 e3
  have HO := Lib.hid ho
  have hml := Lib.hid (fun k (hm : mine (.slice A1 q.tasks.length c1) (.slice A2 q.smalls.length c2) (.slice A3 q.timers.length c3) k) => HO.out.mine_lt hm)
  have hone : (lag q (.slice A1 q.tasks.length c1) (.slice A2 q.smalls.length c2) (.slice A3 q.timers.length c3)).all (·.oneCell') = true := by simp [Value.oneCell']
  clear ho hr
  go_enter Try.func28, Try.ntmps28
  go_upto_region 1 with (fail)
  have hb : Box ((w.alloc (.cells (qac q (.slice A1 q.tasks.length c1) (.slice A2 q.smalls.length c2) (.slice A3 q.timers.length c3) a) 64)).alloc (.cells #[.int .i64 0, .int .i64 0, .slice none 0 0, .slice none 0 0, .slice none 0 0] 26)) (w.heap.size) 64 (qac q (.slice A1 q.tasks.length c1) (.slice A2 q.smalls.length c2) (.slice A3 q.timers.length c3) a) := (Box.new w 64 (qac q (.slice A1 q.tasks.length c1) (.slice A2 q.smalls.length c2) (.slice A3 q.timers.length c3) a)).alloc (.cells #[.int .i64 0, .int .i64 0, .slice none 0 0, .slice none 0 0, .slice none 0 0] 26)
  have hl : Box ((w.alloc (.cells (qac q (.slice A1 q.tasks.length c1) (.slice A2 q.smalls.length c2) (.slice A3 q.timers.length c3) a) 64)).alloc (.cells #[.int .i64 0, .int .i64 0, .slice none 0 0, .slice none 0 0, .slice none 0 0] 26)) (w.heap.size + 1) 26 (#[.int .i64 0, .int .i64 0, .slice none 0 0, .slice none 0 0, .slice none 0 0]) := new2 w (.cells (qac q (.slice A1 q.tasks.length c1) (.slice A2 q.smalls.length c2) (.slice A3 q.timers.length c3) a) 64) 26 #[.int .i64 0, .int .i64 0, .slice none 0 0, .slice none 0 0, .slice none 0 0]
  have hU : Below w.heap.size w ((w.alloc (.cells (qac q (.slice A1 q.tasks.length c1) (.slice A2 q.smalls.length c2) (.slice A3 q.timers.length c3) a) 64)).alloc (.cells #[.int .i64 0, .int .i64 0, .slice none 0 0, .slice none 0 0, .slice none 0 0] 26)) := (below1 w _).alloc (by simp) _
  generalize ((w.alloc (.cells (qac q (.slice A1 q.tasks.length c1) (.slice A2 q.smalls.length c2) (.slice A3 q.timers.length c3) a) 64)).alloc (.cells #[.int .i64 0, .int .i64 0, .slice none 0 0, .slice none 0 0, .slice none 0 0] 26)) = W at *
  have hzW := hl.lt
  have hzb := hU.size
  have HW := Lib.hid (HO.out.below hU)
  have a5 := hb.cell 5
  simp at a5
  go_wp2_with (refine wpList_load_row rfl 64 (.tmp 1) rfl (w.heap.size) rfl _ (qac q (.slice A1 q.tasks.length c1) (.slice A2 q.smalls.length c2) (.slice A3 q.timers.length c3) a) (0, 0) _ hb Try.underlying64 rfl info_asked ?_)
  refine (post_any q a true B _ _ _ W HW.out (by omega) HR.out).mono ?_
  rintro e w2 ⟨T2, S2, R2, rfl, hO2, hS2⟩
  clear a5
  obtain ⟨⟨q2, i2, e2⟩, hq2⟩ : ∃ r, Loopy.post q a true = r := ⟨_, rfl⟩
  rw [hq2] at hO2
  rw [hq2]
  have HQ2 := Lib.hid hq2
  have HO2 := Lib.hid hO2
  have HS2 := Lib.hid hS2
  have hone2 := hO2.one
  have hl2 := hS2.box hl (fun hm => by have := hml.out _ hm; omega)
  have hs2 := hS2.size
  have hl2z := hl2.lt
  clear hq2 hO2 hS2 hl hb
  simp only
  go_wp2_with (refine wpList_store_box rfl 26 (.tmp 2) (.tmp 20) rfl (w.heap.size + 1) (lag q2 T2 S2 R2) rfl rfl 26 _ hl2 info_loop rfl hone2 ?_; intro w3 hx3 hu3 hz3)
  refine bodyPost_ret (results_btt rfl (Back.mk' (w.heap.size + 1) 26 _ rfl hx3 Try.underlying26 rfl info_loop)) rfl ?_
  have hn1 : ¬ mine T2 S2 R2 (w.heap.size + 1) := fun hm => by
    rcases HS2.out.fresh _ hm with h | h
    · have := hml.out _ h; omega
    · omega
  refine ⟨_, _, _, by rw [HP.out, HQ2.out]; rfl, by rw [HP.out, HQ2.out]; exact HO2.out.past hu3 hn1, ?_⟩
  have hS := HS2.out
  exact Step.of_kp ((Kp.of_step hU hS).upd hu3 (.inr (by omega))) (fun k hk => (hS.fresh k hk).imp id (fun h => by omega))

set_option maxRecDepth 100000 in
set_option maxHeartbeats 4000000 in
theorem do_3 (q : Loopy.Loop) (a : Loopy.Ask) (B : Nat) (T S R : Value) (w : World) (ho : Own w B q T S R) (hB : B ≤ w.heap.size) (hr : Loopy.Right q) (h1 : a.what = 3) :
    Calls Try.prog 28 #[.agg (qac q T S R a)] w fun e w' => AskOut w B T S R (Loopy.doAsk q a) e w' := by
  have HP : Hid (Loopy.doAsk q a = Loopy.timer q a false) := by
    show _ = _
    unfold Loopy.doAsk
    rw [h1]
    rfl
  have hw_ : a.what = 3 := h1
  have w1 : (a.what == 1) = false := by rw [hw_]; rfl
  have w2 : (a.what == 2) = false := by rw [hw_]; rfl
  have w3 : (a.what == 3) = true := by rw [hw_]; rfl
  have w4 : (a.what == 4) = false := by rw [hw_]; rfl
  clear hw_ h1
  have HR := Lib.hid hr
  have l3 := hr.l3
  obtain ⟨A1, c1, e1⟩ := own_slice ho.t
  obtain ⟨A2, c2, e2⟩ := own_slice ho.s
  obtain ⟨A3, c3, e3⟩ := own_slice ho.r
  subst e1 e2 e3
  have HO := Lib.hid ho
  have hml := Lib.hid (fun k (hm : mine (.slice A1 q.tasks.length c1) (.slice A2 q.smalls.length c2) (.slice A3 q.timers.length c3) k) => HO.out.mine_lt hm)
  have hone : (lag q (.slice A1 q.tasks.length c1) (.slice A2 q.smalls.length c2) (.slice A3 q.timers.length c3)).all (·.oneCell') = true := by simp [Value.oneCell']
  clear ho hr
  go_enter Try.func28, Try.ntmps28
  go_upto_region 1 with (fail)
  have hb : Box ((w.alloc (.cells (qac q (.slice A1 q.tasks.length c1) (.slice A2 q.smalls.length c2) (.slice A3 q.timers.length c3) a) 64)).alloc (.cells #[.int .i64 0, .int .i64 0, .slice none 0 0, .slice none 0 0, .slice none 0 0] 26)) (w.heap.size) 64 (qac q (.slice A1 q.tasks.length c1) (.slice A2 q.smalls.length c2) (.slice A3 q.timers.length c3) a) := (Box.new w 64 (qac q (.slice A1 q.tasks.length c1) (.slice A2 q.smalls.length c2) (.slice A3 q.timers.length c3) a)).alloc (.cells #[.int .i64 0, .int .i64 0, .slice none 0 0, .slice none 0 0, .slice none 0 0] 26)
  have hl : Box ((w.alloc (.cells (qac q (.slice A1 q.tasks.length c1) (.slice A2 q.smalls.length c2) (.slice A3 q.timers.length c3) a) 64)).alloc (.cells #[.int .i64 0, .int .i64 0, .slice none 0 0, .slice none 0 0, .slice none 0 0] 26)) (w.heap.size + 1) 26 (#[.int .i64 0, .int .i64 0, .slice none 0 0, .slice none 0 0, .slice none 0 0]) := new2 w (.cells (qac q (.slice A1 q.tasks.length c1) (.slice A2 q.smalls.length c2) (.slice A3 q.timers.length c3) a) 64) 26 #[.int .i64 0, .int .i64 0, .slice none 0 0, .slice none 0 0, .slice none 0 0]
  have hU : Below w.heap.size w ((w.alloc (.cells (qac q (.slice A1 q.tasks.length c1) (.slice A2 q.smalls.length c2) (.slice A3 q.timers.length c3) a) 64)).alloc (.cells #[.int .i64 0, .int .i64 0, .slice none 0 0, .slice none 0 0, .slice none 0 0] 26)) := (below1 w _).alloc (by simp) _
  generalize ((w.alloc (.cells (qac q (.slice A1 q.tasks.length c1) (.slice A2 q.smalls.length c2) (.slice A3 q.timers.length c3) a) 64)).alloc (.cells #[.int .i64 0, .int .i64 0, .slice none 0 0, .slice none 0 0, .slice none 0 0] 26)) = W at *
  have hzW := hl.lt
  have hzb := hU.size
  have HW := Lib.hid (HO.out.below hU)
  have a5 := hb.cell 5
  simp at a5
  go_wp2_with (refine wpList_load_row rfl 64 (.tmp 1) rfl (w.heap.size) rfl _ (qac q (.slice A1 q.tasks.length c1) (.slice A2 q.smalls.length c2) (.slice A3 q.timers.length c3) a) (0, 0) _ hb Try.underlying64 rfl info_asked ?_)
  refine (timer_any q a false B _ _ _ W HW.out (by omega) HR.out).mono ?_
  rintro e w2 ⟨T2, S2, R2, rfl, hO2, hS2⟩
  clear a5
  obtain ⟨⟨q2, i2, e2⟩, hq2⟩ : ∃ r, Loopy.timer q a false = r := ⟨_, rfl⟩
  rw [hq2] at hO2
  rw [hq2]
  have HQ2 := Lib.hid hq2
  have HO2 := Lib.hid hO2
  have HS2 := Lib.hid hS2
  have hone2 := hO2.one
  have hl2 := hS2.box hl (fun hm => by have := hml.out _ hm; omega)
  have hs2 := hS2.size
  have hl2z := hl2.lt
  clear hq2 hO2 hS2 hl hb
  simp only
  go_wp2_with (refine wpList_store_box rfl 26 (.tmp 2) (.tmp 27) rfl (w.heap.size + 1) (lag q2 T2 S2 R2) rfl rfl 26 _ hl2 info_loop rfl hone2 ?_; intro w3 hx3 hu3 hz3)
  refine bodyPost_ret (results_btt rfl (Back.mk' (w.heap.size + 1) 26 _ rfl hx3 Try.underlying26 rfl info_loop)) rfl ?_
  have hn1 : ¬ mine T2 S2 R2 (w.heap.size + 1) := fun hm => by
    rcases HS2.out.fresh _ hm with h | h
    · have := hml.out _ h; omega
    · omega
  refine ⟨_, _, _, by rw [HP.out, HQ2.out]; rfl, by rw [HP.out, HQ2.out]; exact HO2.out.past hu3 hn1, ?_⟩
  have hS := HS2.out
  exact Step.of_kp ((Kp.of_step hU hS).upd hu3 (.inr (by omega))) (fun k hk => (hS.fresh k hk).imp id (fun h => by omega))

set_option maxRecDepth 100000 in
set_option maxHeartbeats 4000000 in
theorem do_4 (q : Loopy.Loop) (a : Loopy.Ask) (B : Nat) (T S R : Value) (w : World) (ho : Own w B q T S R) (hB : B ≤ w.heap.size) (hr : Loopy.Right q) (h1 : a.what = 4) :
    Calls Try.prog 28 #[.agg (qac q T S R a)] w fun e w' => AskOut w B T S R (Loopy.doAsk q a) e w' := by
  have HP : Hid (Loopy.doAsk q a = Loopy.timer q a true) := by
    show _ = _
    unfold Loopy.doAsk
    rw [h1]
    rfl
  have hw_ : a.what = 4 := h1
  have w1 : (a.what == 1) = false := by rw [hw_]; rfl
  have w2 : (a.what == 2) = false := by rw [hw_]; rfl
  have w3 : (a.what == 3) = false := by rw [hw_]; rfl
  have w4 : (a.what == 4) = true := by rw [hw_]; rfl
  clear hw_ h1
  have HR := Lib.hid hr
  have l3 := hr.l3
  obtain ⟨A1, c1, e1⟩ := own_slice ho.t
  obtain ⟨A2, c2, e2⟩ := own_slice ho.s
  obtain ⟨A3, c3, e3⟩ := own_slice ho.r
  subst e1 e2 e3
  have HO := Lib.hid ho
  have hml := Lib.hid (fun k (hm : mine (.slice A1 q.tasks.length c1) (.slice A2 q.smalls.length c2) (.slice A3 q.timers.length c3) k) => HO.out.mine_lt hm)
  have hone : (lag q (.slice A1 q.tasks.length c1) (.slice A2 q.smalls.length c2) (.slice A3 q.timers.length c3)).all (·.oneCell') = true := by simp [Value.oneCell']
  clear ho hr
  go_enter Try.func28, Try.ntmps28
  go_upto_region 1 with (fail)
  have hb : Box ((w.alloc (.cells (qac q (.slice A1 q.tasks.length c1) (.slice A2 q.smalls.length c2) (.slice A3 q.timers.length c3) a) 64)).alloc (.cells #[.int .i64 0, .int .i64 0, .slice none 0 0, .slice none 0 0, .slice none 0 0] 26)) (w.heap.size) 64 (qac q (.slice A1 q.tasks.length c1) (.slice A2 q.smalls.length c2) (.slice A3 q.timers.length c3) a) := (Box.new w 64 (qac q (.slice A1 q.tasks.length c1) (.slice A2 q.smalls.length c2) (.slice A3 q.timers.length c3) a)).alloc (.cells #[.int .i64 0, .int .i64 0, .slice none 0 0, .slice none 0 0, .slice none 0 0] 26)
  have hl : Box ((w.alloc (.cells (qac q (.slice A1 q.tasks.length c1) (.slice A2 q.smalls.length c2) (.slice A3 q.timers.length c3) a) 64)).alloc (.cells #[.int .i64 0, .int .i64 0, .slice none 0 0, .slice none 0 0, .slice none 0 0] 26)) (w.heap.size + 1) 26 (#[.int .i64 0, .int .i64 0, .slice none 0 0, .slice none 0 0, .slice none 0 0]) := new2 w (.cells (qac q (.slice A1 q.tasks.length c1) (.slice A2 q.smalls.length c2) (.slice A3 q.timers.length c3) a) 64) 26 #[.int .i64 0, .int .i64 0, .slice none 0 0, .slice none 0 0, .slice none 0 0]
  have hU : Below w.heap.size w ((w.alloc (.cells (qac q (.slice A1 q.tasks.length c1) (.slice A2 q.smalls.length c2) (.slice A3 q.timers.length c3) a) 64)).alloc (.cells #[.int .i64 0, .int .i64 0, .slice none 0 0, .slice none 0 0, .slice none 0 0] 26)) := (below1 w _).alloc (by simp) _
  generalize ((w.alloc (.cells (qac q (.slice A1 q.tasks.length c1) (.slice A2 q.smalls.length c2) (.slice A3 q.timers.length c3) a) 64)).alloc (.cells #[.int .i64 0, .int .i64 0, .slice none 0 0, .slice none 0 0, .slice none 0 0] 26)) = W at *
  have hzW := hl.lt
  have hzb := hU.size
  have HW := Lib.hid (HO.out.below hU)
  have a5 := hb.cell 5
  simp at a5
  go_wp2_with (refine wpList_load_row rfl 64 (.tmp 1) rfl (w.heap.size) rfl _ (qac q (.slice A1 q.tasks.length c1) (.slice A2 q.smalls.length c2) (.slice A3 q.timers.length c3) a) (0, 0) _ hb Try.underlying64 rfl info_asked ?_)
  refine (timer_any q a true B _ _ _ W HW.out (by omega) HR.out).mono ?_
  rintro e w2 ⟨T2, S2, R2, rfl, hO2, hS2⟩
  clear a5
  obtain ⟨⟨q2, i2, e2⟩, hq2⟩ : ∃ r, Loopy.timer q a true = r := ⟨_, rfl⟩
  rw [hq2] at hO2
  rw [hq2]
  have HQ2 := Lib.hid hq2
  have HO2 := Lib.hid hO2
  have HS2 := Lib.hid hS2
  have hone2 := hO2.one
  have hl2 := hS2.box hl (fun hm => by have := hml.out _ hm; omega)
  have hs2 := hS2.size
  have hl2z := hl2.lt
  clear hq2 hO2 hS2 hl hb
  simp only
  go_wp2_with (refine wpList_store_box rfl 26 (.tmp 2) (.tmp 34) rfl (w.heap.size + 1) (lag q2 T2 S2 R2) rfl rfl 26 _ hl2 info_loop rfl hone2 ?_; intro w3 hx3 hu3 hz3)
  refine bodyPost_ret (results_btt rfl (Back.mk' (w.heap.size + 1) 26 _ rfl hx3 Try.underlying26 rfl info_loop)) rfl ?_
  have hn1 : ¬ mine T2 S2 R2 (w.heap.size + 1) := fun hm => by
    rcases HS2.out.fresh _ hm with h | h
    · have := hml.out _ h; omega
    · omega
  refine ⟨_, _, _, by rw [HP.out, HQ2.out]; rfl, by rw [HP.out, HQ2.out]; exact HO2.out.past hu3 hn1, ?_⟩
  have hS := HS2.out
  exact Step.of_kp ((Kp.of_step hU hS).upd hu3 (.inr (by omega))) (fun k hk => (hS.fresh k hk).imp id (fun h => by omega))

set_option maxRecDepth 100000 in
set_option maxHeartbeats 4000000 in
theorem do_none (q : Loopy.Loop) (a : Loopy.Ask) (B : Nat) (T S R : Value) (w : World) (ho : Own w B q T S R) (hB : B ≤ w.heap.size) (hr : Loopy.Right q) (h1 : ¬ (1 ≤ a.what ∧ a.what ≤ 4)) (h2 : Loopy.idxOf (fun t => t.id == a.n) q.timers < 0) :
    Calls Try.prog 28 #[.agg (qac q T S R a)] w fun e w' => AskOut w B T S R (Loopy.doAsk q a) e w' := by
  obtain ⟨p, hp⟩ : ∃ p : Loopy.Timer → Bool, (fun t : Loopy.Timer => t.id == a.n) = p := ⟨_, rfl⟩
  have hd : Loopy.doAsk q a = Loopy.cancel q a.n := by
    unfold Loopy.doAsk
    rw [if_neg (by omega), if_neg (by omega), if_neg (by omega), if_neg (by omega)]
  have HP : Hid (Loopy.doAsk q a = (q, 0, 5)) := by
    show _ = _
    rw [hd]
    unfold Loopy.cancel
    rw [if_pos h2]
  have hlo := idxOf_lo (fun t => t.id == a.n) q.timers
  have hhi := idx_lt (fun t => t.id == a.n) q.timers
  obtain ⟨x, hx⟩ : ∃ x, Loopy.idxOf (fun t => t.id == a.n) q.timers = x := ⟨_, rfl⟩
  rw [hx] at hlo hhi h2
  have HX := Lib.hid hx
  clear hx hd hp
  have w1 : (a.what == 1) = false := by simp; omega
  have w2 : (a.what == 2) = false := by simp; omega
  have w3 : (a.what == 3) = false := by simp; omega
  have w4 : (a.what == 4) = false := by simp; omega
  have HR := Lib.hid hr
  have l3 := hr.l3
  obtain ⟨A1, c1, e1⟩ := own_slice ho.t
  obtain ⟨A2, c2, e2⟩ := own_slice ho.s
  obtain ⟨A3, c3, e3⟩ := own_slice ho.r
  subst e1 e2 e3
  have HO := Lib.hid ho
  have hml := Lib.hid (fun k (hm : mine (.slice A1 q.tasks.length c1) (.slice A2 q.smalls.length c2) (.slice A3 q.timers.length c3) k) => HO.out.mine_lt hm)
  have hone : (lag q (.slice A1 q.tasks.length c1) (.slice A2 q.smalls.length c2) (.slice A3 q.timers.length c3)).all (·.oneCell') = true := by simp [Value.oneCell']
  clear ho hr
  go_enter Try.func28, Try.ntmps28
  go_upto_region 1 with (fail)
  have hb : Box ((w.alloc (.cells (qac q (.slice A1 q.tasks.length c1) (.slice A2 q.smalls.length c2) (.slice A3 q.timers.length c3) a) 64)).alloc (.cells #[.int .i64 0, .int .i64 0, .slice none 0 0, .slice none 0 0, .slice none 0 0] 26)) (w.heap.size) 64 (qac q (.slice A1 q.tasks.length c1) (.slice A2 q.smalls.length c2) (.slice A3 q.timers.length c3) a) := (Box.new w 64 (qac q (.slice A1 q.tasks.length c1) (.slice A2 q.smalls.length c2) (.slice A3 q.timers.length c3) a)).alloc (.cells #[.int .i64 0, .int .i64 0, .slice none 0 0, .slice none 0 0, .slice none 0 0] 26)
  have hl : Box ((w.alloc (.cells (qac q (.slice A1 q.tasks.length c1) (.slice A2 q.smalls.length c2) (.slice A3 q.timers.length c3) a) 64)).alloc (.cells #[.int .i64 0, .int .i64 0, .slice none 0 0, .slice none 0 0, .slice none 0 0] 26)) (w.heap.size + 1) 26 (#[.int .i64 0, .int .i64 0, .slice none 0 0, .slice none 0 0, .slice none 0 0]) := new2 w (.cells (qac q (.slice A1 q.tasks.length c1) (.slice A2 q.smalls.length c2) (.slice A3 q.timers.length c3) a) 64) 26 #[.int .i64 0, .int .i64 0, .slice none 0 0, .slice none 0 0, .slice none 0 0]
  have hU : Below w.heap.size w ((w.alloc (.cells (qac q (.slice A1 q.tasks.length c1) (.slice A2 q.smalls.length c2) (.slice A3 q.timers.length c3) a) 64)).alloc (.cells #[.int .i64 0, .int .i64 0, .slice none 0 0, .slice none 0 0, .slice none 0 0] 26)) := (below1 w _).alloc (by simp) _
  generalize ((w.alloc (.cells (qac q (.slice A1 q.tasks.length c1) (.slice A2 q.smalls.length c2) (.slice A3 q.timers.length c3) a) 64)).alloc (.cells #[.int .i64 0, .int .i64 0, .slice none 0 0, .slice none 0 0, .slice none 0 0] 26)) = W at *
  have hzW := hl.lt
  have hzb := hU.size
  have HW := Lib.hid (HO.out.below hU)
  have a5 := hb.cell 5
  simp at a5
  have HIX : Hid (Calls Try.prog 18 #[.slice A3 q.timers.length c3, .func (.func 41) #[] #[.pointer (some ⟨w.heap.size, 0, none⟩)]] W fun e w' => e = .returned (.int .i64 x) ∧ Below W.heap.size W w') := by
    show Calls _ _ _ _ _
    rw [← HX.out, ← idx_of]
    have hc7 := hb.cell 7
    simp at hc7
    exact index_timer q.timers (fun t => t.id == a.n) 41 #[.pointer (some ⟨w.heap.size, 0, none⟩)] _ W eg3 (fun t _ w1 hb1 => is_any t a.n w.heap.size w1 ((hb1.cell (p := ⟨w.heap.size, 7, none⟩) hb.lt).trans hc7)) (Rd.own HW.out.r) (by omega)
  have a4 := hb.cell 4
  simp at a4
  go_wp2_with (fail)
  refine (HIX.out).mono ?_
  rintro e w1 ⟨rfl, hb1⟩
  clear a4 a5
  have hb_ := Box.below hb hb1 hb.lt
  clear hb
  have hb := hb_
  clear hb_
  have hl_ := Box.below hl hb1 hl.lt
  clear hl
  have hl := hl_
  clear hl_
  have hU1 : Below w.heap.size w w1 := hU.trans (hb1.mono hU.size)
  have hz1 := hb1.size
  clear hb1 hU
  have hx0 : decide (x < 0) = true := by simpa using h2
  go_wp2_with (first | (refine wpList_load_mid rfl 26 (.tmp 44) rfl (w.heap.size) 0 rfl (lag q (.slice A1 q.tasks.length c1) (.slice A2 q.smalls.length c2) (.slice A3 q.timers.length c3)).toList _ (asked_range hb) Try.underlying26 rfl info_loop ?_) | (refine wpList_store_box rfl 26 (.tmp 2) (.tmp 45) rfl (w.heap.size + 1) (lag q (.slice A1 q.tasks.length c1) (.slice A2 q.smalls.length c2) (.slice A3 q.timers.length c3)) rfl rfl 26 _ hl info_loop rfl hone ?_; intro w9 hx9 hu9 hz9; clear hz9))
  refine bodyPost_ret (results_btt rfl (Back.mk' (w.heap.size + 1) 26 _ rfl hx9 Try.underlying26 rfl info_loop)) rfl ?_
  have hB9 : Below w.heap.size w w9 := hU1.trans (Upd.own (B := w.heap.size) hu9 (by omega) hU1.size)
  exact ⟨_, _, _, by rw [HP.out]; rfl, by rw [HP.out]; exact HO.out.below hB9, Step.same hB9⟩

set_option maxRecDepth 100000 in
set_option maxHeartbeats 4000000 in
theorem do_cancel (q : Loopy.Loop) (a : Loopy.Ask) (B : Nat) (T S R : Value) (w : World) (ho : Own w B q T S R) (hB : B ≤ w.heap.size) (hr : Loopy.Right q) (h1 : ¬ (1 ≤ a.what ∧ a.what ≤ 4)) (h2 : ¬ Loopy.idxOf (fun t => t.id == a.n) q.timers < 0) :
    Calls Try.prog 28 #[.agg (qac q T S R a)] w fun e w' => AskOut w B T S R (Loopy.doAsk q a) e w' := by
  obtain ⟨p, hp⟩ : ∃ p : Loopy.Timer → Bool, (fun t : Loopy.Timer => t.id == a.n) = p := ⟨_, rfl⟩
  have hd : Loopy.doAsk q a = Loopy.cancel q a.n := by
    unfold Loopy.doAsk
    rw [if_neg (by omega), if_neg (by omega), if_neg (by omega), if_neg (by omega)]
  have HP : Hid (Loopy.doAsk q a = (({ q with timers := q.timers.eraseIdx (Loopy.idxOf (fun t => t.id == a.n) q.timers).toNat } : Loopy.Loop), 0, 0)) := by
    show _ = _
    rw [hd]
    unfold Loopy.cancel
    rw [if_neg h2]
  have hlo := idxOf_lo (fun t => t.id == a.n) q.timers
  have hhi := idx_lt (fun t => t.id == a.n) q.timers
  obtain ⟨x, hx⟩ : ∃ x, Loopy.idxOf (fun t => t.id == a.n) q.timers = x := ⟨_, rfl⟩
  rw [hx] at hlo hhi h2
  have HX := Lib.hid hx
  clear hx hd hp
  have w1 : (a.what == 1) = false := by simp; omega
  have w2 : (a.what == 2) = false := by simp; omega
  have w3 : (a.what == 3) = false := by simp; omega
  have w4 : (a.what == 4) = false := by simp; omega
  have HR := Lib.hid hr
  have l3 := hr.l3
  obtain ⟨A1, c1, e1⟩ := own_slice ho.t
  obtain ⟨A2, c2, e2⟩ := own_slice ho.s
  obtain ⟨A3, c3, e3⟩ := own_slice ho.r
  subst e1 e2 e3
  have HO := Lib.hid ho
  have hml := Lib.hid (fun k (hm : mine (.slice A1 q.tasks.length c1) (.slice A2 q.smalls.length c2) (.slice A3 q.timers.length c3) k) => HO.out.mine_lt hm)
  have hone : (lag q (.slice A1 q.tasks.length c1) (.slice A2 q.smalls.length c2) (.slice A3 q.timers.length c3)).all (·.oneCell') = true := by simp [Value.oneCell']
  clear ho hr
  go_enter Try.func28, Try.ntmps28
  go_upto_region 1 with (fail)
  have hb : Box ((w.alloc (.cells (qac q (.slice A1 q.tasks.length c1) (.slice A2 q.smalls.length c2) (.slice A3 q.timers.length c3) a) 64)).alloc (.cells #[.int .i64 0, .int .i64 0, .slice none 0 0, .slice none 0 0, .slice none 0 0] 26)) (w.heap.size) 64 (qac q (.slice A1 q.tasks.length c1) (.slice A2 q.smalls.length c2) (.slice A3 q.timers.length c3) a) := (Box.new w 64 (qac q (.slice A1 q.tasks.length c1) (.slice A2 q.smalls.length c2) (.slice A3 q.timers.length c3) a)).alloc (.cells #[.int .i64 0, .int .i64 0, .slice none 0 0, .slice none 0 0, .slice none 0 0] 26)
  have hl : Box ((w.alloc (.cells (qac q (.slice A1 q.tasks.length c1) (.slice A2 q.smalls.length c2) (.slice A3 q.timers.length c3) a) 64)).alloc (.cells #[.int .i64 0, .int .i64 0, .slice none 0 0, .slice none 0 0, .slice none 0 0] 26)) (w.heap.size + 1) 26 (#[.int .i64 0, .int .i64 0, .slice none 0 0, .slice none 0 0, .slice none 0 0]) := new2 w (.cells (qac q (.slice A1 q.tasks.length c1) (.slice A2 q.smalls.length c2) (.slice A3 q.timers.length c3) a) 64) 26 #[.int .i64 0, .int .i64 0, .slice none 0 0, .slice none 0 0, .slice none 0 0]
  have hU : Below w.heap.size w ((w.alloc (.cells (qac q (.slice A1 q.tasks.length c1) (.slice A2 q.smalls.length c2) (.slice A3 q.timers.length c3) a) 64)).alloc (.cells #[.int .i64 0, .int .i64 0, .slice none 0 0, .slice none 0 0, .slice none 0 0] 26)) := (below1 w _).alloc (by simp) _
  generalize ((w.alloc (.cells (qac q (.slice A1 q.tasks.length c1) (.slice A2 q.smalls.length c2) (.slice A3 q.timers.length c3) a) 64)).alloc (.cells #[.int .i64 0, .int .i64 0, .slice none 0 0, .slice none 0 0, .slice none 0 0] 26)) = W at *
  have hzW := hl.lt
  have hzb := hU.size
  have HW := Lib.hid (HO.out.below hU)
  have a5 := hb.cell 5
  simp at a5
  have HIX : Hid (Calls Try.prog 18 #[.slice A3 q.timers.length c3, .func (.func 41) #[] #[.pointer (some ⟨w.heap.size, 0, none⟩)]] W fun e w' => e = .returned (.int .i64 x) ∧ Below W.heap.size W w') := by
    show Calls _ _ _ _ _
    rw [← HX.out, ← idx_of]
    have hc7 := hb.cell 7
    simp at hc7
    exact index_timer q.timers (fun t => t.id == a.n) 41 #[.pointer (some ⟨w.heap.size, 0, none⟩)] _ W eg3 (fun t _ w1 hb1 => is_any t a.n w.heap.size w1 ((hb1.cell (p := ⟨w.heap.size, 7, none⟩) hb.lt).trans hc7)) (Rd.own HW.out.r) (by omega)
  have a4 := hb.cell 4
  simp at a4
  go_wp2_with (fail)
  refine (HIX.out).mono ?_
  rintro e w1 ⟨rfl, hb1⟩
  clear a4 a5
  have hb_ := Box.below hb hb1 hb.lt
  clear hb
  have hb := hb_
  clear hb_
  have hl_ := Box.below hl hb1 hl.lt
  clear hl
  have hl := hl_
  clear hl_
  have hU1 : Below w.heap.size w w1 := hU.trans (hb1.mono hU.size)
  have hz1 := hb1.size
  clear hb1 hU
  obtain ⟨i, rfl⟩ : ∃ i : Nat, x = (i : Int) := ⟨x.toNat, by omega⟩
  have hi : i < q.timers.length := by omega
  have hO1 := Lib.hid (HO.out.below hU1)
  have a4 := hb.cell 4
  simp at a4
  go_wp2_with (fail)
  refine (delete_timer q.timers i hi B _ w1 hO1.out.r (by omega)).mono ?_
  rintro e w2 ⟨v2, rfl, hown2, hvb2, hgr2⟩
  obtain ⟨A4, k4, rfl⟩ := own_slice hown2
  clear a4
  have hb_ := Box.grown hb hgr2 (fun h => by have := hml.out _ (.inr (.inr h.symm)); omega)
  clear hb
  have hb := hb_
  clear hb_
  have hl_ := Box.grown hl hgr2 (fun h => by have := hml.out _ (.inr (.inr h.symm)); omega)
  clear hl
  have hl := hl_
  clear hl_
  have hK2 : Kp w w2 (mine (.slice A1 q.tasks.length c1) (.slice A2 q.smalls.length c2) (.slice A3 q.timers.length c3)) := (Kp.below hU1).grown hgr2 (fun k e => .inl (.inr (.inr e)))
  have hO2 : Own w2 B ({ q with timers := q.timers.eraseIdx i } : Loopy.Loop) (.slice A1 q.tasks.length c1) (.slice A2 q.smalls.length c2) (.slice A4 (q.timers.length - 1) k4) := by
    have h7 := hO1.out
    have hnew : w2.ownsRow B 49 5 (.slice A4 (q.timers.length - 1) k4) (q.timers.eraseIdx i).length (flat tc (q.timers.eraseIdx i)) := by
      rw [List.length_eraseIdx_of_lt hi]
      exact hown2
    exact ⟨own_grown h7.t hgr2 h7.tr.ne, own_grown h7.s hgr2 h7.sr.ne, hnew, h7.ts, fun k h1 h2 => h7.tr k h1 (by rw [← hvb2]; exact h2), fun k h1 h2 => h7.sr k h1 (by rw [← hvb2]; exact h2)⟩
  have hmy : ∀ k, mine (.slice A1 q.tasks.length c1) (.slice A2 q.smalls.length c2) (.slice A4 (q.timers.length - 1) k4) k → mine (.slice A1 q.tasks.length c1) (.slice A2 q.smalls.length c2) (.slice A3 q.timers.length c3) k := by
    rintro k (h | h | h)
    · exact .inl h
    · exact .inr (.inl h)
    · exact .inr (.inr (by rw [← hvb2]; exact h))
  have hz2 := hgr2.size
  have r4 := hb.cell 4
  have fr4 := hb.frozen 4
  simp at r4
  go_upto_region 14 with (fail)
  clear r4 fr4
  have hb_ := Box.set hb 4 (.slice A4 (q.timers.length - 1) k4)
  clear hb
  have hb := hb_
  clear hb_
  have hl_ := Box.far hl (p := ⟨w.heap.size, 4, none⟩) (by simp <;> omega) (.slice A4 (q.timers.length - 1) k4)
  clear hl
  have hl := hl_
  clear hl_
  have hU3 : Upd w2 (w2.setCell ⟨w.heap.size, 4, none⟩ (.slice A4 (q.timers.length - 1) k4)) w.heap.size := (Upd.refl w2 w.heap.size).set (p := ⟨w.heap.size, 4, none⟩) (.inl rfl) (.slice A4 (q.timers.length - 1) k4)
  generalize (w2.setCell ⟨w.heap.size, 4, none⟩ (.slice A4 (q.timers.length - 1) k4)) = w3 at *
  change Box w3 (w.heap.size) 64 (qac ({ q with timers := q.timers.eraseIdx i } : Loopy.Loop) (.slice A1 q.tasks.length c1) (.slice A2 q.smalls.length c2) (.slice A4 (q.timers.length - 1) k4) a) at hb
  have hO3 := hO2.past hU3 (fun h => by have := hml.out _ (hmy _ h); omega)
  have hK3 := hK2.upd hU3 (.inr (Nat.le_refl _))
  have hone2 : (lag ({ q with timers := q.timers.eraseIdx i } : Loopy.Loop) (.slice A1 q.tasks.length c1) (.slice A2 q.smalls.length c2) (.slice A4 (q.timers.length - 1) k4)).all (·.oneCell') = true := by simp [Value.oneCell']
  have HO3 := Lib.hid hO3
  have HK3 := Lib.hid hK3
  have HMY := Lib.hid hmy
  clear hO3 hK3 hmy hO2 hK2 hU3 hgr2 hown2 hvb2
  go_wp2_with (first | (refine wpList_load_mid rfl 26 (.tmp 55) rfl (w.heap.size) 0 rfl (lag ({ q with timers := q.timers.eraseIdx i } : Loopy.Loop) (.slice A1 q.tasks.length c1) (.slice A2 q.smalls.length c2) (.slice A4 (q.timers.length - 1) k4)).toList _ (asked_range hb) Try.underlying26 rfl info_loop ?_) | (refine wpList_store_box rfl 26 (.tmp 2) (.tmp 56) rfl (w.heap.size + 1) (lag ({ q with timers := q.timers.eraseIdx i } : Loopy.Loop) (.slice A1 q.tasks.length c1) (.slice A2 q.smalls.length c2) (.slice A4 (q.timers.length - 1) k4)) rfl rfl 26 _ hl info_loop rfl hone2 ?_; intro w9 hx9 hu9 hz9; clear hz9))
  refine bodyPost_ret (results_btt rfl (Back.mk' (w.heap.size + 1) 26 _ rfl hx9 Try.underlying26 rfl info_loop)) rfl ?_
  refine ⟨_, _, _, by rw [HP.out, HX.out]; rfl, by rw [HP.out, HX.out]; exact HO3.out.past hu9 (fun h => by have := hml.out _ (HMY.out _ h); omega), Step.of_kp (HK3.out.upd hu9 (.inr (by omega))) (fun k hk => .inl (HMY.out k hk))⟩

theorem do_any (q : Loopy.Loop) (a : Loopy.Ask) (B : Nat) (T S R : Value) (w : World) (ho : Own w B q T S R) (hB : B ≤ w.heap.size) (hr : Loopy.Right q) :
    Calls Try.prog 28 #[.agg (qac q T S R a)] w fun e w' => AskOut w B T S R (Loopy.doAsk q a) e w' := by
  by_cases h1 : a.what = 1
  · exact do_1 q a B T S R w ho hB hr h1
  · by_cases h2 : a.what = 2
    · exact do_2 q a B T S R w ho hB hr h2
    · by_cases h3 : a.what = 3
      · exact do_3 q a B T S R w ho hB hr h3
      · by_cases h4 : a.what = 4
        · exact do_4 q a B T S R w ho hB hr h4
        · by_cases h5 : Loopy.idxOf (fun t => t.id == a.n) q.timers < 0
          · exact do_none q a B T S R w ho hB hr (by omega) h5
          · exact do_cancel q a B T S R w ho hB hr (by omega) h5
end Go.Proofs.Ytpjbblbehbepbaa
