/-
  Next. Conditions: the loop's rows read as lists.
-/
import Derived.Test.YtpjbblbehbepbaaLpP
namespace Go.Proofs.Ytpjbblbehbepbaa
set_option linter.unusedSimpArgs false
set_option linter.unusedVariables false
open Go.RowKit

def q0 : Loopy.Loop := ⟨0, 0, [], [], []⟩
/-- what Next answers: a loop, a job or none, an error. -/
def nextR (q : Loopy.Loop) (til : Int) : (Loopy.Loop × Option Loopy.Job) × Nat :=
  if Loopy.check q = 0 then (if Valu.within til q.now 1000000000 then (Loopy.next q til, 0) else ((q0, none), 1)) else ((q0, none), Loopy.check q)
def NextFnOut (w : World) (r : (Loopy.Loop × Option Loopy.Job) × Nat) (e : Ending) (w' : World) : Prop :=
  ∃ T S R, e = .returned (.tuple #[.agg (lag r.1.1 T S R), jag (r.1.2.getD jzero), .bool r.1.2.isSome, .int .i64 (r.2 : Int)]) ∧ Own w' w.heap.size r.1.1 T S R ∧ Below w.heap.size w w'
theorem own_zero (w : World) (B : Nat) : Own w B q0 (.slice none 0 0) (.slice none 0 0) (.slice none 0 0) :=
  ⟨World.ownsRow_nil _ _ _ _, World.ownsRow_nil _ _ _ _, World.ownsRow_nil _ _ _ _, Apart.nil _ _ _, Apart.nil _ _ _, Apart.nil _ _ _⟩
set_option maxRecDepth 100000 in
set_option maxHeartbeats 2000000 in
theorem Next_no2 (q : Loopy.Loop) (til : Int) (T S R : Value) (w : World) (hq : LRd w q T S R) (hc : Loopy.check q = 2) :
    Calls Try.prog 14 #[.agg (lag q T S R), .int .i64 til] w fun e w' => NextFnOut w (nextR q til) e w' := by
  have HC : Hid (∀ w T S R, LRd w q T S R → Calls Try.prog 15 #[.agg (lag q T S R)] w fun e w' => e = .returned (.int .i64 2) ∧ Below w.heap.size w w') := fun w T S R h => by have := check_any q T S R w h; rw [hc] at this; exact this
  have HN : Hid (nextR q til = ((q0, none), 2)) := by show _ = _; unfold nextR; rw [if_neg (by rw [hc]; decide), hc]
  clear hc
  have HQ := Lib.hid hq
  obtain ⟨⟨AT, cT, rfl, hT1, hT2, hT3⟩, ⟨AS, cS, rfl, hS1, hS2, hS3⟩, ⟨AR, cR, rfl, hR1, hR2, hR3⟩⟩ := hq
  clear hT3 hS3 hR3
  go_enter Try.func14, Try.ntmps14
  go_upto_region 1 with (fail)
  have hb : Box (((w.alloc (.cells (lag q (.slice AT q.tasks.length cT) (.slice AS q.smalls.length cS) (.slice AR q.timers.length cR)) 26)).alloc (.cells #[.int .i64 0, .int .i64 0, .slice none 0 0, .slice none 0 0, .slice none 0 0] 26)).alloc (.cells #[.int .i64 0, .int .i64 0, .bool false, .string ⟨#[]⟩, .int .i64 0, .int .i64 0, .string ⟨#[]⟩] 39)) (w.heap.size) 26 (lag q (.slice AT q.tasks.length cT) (.slice AS q.smalls.length cS) (.slice AR q.timers.length cR)) := (((Box.new w 26 (lag q (.slice AT q.tasks.length cT) (.slice AS q.smalls.length cS) (.slice AR q.timers.length cR))).alloc (.cells #[.int .i64 0, .int .i64 0, .slice none 0 0, .slice none 0 0, .slice none 0 0] 26)).alloc (.cells #[.int .i64 0, .int .i64 0, .bool false, .string ⟨#[]⟩, .int .i64 0, .int .i64 0, .string ⟨#[]⟩] 39))
  have hl : Box (((w.alloc (.cells (lag q (.slice AT q.tasks.length cT) (.slice AS q.smalls.length cS) (.slice AR q.timers.length cR)) 26)).alloc (.cells #[.int .i64 0, .int .i64 0, .slice none 0 0, .slice none 0 0, .slice none 0 0] 26)).alloc (.cells #[.int .i64 0, .int .i64 0, .bool false, .string ⟨#[]⟩, .int .i64 0, .int .i64 0, .string ⟨#[]⟩] 39)) (w.heap.size + 1) 26 (#[.int .i64 0, .int .i64 0, .slice none 0 0, .slice none 0 0, .slice none 0 0]) := (new2 w (.cells (lag q (.slice AT q.tasks.length cT) (.slice AS q.smalls.length cS) (.slice AR q.timers.length cR)) 26) 26 #[.int .i64 0, .int .i64 0, .slice none 0 0, .slice none 0 0, .slice none 0 0]).alloc (.cells #[.int .i64 0, .int .i64 0, .bool false, .string ⟨#[]⟩, .int .i64 0, .int .i64 0, .string ⟨#[]⟩] 39)
  have hj : Box (((w.alloc (.cells (lag q (.slice AT q.tasks.length cT) (.slice AS q.smalls.length cS) (.slice AR q.timers.length cR)) 26)).alloc (.cells #[.int .i64 0, .int .i64 0, .slice none 0 0, .slice none 0 0, .slice none 0 0] 26)).alloc (.cells #[.int .i64 0, .int .i64 0, .bool false, .string ⟨#[]⟩, .int .i64 0, .int .i64 0, .string ⟨#[]⟩] 39)) (w.heap.size + 1 + 1) 39 (#[.int .i64 0, .int .i64 0, .bool false, .string ⟨#[]⟩, .int .i64 0, .int .i64 0, .string ⟨#[]⟩]) := new3 w (.cells (lag q (.slice AT q.tasks.length cT) (.slice AS q.smalls.length cS) (.slice AR q.timers.length cR)) 26) (.cells #[.int .i64 0, .int .i64 0, .slice none 0 0, .slice none 0 0, .slice none 0 0] 26) 39 #[.int .i64 0, .int .i64 0, .bool false, .string ⟨#[]⟩, .int .i64 0, .int .i64 0, .string ⟨#[]⟩]
  have hU : Below w.heap.size w (((w.alloc (.cells (lag q (.slice AT q.tasks.length cT) (.slice AS q.smalls.length cS) (.slice AR q.timers.length cR)) 26)).alloc (.cells #[.int .i64 0, .int .i64 0, .slice none 0 0, .slice none 0 0, .slice none 0 0] 26)).alloc (.cells #[.int .i64 0, .int .i64 0, .bool false, .string ⟨#[]⟩, .int .i64 0, .int .i64 0, .string ⟨#[]⟩] 39)) := ((below1 w _).alloc (by simp) _).alloc (by simp <;> omega) _
  generalize (((w.alloc (.cells (lag q (.slice AT q.tasks.length cT) (.slice AS q.smalls.length cS) (.slice AR q.timers.length cR)) 26)).alloc (.cells #[.int .i64 0, .int .i64 0, .slice none 0 0, .slice none 0 0, .slice none 0 0] 26)).alloc (.cells #[.int .i64 0, .int .i64 0, .bool false, .string ⟨#[]⟩, .int .i64 0, .int .i64 0, .string ⟨#[]⟩] 39)) = W at *
  have HW := Lib.hid (HQ.out.below hU)
  go_wp2_with (refine wpList_load_row rfl 26 (.tmp 2) rfl (w.heap.size) rfl _ (lag q (.slice AT q.tasks.length cT) (.slice AS q.smalls.length cS) (.slice AR q.timers.length cR)) (0, 0) _ hb Try.underlying26 rfl info_loop ?_)
  refine (HC.out _ _ _ _ HW.out).mono ?_
  rintro e w1 ⟨rfl, hb1⟩
  have hb_ := Box.below hb hb1 hb.lt
  clear hb
  have hb := hb_
  clear hb_
  have hl_ := Box.below hl hb1 hl.lt
  clear hl
  have hl := hl_
  clear hl_
  have hj_ := Box.below hj hb1 hj.lt
  clear hj
  have hj := hj_
  clear hj_
  have hU1 : Below w.heap.size w w1 := hU.trans (hb1.mono hU.size)
  have HW1 := Lib.hid (HW.out.below hb1)
  have hz1 := hj.lt
  clear hU hb1
  go_wp2_with (first | (refine wpList_store_box rfl 26 (.tmp 4) (.tmp 15) rfl (w.heap.size + 1) (#[.int .i64 0, .int .i64 0, .slice none 0 0, .slice none 0 0, .slice none 0 0]) rfl rfl 26 _ hl info_loop rfl (by simp [Value.oneCell']) ?_; intro w9 hx9 hu9 hz9; have hj9 := Box.grown hj hu9 (by intro h; injection h with h; omega); clear hz9) | (refine wpList_store_box rfl 39 (.tmp 5) (.tmp 16) rfl (w.heap.size + 1 + 1) (jc jzero) rfl rfl 39 _ hj9 info_job rfl (jc_one _) ?_; intro w10 hx10 hu10 hz10; clear hz10))
  refine bodyPost_ret (results_bbtt rfl (Back.mk' (w.heap.size + 1) 26 _ rfl (Box.grown hx9 hu10 (by intro h; injection h with h; omega)) Try.underlying26 rfl info_loop) (Back.mk' (w.heap.size + 1 + 1) 39 _ rfl hx10 Try.underlying39 rfl info_job)) rfl ?_
  have hB10 : Below w.heap.size w w10 := (hU1.trans (Upd.own (B := w.heap.size) hu9 (by omega) hU1.size)).trans (Upd.own (B := w.heap.size) hu10 (by omega) (Nat.le_trans hU1.size hu9.size))
  refine ⟨_, _, _, by rw [HN.out]; rfl, by rw [HN.out]; exact own_zero _ _, hB10⟩

set_option maxRecDepth 100000 in
set_option maxHeartbeats 2000000 in
theorem Next_no3 (q : Loopy.Loop) (til : Int) (T S R : Value) (w : World) (hq : LRd w q T S R) (hc : Loopy.check q = 3) :
    Calls Try.prog 14 #[.agg (lag q T S R), .int .i64 til] w fun e w' => NextFnOut w (nextR q til) e w' := by
  have HC : Hid (∀ w T S R, LRd w q T S R → Calls Try.prog 15 #[.agg (lag q T S R)] w fun e w' => e = .returned (.int .i64 3) ∧ Below w.heap.size w w') := fun w T S R h => by have := check_any q T S R w h; rw [hc] at this; exact this
  have HN : Hid (nextR q til = ((q0, none), 3)) := by show _ = _; unfold nextR; rw [if_neg (by rw [hc]; decide), hc]
  clear hc
  have HQ := Lib.hid hq
  obtain ⟨⟨AT, cT, rfl, hT1, hT2, hT3⟩, ⟨AS, cS, rfl, hS1, hS2, hS3⟩, ⟨AR, cR, rfl, hR1, hR2, hR3⟩⟩ := hq
  clear hT3 hS3 hR3
  go_enter Try.func14, Try.ntmps14
  go_upto_region 1 with (fail)
  have hb : Box (((w.alloc (.cells (lag q (.slice AT q.tasks.length cT) (.slice AS q.smalls.length cS) (.slice AR q.timers.length cR)) 26)).alloc (.cells #[.int .i64 0, .int .i64 0, .slice none 0 0, .slice none 0 0, .slice none 0 0] 26)).alloc (.cells #[.int .i64 0, .int .i64 0, .bool false, .string ⟨#[]⟩, .int .i64 0, .int .i64 0, .string ⟨#[]⟩] 39)) (w.heap.size) 26 (lag q (.slice AT q.tasks.length cT) (.slice AS q.smalls.length cS) (.slice AR q.timers.length cR)) := (((Box.new w 26 (lag q (.slice AT q.tasks.length cT) (.slice AS q.smalls.length cS) (.slice AR q.timers.length cR))).alloc (.cells #[.int .i64 0, .int .i64 0, .slice none 0 0, .slice none 0 0, .slice none 0 0] 26)).alloc (.cells #[.int .i64 0, .int .i64 0, .bool false, .string ⟨#[]⟩, .int .i64 0, .int .i64 0, .string ⟨#[]⟩] 39))
  have hl : Box (((w.alloc (.cells (lag q (.slice AT q.tasks.length cT) (.slice AS q.smalls.length cS) (.slice AR q.timers.length cR)) 26)).alloc (.cells #[.int .i64 0, .int .i64 0, .slice none 0 0, .slice none 0 0, .slice none 0 0] 26)).alloc (.cells #[.int .i64 0, .int .i64 0, .bool false, .string ⟨#[]⟩, .int .i64 0, .int .i64 0, .string ⟨#[]⟩] 39)) (w.heap.size + 1) 26 (#[.int .i64 0, .int .i64 0, .slice none 0 0, .slice none 0 0, .slice none 0 0]) := (new2 w (.cells (lag q (.slice AT q.tasks.length cT) (.slice AS q.smalls.length cS) (.slice AR q.timers.length cR)) 26) 26 #[.int .i64 0, .int .i64 0, .slice none 0 0, .slice none 0 0, .slice none 0 0]).alloc (.cells #[.int .i64 0, .int .i64 0, .bool false, .string ⟨#[]⟩, .int .i64 0, .int .i64 0, .string ⟨#[]⟩] 39)
  have hj : Box (((w.alloc (.cells (lag q (.slice AT q.tasks.length cT) (.slice AS q.smalls.length cS) (.slice AR q.timers.length cR)) 26)).alloc (.cells #[.int .i64 0, .int .i64 0, .slice none 0 0, .slice none 0 0, .slice none 0 0] 26)).alloc (.cells #[.int .i64 0, .int .i64 0, .bool false, .string ⟨#[]⟩, .int .i64 0, .int .i64 0, .string ⟨#[]⟩] 39)) (w.heap.size + 1 + 1) 39 (#[.int .i64 0, .int .i64 0, .bool false, .string ⟨#[]⟩, .int .i64 0, .int .i64 0, .string ⟨#[]⟩]) := new3 w (.cells (lag q (.slice AT q.tasks.length cT) (.slice AS q.smalls.length cS) (.slice AR q.timers.length cR)) 26) (.cells #[.int .i64 0, .int .i64 0, .slice none 0 0, .slice none 0 0, .slice none 0 0] 26) 39 #[.int .i64 0, .int .i64 0, .bool false, .string ⟨#[]⟩, .int .i64 0, .int .i64 0, .string ⟨#[]⟩]
  have hU : Below w.heap.size w (((w.alloc (.cells (lag q (.slice AT q.tasks.length cT) (.slice AS q.smalls.length cS) (.slice AR q.timers.length cR)) 26)).alloc (.cells #[.int .i64 0, .int .i64 0, .slice none 0 0, .slice none 0 0, .slice none 0 0] 26)).alloc (.cells #[.int .i64 0, .int .i64 0, .bool false, .string ⟨#[]⟩, .int .i64 0, .int .i64 0, .string ⟨#[]⟩] 39)) := ((below1 w _).alloc (by simp) _).alloc (by simp <;> omega) _
  generalize (((w.alloc (.cells (lag q (.slice AT q.tasks.length cT) (.slice AS q.smalls.length cS) (.slice AR q.timers.length cR)) 26)).alloc (.cells #[.int .i64 0, .int .i64 0, .slice none 0 0, .slice none 0 0, .slice none 0 0] 26)).alloc (.cells #[.int .i64 0, .int .i64 0, .bool false, .string ⟨#[]⟩, .int .i64 0, .int .i64 0, .string ⟨#[]⟩] 39)) = W at *
  have HW := Lib.hid (HQ.out.below hU)
  go_wp2_with (refine wpList_load_row rfl 26 (.tmp 2) rfl (w.heap.size) rfl _ (lag q (.slice AT q.tasks.length cT) (.slice AS q.smalls.length cS) (.slice AR q.timers.length cR)) (0, 0) _ hb Try.underlying26 rfl info_loop ?_)
  refine (HC.out _ _ _ _ HW.out).mono ?_
  rintro e w1 ⟨rfl, hb1⟩
  have hb_ := Box.below hb hb1 hb.lt
  clear hb
  have hb := hb_
  clear hb_
  have hl_ := Box.below hl hb1 hl.lt
  clear hl
  have hl := hl_
  clear hl_
  have hj_ := Box.below hj hb1 hj.lt
  clear hj
  have hj := hj_
  clear hj_
  have hU1 : Below w.heap.size w w1 := hU.trans (hb1.mono hU.size)
  have HW1 := Lib.hid (HW.out.below hb1)
  have hz1 := hj.lt
  clear hU hb1
  go_wp2_with (first | (refine wpList_store_box rfl 26 (.tmp 4) (.tmp 15) rfl (w.heap.size + 1) (#[.int .i64 0, .int .i64 0, .slice none 0 0, .slice none 0 0, .slice none 0 0]) rfl rfl 26 _ hl info_loop rfl (by simp [Value.oneCell']) ?_; intro w9 hx9 hu9 hz9; have hj9 := Box.grown hj hu9 (by intro h; injection h with h; omega); clear hz9) | (refine wpList_store_box rfl 39 (.tmp 5) (.tmp 16) rfl (w.heap.size + 1 + 1) (jc jzero) rfl rfl 39 _ hj9 info_job rfl (jc_one _) ?_; intro w10 hx10 hu10 hz10; clear hz10))
  refine bodyPost_ret (results_bbtt rfl (Back.mk' (w.heap.size + 1) 26 _ rfl (Box.grown hx9 hu10 (by intro h; injection h with h; omega)) Try.underlying26 rfl info_loop) (Back.mk' (w.heap.size + 1 + 1) 39 _ rfl hx10 Try.underlying39 rfl info_job)) rfl ?_
  have hB10 : Below w.heap.size w w10 := (hU1.trans (Upd.own (B := w.heap.size) hu9 (by omega) hU1.size)).trans (Upd.own (B := w.heap.size) hu10 (by omega) (Nat.le_trans hU1.size hu9.size))
  refine ⟨_, _, _, by rw [HN.out]; rfl, by rw [HN.out]; exact own_zero _ _, hB10⟩

set_option maxRecDepth 100000 in
set_option maxHeartbeats 2000000 in
theorem Next_arg (q : Loopy.Loop) (til : Int) (T S R : Value) (w : World) (hq : LRd w q T S R) (hc : Loopy.check q = 0) (hw : Valu.within til q.now 1000000000 = false) :
    Calls Try.prog 14 #[.agg (lag q T S R), .int .i64 til] w fun e w' => NextFnOut w (nextR q til) e w' := by
  have HC : Hid (∀ w T S R, LRd w q T S R → Calls Try.prog 15 #[.agg (lag q T S R)] w fun e w' => e = .returned (.int .i64 0) ∧ Below w.heap.size w w') := fun w T S R h => by have := check_any q T S R w h; rw [hc] at this; exact this
  have HN : Hid (nextR q til = ((q0, none), 1)) := by show _ = _; unfold nextR; rw [if_pos hc, if_neg (by rw [hw]; decide)]
  have HWI := Lib.hid (fun w => within_is _ _ _ _ hw w)
  clear hc hw
  have HQ := Lib.hid hq
  obtain ⟨⟨AT, cT, rfl, hT1, hT2, hT3⟩, ⟨AS, cS, rfl, hS1, hS2, hS3⟩, ⟨AR, cR, rfl, hR1, hR2, hR3⟩⟩ := hq
  clear hT3 hS3 hR3
  go_enter Try.func14, Try.ntmps14
  go_upto_region 1 with (fail)
  have hb : Box (((w.alloc (.cells (lag q (.slice AT q.tasks.length cT) (.slice AS q.smalls.length cS) (.slice AR q.timers.length cR)) 26)).alloc (.cells #[.int .i64 0, .int .i64 0, .slice none 0 0, .slice none 0 0, .slice none 0 0] 26)).alloc (.cells #[.int .i64 0, .int .i64 0, .bool false, .string ⟨#[]⟩, .int .i64 0, .int .i64 0, .string ⟨#[]⟩] 39)) (w.heap.size) 26 (lag q (.slice AT q.tasks.length cT) (.slice AS q.smalls.length cS) (.slice AR q.timers.length cR)) := (((Box.new w 26 (lag q (.slice AT q.tasks.length cT) (.slice AS q.smalls.length cS) (.slice AR q.timers.length cR))).alloc (.cells #[.int .i64 0, .int .i64 0, .slice none 0 0, .slice none 0 0, .slice none 0 0] 26)).alloc (.cells #[.int .i64 0, .int .i64 0, .bool false, .string ⟨#[]⟩, .int .i64 0, .int .i64 0, .string ⟨#[]⟩] 39))
  have hl : Box (((w.alloc (.cells (lag q (.slice AT q.tasks.length cT) (.slice AS q.smalls.length cS) (.slice AR q.timers.length cR)) 26)).alloc (.cells #[.int .i64 0, .int .i64 0, .slice none 0 0, .slice none 0 0, .slice none 0 0] 26)).alloc (.cells #[.int .i64 0, .int .i64 0, .bool false, .string ⟨#[]⟩, .int .i64 0, .int .i64 0, .string ⟨#[]⟩] 39)) (w.heap.size + 1) 26 (#[.int .i64 0, .int .i64 0, .slice none 0 0, .slice none 0 0, .slice none 0 0]) := (new2 w (.cells (lag q (.slice AT q.tasks.length cT) (.slice AS q.smalls.length cS) (.slice AR q.timers.length cR)) 26) 26 #[.int .i64 0, .int .i64 0, .slice none 0 0, .slice none 0 0, .slice none 0 0]).alloc (.cells #[.int .i64 0, .int .i64 0, .bool false, .string ⟨#[]⟩, .int .i64 0, .int .i64 0, .string ⟨#[]⟩] 39)
  have hj : Box (((w.alloc (.cells (lag q (.slice AT q.tasks.length cT) (.slice AS q.smalls.length cS) (.slice AR q.timers.length cR)) 26)).alloc (.cells #[.int .i64 0, .int .i64 0, .slice none 0 0, .slice none 0 0, .slice none 0 0] 26)).alloc (.cells #[.int .i64 0, .int .i64 0, .bool false, .string ⟨#[]⟩, .int .i64 0, .int .i64 0, .string ⟨#[]⟩] 39)) (w.heap.size + 1 + 1) 39 (#[.int .i64 0, .int .i64 0, .bool false, .string ⟨#[]⟩, .int .i64 0, .int .i64 0, .string ⟨#[]⟩]) := new3 w (.cells (lag q (.slice AT q.tasks.length cT) (.slice AS q.smalls.length cS) (.slice AR q.timers.length cR)) 26) (.cells #[.int .i64 0, .int .i64 0, .slice none 0 0, .slice none 0 0, .slice none 0 0] 26) 39 #[.int .i64 0, .int .i64 0, .bool false, .string ⟨#[]⟩, .int .i64 0, .int .i64 0, .string ⟨#[]⟩]
  have hU : Below w.heap.size w (((w.alloc (.cells (lag q (.slice AT q.tasks.length cT) (.slice AS q.smalls.length cS) (.slice AR q.timers.length cR)) 26)).alloc (.cells #[.int .i64 0, .int .i64 0, .slice none 0 0, .slice none 0 0, .slice none 0 0] 26)).alloc (.cells #[.int .i64 0, .int .i64 0, .bool false, .string ⟨#[]⟩, .int .i64 0, .int .i64 0, .string ⟨#[]⟩] 39)) := ((below1 w _).alloc (by simp) _).alloc (by simp <;> omega) _
  generalize (((w.alloc (.cells (lag q (.slice AT q.tasks.length cT) (.slice AS q.smalls.length cS) (.slice AR q.timers.length cR)) 26)).alloc (.cells #[.int .i64 0, .int .i64 0, .slice none 0 0, .slice none 0 0, .slice none 0 0] 26)).alloc (.cells #[.int .i64 0, .int .i64 0, .bool false, .string ⟨#[]⟩, .int .i64 0, .int .i64 0, .string ⟨#[]⟩] 39)) = W at *
  have HW := Lib.hid (HQ.out.below hU)
  go_wp2_with (refine wpList_load_row rfl 26 (.tmp 2) rfl (w.heap.size) rfl _ (lag q (.slice AT q.tasks.length cT) (.slice AS q.smalls.length cS) (.slice AR q.timers.length cR)) (0, 0) _ hb Try.underlying26 rfl info_loop ?_)
  refine (HC.out _ _ _ _ HW.out).mono ?_
  rintro e w1 ⟨rfl, hb1⟩
  have hb_ := Box.below hb hb1 hb.lt
  clear hb
  have hb := hb_
  clear hb_
  have hl_ := Box.below hl hb1 hl.lt
  clear hl
  have hl := hl_
  clear hl_
  have hj_ := Box.below hj hb1 hj.lt
  clear hj
  have hj := hj_
  clear hj_
  have hU1 : Below w.heap.size w w1 := hU.trans (hb1.mono hU.size)
  have HW1 := Lib.hid (HW.out.below hb1)
  have hz1 := hj.lt
  clear hU hb1
  have q0_ := hb.cell 0
  simp at q0_
  go_wp2_with (fail)
  refine (HWI.out _).mono ?_
  rintro e w2 ⟨rfl, rfl⟩
  clear q0_
  go_wp2_with (first | (refine wpList_store_box rfl 26 (.tmp 4) (.tmp 23) rfl (w.heap.size + 1) (#[.int .i64 0, .int .i64 0, .slice none 0 0, .slice none 0 0, .slice none 0 0]) rfl rfl 26 _ hl info_loop rfl (by simp [Value.oneCell']) ?_; intro w9 hx9 hu9 hz9; have hj9 := Box.grown hj hu9 (by intro h; injection h with h; omega); clear hz9) | (refine wpList_store_box rfl 39 (.tmp 5) (.tmp 24) rfl (w.heap.size + 1 + 1) (jc jzero) rfl rfl 39 _ hj9 info_job rfl (jc_one _) ?_; intro w10 hx10 hu10 hz10; clear hz10))
  refine bodyPost_ret (results_bbtt rfl (Back.mk' (w.heap.size + 1) 26 _ rfl (Box.grown hx9 hu10 (by intro h; injection h with h; omega)) Try.underlying26 rfl info_loop) (Back.mk' (w.heap.size + 1 + 1) 39 _ rfl hx10 Try.underlying39 rfl info_job)) rfl ?_
  have hB10 : Below w.heap.size w w10 := (hU1.trans (Upd.own (B := w.heap.size) hu9 (by omega) hU1.size)).trans (Upd.own (B := w.heap.size) hu10 (by omega) (Nat.le_trans hU1.size hu9.size))
  refine ⟨_, _, _, by rw [HN.out]; rfl, by rw [HN.out]; exact own_zero _ _, hB10⟩

set_option maxRecDepth 100000 in
set_option maxHeartbeats 4000000 in
theorem Next_yes (q : Loopy.Loop) (til : Int) (T S R : Value) (w : World) (hq : LRd w q T S R) (hc : Loopy.check q = 0) (hw : Valu.within til q.now 1000000000 = true) :
    Calls Try.prog 14 #[.agg (lag q T S R), .int .i64 til] w fun e w' => NextFnOut w (nextR q til) e w' := by
  have HC : Hid (∀ w T S R, LRd w q T S R → Calls Try.prog 15 #[.agg (lag q T S R)] w fun e w' => e = .returned (.int .i64 0) ∧ Below w.heap.size w w') := fun w T S R h => by have := check_any q T S R w h; rw [hc] at this; exact this
  have HN : Hid (nextR q til = (Loopy.next q til, 0)) := by show _ = _; unfold nextR; rw [if_pos hc, if_pos hw]
  have HWI := Lib.hid (fun w => within_is _ _ _ _ hw w)
  have HRT := Lib.hid ((Loopy.check_iff q).1 hc)
  clear hc hw
  have HQ := Lib.hid hq
  obtain ⟨⟨AT, cT, rfl, hT1, hT2, hT3⟩, ⟨AS, cS, rfl, hS1, hS2, hS3⟩, ⟨AR, cR, rfl, hR1, hR2, hR3⟩⟩ := hq
  clear hT3 hS3 hR3
  go_enter Try.func14, Try.ntmps14
  go_upto_region 1 with (fail)
  have hb : Box (((w.alloc (.cells (lag q (.slice AT q.tasks.length cT) (.slice AS q.smalls.length cS) (.slice AR q.timers.length cR)) 26)).alloc (.cells #[.int .i64 0, .int .i64 0, .slice none 0 0, .slice none 0 0, .slice none 0 0] 26)).alloc (.cells #[.int .i64 0, .int .i64 0, .bool false, .string ⟨#[]⟩, .int .i64 0, .int .i64 0, .string ⟨#[]⟩] 39)) (w.heap.size) 26 (lag q (.slice AT q.tasks.length cT) (.slice AS q.smalls.length cS) (.slice AR q.timers.length cR)) := (((Box.new w 26 (lag q (.slice AT q.tasks.length cT) (.slice AS q.smalls.length cS) (.slice AR q.timers.length cR))).alloc (.cells #[.int .i64 0, .int .i64 0, .slice none 0 0, .slice none 0 0, .slice none 0 0] 26)).alloc (.cells #[.int .i64 0, .int .i64 0, .bool false, .string ⟨#[]⟩, .int .i64 0, .int .i64 0, .string ⟨#[]⟩] 39))
  have hl : Box (((w.alloc (.cells (lag q (.slice AT q.tasks.length cT) (.slice AS q.smalls.length cS) (.slice AR q.timers.length cR)) 26)).alloc (.cells #[.int .i64 0, .int .i64 0, .slice none 0 0, .slice none 0 0, .slice none 0 0] 26)).alloc (.cells #[.int .i64 0, .int .i64 0, .bool false, .string ⟨#[]⟩, .int .i64 0, .int .i64 0, .string ⟨#[]⟩] 39)) (w.heap.size + 1) 26 (#[.int .i64 0, .int .i64 0, .slice none 0 0, .slice none 0 0, .slice none 0 0]) := (new2 w (.cells (lag q (.slice AT q.tasks.length cT) (.slice AS q.smalls.length cS) (.slice AR q.timers.length cR)) 26) 26 #[.int .i64 0, .int .i64 0, .slice none 0 0, .slice none 0 0, .slice none 0 0]).alloc (.cells #[.int .i64 0, .int .i64 0, .bool false, .string ⟨#[]⟩, .int .i64 0, .int .i64 0, .string ⟨#[]⟩] 39)
  have hj : Box (((w.alloc (.cells (lag q (.slice AT q.tasks.length cT) (.slice AS q.smalls.length cS) (.slice AR q.timers.length cR)) 26)).alloc (.cells #[.int .i64 0, .int .i64 0, .slice none 0 0, .slice none 0 0, .slice none 0 0] 26)).alloc (.cells #[.int .i64 0, .int .i64 0, .bool false, .string ⟨#[]⟩, .int .i64 0, .int .i64 0, .string ⟨#[]⟩] 39)) (w.heap.size + 1 + 1) 39 (#[.int .i64 0, .int .i64 0, .bool false, .string ⟨#[]⟩, .int .i64 0, .int .i64 0, .string ⟨#[]⟩]) := new3 w (.cells (lag q (.slice AT q.tasks.length cT) (.slice AS q.smalls.length cS) (.slice AR q.timers.length cR)) 26) (.cells #[.int .i64 0, .int .i64 0, .slice none 0 0, .slice none 0 0, .slice none 0 0] 26) 39 #[.int .i64 0, .int .i64 0, .bool false, .string ⟨#[]⟩, .int .i64 0, .int .i64 0, .string ⟨#[]⟩]
  have hU : Below w.heap.size w (((w.alloc (.cells (lag q (.slice AT q.tasks.length cT) (.slice AS q.smalls.length cS) (.slice AR q.timers.length cR)) 26)).alloc (.cells #[.int .i64 0, .int .i64 0, .slice none 0 0, .slice none 0 0, .slice none 0 0] 26)).alloc (.cells #[.int .i64 0, .int .i64 0, .bool false, .string ⟨#[]⟩, .int .i64 0, .int .i64 0, .string ⟨#[]⟩] 39)) := ((below1 w _).alloc (by simp) _).alloc (by simp <;> omega) _
  generalize (((w.alloc (.cells (lag q (.slice AT q.tasks.length cT) (.slice AS q.smalls.length cS) (.slice AR q.timers.length cR)) 26)).alloc (.cells #[.int .i64 0, .int .i64 0, .slice none 0 0, .slice none 0 0, .slice none 0 0] 26)).alloc (.cells #[.int .i64 0, .int .i64 0, .bool false, .string ⟨#[]⟩, .int .i64 0, .int .i64 0, .string ⟨#[]⟩] 39)) = W at *
  have HW := Lib.hid (HQ.out.below hU)
  go_wp2_with (refine wpList_load_row rfl 26 (.tmp 2) rfl (w.heap.size) rfl _ (lag q (.slice AT q.tasks.length cT) (.slice AS q.smalls.length cS) (.slice AR q.timers.length cR)) (0, 0) _ hb Try.underlying26 rfl info_loop ?_)
  refine (HC.out _ _ _ _ HW.out).mono ?_
  rintro e w1 ⟨rfl, hb1⟩
  have hb_ := Box.below hb hb1 hb.lt
  clear hb
  have hb := hb_
  clear hb_
  have hl_ := Box.below hl hb1 hl.lt
  clear hl
  have hl := hl_
  clear hl_
  have hj_ := Box.below hj hb1 hj.lt
  clear hj
  have hj := hj_
  clear hj_
  have hU1 : Below w.heap.size w w1 := hU.trans (hb1.mono hU.size)
  have HW1 := Lib.hid (HW.out.below hb1)
  have hz1 := hj.lt
  clear hU hb1
  have q0_ := hb.cell 0
  simp at q0_
  go_wp2_with (fail)
  refine (HWI.out _).mono ?_
  rintro e w2 ⟨rfl, rfl⟩
  clear q0_
  go_wp2_with (refine wpList_load_row rfl 26 (.tmp 2) rfl (w.heap.size) rfl _ (lag q (.slice AT q.tasks.length cT) (.slice AS q.smalls.length cS) (.slice AR q.timers.length cR)) (0, 0) _ hb Try.underlying26 rfl info_loop ?_)
  refine (copied_any q _ _ _ _ HW1.out (by have := HRT.out.l1; omega) (by have := HRT.out.l2; omega) (by have := HRT.out.l3; omega)).mono ?_
  rintro e w3 ⟨T3, S3, R3, rfl, hO3, hB3⟩
  obtain ⟨B, hBe⟩ : ∃ B, w1.heap.size = B := ⟨_, rfl⟩
  rw [hBe] at hO3 hB3
  have HBe := Lib.hid hBe
  have hBz : w.heap.size + 1 + 1 < B := by rw [← hBe]; exact hz1
  have hB3z : B ≤ w3.heap.size := by rw [← hBe]; exact Nat.le_trans (by rw [hBe]; exact Nat.le_refl _) hB3.size
  clear hBe
  go_wp2_with (fail)
  refine (next_any q til B _ _ _ w3 hO3 hB3z HRT.out).mono ?_
  rintro e w4 ⟨T4, S4, R4, rfl, hO4, hS4⟩
  have hB4 : Below B w1 w4 := hB3.trans (hS4.below hO3 hB3z)
  obtain ⟨⟨q4, oj⟩, hq4⟩ : ∃ r, Loopy.next q til = r := ⟨_, rfl⟩
  rw [hq4] at hO4
  rw [hq4]
  have HQ4 := Lib.hid hq4
  have HO4 := Lib.hid hO4
  have hone := hO4.one
  have hz4 : w3.heap.size ≤ w4.heap.size := hS4.size
  clear hq4 hO3 hS4 hB3 hO4
  have hb_ := Box.below hb hB4 (by omega)
  clear hb
  have hb := hb_
  clear hb_
  have hl_ := Box.below hl hB4 (by omega)
  clear hl
  have hl := hl_
  clear hl_
  have hj_ := Box.below hj hB4 (by omega)
  clear hj
  have hj := hj_
  clear hj_
  simp only
  go_upto_region 7 with (first | (refine wpList_store_box rfl 26 (.tmp 2) (.tmp 30) rfl (w.heap.size) (lag q4 T4 S4 R4) rfl rfl 26 _ (Box.alloc hb (.cells #[.int .i64 0, .int .i64 0, .bool false, .string ⟨#[]⟩, .int .i64 0, .int .i64 0, .string ⟨#[]⟩] 39)) info_loop rfl hone ?_; intro w5 hx5 hu5 hz5; have hn5 := Box.grown (Box.new w4 39 #[.int .i64 0, .int .i64 0, .bool false, .string ⟨#[]⟩, .int .i64 0, .int .i64 0, .string ⟨#[]⟩]) hu5 (by intro h; injection h with h; omega); clear hz5) | (refine wpList_store_box rfl 39 (.tmp 9) (.tmp 31) rfl (w4.heap.size) (jc (oj.getD jzero)) rfl rfl 39 _ hn5 info_job rfl (jc_one _) ?_; intro w6 hx6 hu6 hz6; clear hz6))
  have hl_ := Box.alloc hl (.cells #[.int .i64 0, .int .i64 0, .bool false, .string ⟨#[]⟩, .int .i64 0, .int .i64 0, .string ⟨#[]⟩] 39)
  clear hl
  have hl := hl_
  clear hl_
  have hj_ := Box.alloc hj (.cells #[.int .i64 0, .int .i64 0, .bool false, .string ⟨#[]⟩, .int .i64 0, .int .i64 0, .string ⟨#[]⟩] 39)
  clear hj
  have hj := hj_
  clear hj_
  have hl_ := Box.grown hl hu5 (by intro h; injection h with h; omega)
  clear hl
  have hl := hl_
  clear hl_
  have hj_ := Box.grown hj hu5 (by intro h; injection h with h; omega)
  clear hj
  have hj := hj_
  clear hj_
  have hl_ := Box.grown hl hu6 (by intro h; injection h with h; omega)
  clear hl
  have hl := hl_
  clear hl_
  have hj_ := Box.grown hj hu6 (by intro h; injection h with h; omega)
  clear hj
  have hj := hj_
  clear hj_
  have hx5_ := Box.grown hx5 hu6 (by intro h; injection h with h; omega)
  clear hx5
  have hx5 := hx5_
  clear hx5_
  have hO6 : Own w6 B q4 T4 S4 R4 := ((HO4.out.below (below1 w4 _)).far hu5 (by omega)).past hu6 (fun hm => by have := HO4.out.mine_lt hm; omega)
  have hU6 : Below w.heap.size w w6 := ((hU1.trans (hB4.mono (by omega))).alloc (by omega) _).trans ((Upd.own (B := w.heap.size) hu5 (by omega) (by simp; omega)).trans (Upd.own (B := w.heap.size) hu6 (by omega) (by have := hu5.size; simp at this; omega)))
  have hz6 := hx6.lt
  have hzj := hj.lt
  refine wp_region_held_drew (S := fun w' => Box w' (w.heap.size) 26 (lag q4 T4 S4 R4) ∧ Box w' (w4.heap.size) 39 (jc (oj.getD jzero))) (by kernel_rfl) ⟨hx5, hx6⟩ (fun hHeld => ?_)
  refine wpAnyH_take (i := 0) (v := _) rfl (by kernel_rfl) (by kernel_rfl) (by kernel_rfl) (fun _ _ _ h => h) (yields_load_box (by kernel_rfl) 26 (.tmp 2) rfl (w.heap.size) 26 (lag q4 T4 S4 R4) _ rfl (fun _ h => h.1) Try.underlying26 rfl info_loop) (by assumption) ?_
  (try simp only [Act.put, List.getElem_toArray, List.getElem_cons_succ, List.getElem_cons_zero, List.setIfInBounds_toArray, List.set_cons_zero, List.set_cons_succ])
  refine wpAnyH_take (i := 1) (v := _) rfl (by kernel_rfl) (by kernel_rfl) (by kernel_rfl) (fun _ _ _ h => h) (yields_load_box (by kernel_rfl) 39 (.tmp 9) rfl (w4.heap.size) 39 (jc (oj.getD jzero)) _ rfl (fun _ h => h.2) Try.underlying39 rfl info_job) (by assumption) ?_
  (try simp only [Act.put, List.getElem_toArray, List.getElem_cons_succ, List.getElem_cons_zero, List.setIfInBounds_toArray, List.set_cons_zero, List.set_cons_succ])
  refine wpAnyH_take (i := 2) (v := ?tv1) rfl (by kernel_rfl) (by kernel_rfl) (by kernel_rfl) (fun _ _ _ h => h) (Or.inl ⟨by kernel_rfl, ?ty1⟩) (by assumption) ?tr1
  case ty1 =>
    intro w hSw
    (try dsimp only at hSw)
    go_simp
    try (with_reducible rfl)
  (try simp only [Act.put, List.getElem_toArray, List.getElem_cons_succ, List.getElem_cons_zero, List.setIfInBounds_toArray, List.set_cons_zero, List.set_cons_succ])
  refine wpAnyH_ready (rs := [3]) (by kernel_rfl) (by simp) ?_
  refine AllReadyH.cons rfl (fun K hK => ?_) AllReadyH.nil
  refine step_store_box rfl 26 (.tmp 4) (.tmp 33) rfl (w.heap.size + 1) (lag q4 T4 S4 R4) rfl rfl 26 _ (Box.drew hl) info_loop rfl hone ?_; intro w9 hx9 hu9 hz9
  refine hK.out _ _ ⟨Box.grown (Box.drew hx5) hu9 (by intro h; injection h with h; omega), Box.grown (Box.drew hx6) hu9 (by intro h; injection h with h; omega)⟩ (fun hHeld => ?_)
  clear hK K
  (try simp only [Act.put, List.getElem_toArray, List.getElem_cons_succ, List.getElem_cons_zero, List.setIfInBounds_toArray, List.set_cons_zero, List.set_cons_succ])
  refine wpAnyH_ready (rs := [4]) (by kernel_rfl) (by simp) ?_
  refine AllReadyH.cons rfl (fun K hK => ?_) AllReadyH.nil
  refine step_store_box rfl 39 (.tmp 5) (.tmp 34) rfl (w.heap.size + 1 + 1) (jc (oj.getD jzero)) rfl rfl 39 _ (Box.grown (Box.drew hj) hu9 (by intro h; injection h with h; omega)) info_job rfl (jc_one _) ?_; intro w10 hx10 hu10 hz10
  refine hK.out _ _ ⟨Box.grown (Box.grown (Box.drew hx5) hu9 (by intro h; injection h with h; omega)) hu10 (by intro h; injection h with h; omega), Box.grown (Box.grown (Box.drew hx6) hu9 (by intro h; injection h with h; omega)) hu10 (by intro h; injection h with h; omega)⟩ (fun hHeld => ?_)
  clear hK K
  (try simp only [Act.put, List.getElem_toArray, List.getElem_cons_succ, List.getElem_cons_zero, List.setIfInBounds_toArray, List.set_cons_zero, List.set_cons_succ])
  refine wpAnyH_take (i := 5) (v := ?tv2) rfl (by kernel_rfl) (by kernel_rfl) (by kernel_rfl) (fun _ _ _ h => h) (Or.inl ⟨by kernel_rfl, ?ty2⟩) (by assumption) ?tr2
  case ty2 =>
    intro w hSw
    (try dsimp only at hSw)
    go_simp
    try (with_reducible rfl)
  (try simp only [Act.put, List.getElem_toArray, List.getElem_cons_succ, List.getElem_cons_zero, List.setIfInBounds_toArray, List.set_cons_zero, List.set_cons_succ])
  refine wpAnyH_take (i := 6) (v := ?tv3) rfl (by kernel_rfl) (by kernel_rfl) (by kernel_rfl) (fun _ _ _ h => h) (Or.inl ⟨by kernel_rfl, ?ty3⟩) (by assumption) ?tr3
  case ty3 =>
    intro w hSw
    (try dsimp only at hSw)
    go_simp
    try (with_reducible rfl)
  (try simp only [Act.put, List.getElem_toArray, List.getElem_cons_succ, List.getElem_cons_zero, List.setIfInBounds_toArray, List.set_cons_zero, List.set_cons_succ])
  refine wpAnyH_done (by kernel_rfl) ?_ _
  go_wp2
  refine bodyPost_ret (results_bbtt rfl (Back.mk' (w.heap.size + 1) 26 _ rfl (Box.grown hx9 hu10 (by intro h; injection h with h; omega)) Try.underlying26 rfl info_loop) (Back.mk' (w.heap.size + 1 + 1) 39 _ rfl hx10 Try.underlying39 rfl info_job)) rfl ?_
  have hO6d : Own w6.drew B q4 T4 S4 R4 := ⟨hO6.t, hO6.s, hO6.r, hO6.ts, hO6.tr, hO6.sr⟩
  have hO10 := ((hO6d.far hu9 (by omega)).far hu10 (by omega)).base (B' := w.heap.size) (by omega)
  have hB10 : Below w.heap.size w w10 := (hU6.drew.trans (Upd.own (B := w.heap.size) hu9 (by omega) hU6.size)).trans (Upd.own (B := w.heap.size) hu10 (by omega) (Nat.le_trans hU6.size hu9.size))
  refine ⟨_, _, _, by rw [HN.out, HQ4.out]; rfl, by rw [HN.out, HQ4.out]; exact hO10, hB10⟩

theorem Next_any (q : Loopy.Loop) (til : Int) (T S R : Value) (w : World) (hq : LRd w q T S R) :
    Calls Try.prog 14 #[.agg (lag q T S R), .int .i64 til] w fun e w' => NextFnOut w (nextR q til) e w' := by
  rcases Loopy.check_small q with hc | hc | hc
  · cases hw : Valu.within til q.now 1000000000
    · exact Next_arg q til T S R w hq hc hw
    · exact Next_yes q til T S R w hq hc hw
  · exact Next_no2 q til T S R w hq hc
  · exact Next_no3 q til T S R w hq hc
end Go.Proofs.Ytpjbblbehbepbaa
