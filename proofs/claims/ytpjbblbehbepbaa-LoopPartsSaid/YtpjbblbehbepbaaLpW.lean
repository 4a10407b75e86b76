/-
  Ask. Conditions: the loop's rows read as lists.
-/
import Derived.Test.YtpjbblbehbepbaaLpV
namespace Go.Proofs.Ytpjbblbehbepbaa
set_option linter.unusedSimpArgs false
set_option linter.unusedVariables false
open Go.RowKit

def AskFnOut (w : World) (r : Loopy.Loop × Int × Nat) (e : Ending) (w' : World) : Prop :=
  ∃ T S R, e = .returned (.tuple #[.agg (lag r.1 T S R), .int .i64 r.2.1, .int .i64 (r.2.2 : Int)]) ∧ Own w' w.heap.size r.1 T S R ∧ Below w.heap.size w w'
theorem new3a (w : World) (o1 o2 : Obj) (t : TypeId) (cs : Array Value) : Box (((w.alloc o1).alloc o2).alloc (.cells cs t)) (w.heap.size + 1 + 1) t cs := by
  have := Box.new ((w.alloc o1).alloc o2) t cs
  simpa using this
set_option maxRecDepth 100000 in
set_option maxHeartbeats 4000000 in
theorem Ask_no2 (q : Loopy.Loop) (a : Loopy.Ask) (T S R : Value) (w : World) (hq : LRd w q T S R) (hc : Loopy.check q = 2) :
    Calls Try.prog 13 #[.agg (lag q T S R), aag a] w fun e w' => AskFnOut w (Loopy.ask q a) e w' := by
  have HC : Hid (∀ w T S R, LRd w q T S R → Calls Try.prog 15 #[.agg (lag q T S R)] w fun e w' => e = .returned (.int .i64 2) ∧ Below w.heap.size w w') := fun w T S R h => by have := check_any q T S R w h; rw [hc] at this; exact this
  have HN : Hid (Loopy.ask q a = (q0, 0, 2)) := by show _ = _; unfold Loopy.ask; rw [if_neg (by rw [hc]; decide), hc]; rfl
  clear hc
  have HQ := Lib.hid hq
  obtain ⟨⟨AT, cT, rfl, hT1, hT2, hT3⟩, ⟨AS, cS, rfl, hS1, hS2, hS3⟩, ⟨AR, cR, rfl, hR1, hR2, hR3⟩⟩ := hq
  clear hT3 hS3 hR3
  go_enter Try.func13, Try.ntmps13
  go_upto_region 1 with (fail)
  have hb : Box (((w.alloc (.cells (lag q (.slice AT q.tasks.length cT) (.slice AS q.smalls.length cS) (.slice AR q.timers.length cR)) 26)).alloc (.cells (ac a) 35)).alloc (.cells #[.int .i64 0, .int .i64 0, .slice none 0 0, .slice none 0 0, .slice none 0 0] 26)) (w.heap.size) 26 (lag q (.slice AT q.tasks.length cT) (.slice AS q.smalls.length cS) (.slice AR q.timers.length cR)) := (((Box.new w 26 (lag q (.slice AT q.tasks.length cT) (.slice AS q.smalls.length cS) (.slice AR q.timers.length cR))).alloc (.cells (ac a) 35)).alloc (.cells #[.int .i64 0, .int .i64 0, .slice none 0 0, .slice none 0 0, .slice none 0 0] 26))
  have ha : Box (((w.alloc (.cells (lag q (.slice AT q.tasks.length cT) (.slice AS q.smalls.length cS) (.slice AR q.timers.length cR)) 26)).alloc (.cells (ac a) 35)).alloc (.cells #[.int .i64 0, .int .i64 0, .slice none 0 0, .slice none 0 0, .slice none 0 0] 26)) (w.heap.size + 1) 35 (ac a) := (new2 w (.cells (lag q (.slice AT q.tasks.length cT) (.slice AS q.smalls.length cS) (.slice AR q.timers.length cR)) 26) 35 (ac a)).alloc (.cells #[.int .i64 0, .int .i64 0, .slice none 0 0, .slice none 0 0, .slice none 0 0] 26)
  have hl : Box (((w.alloc (.cells (lag q (.slice AT q.tasks.length cT) (.slice AS q.smalls.length cS) (.slice AR q.timers.length cR)) 26)).alloc (.cells (ac a) 35)).alloc (.cells #[.int .i64 0, .int .i64 0, .slice none 0 0, .slice none 0 0, .slice none 0 0] 26)) (w.heap.size + 1 + 1) 26 (#[.int .i64 0, .int .i64 0, .slice none 0 0, .slice none 0 0, .slice none 0 0]) := new3a w (.cells (lag q (.slice AT q.tasks.length cT) (.slice AS q.smalls.length cS) (.slice AR q.timers.length cR)) 26) (.cells (ac a) 35) 26 #[.int .i64 0, .int .i64 0, .slice none 0 0, .slice none 0 0, .slice none 0 0]
  have hU : Below w.heap.size w (((w.alloc (.cells (lag q (.slice AT q.tasks.length cT) (.slice AS q.smalls.length cS) (.slice AR q.timers.length cR)) 26)).alloc (.cells (ac a) 35)).alloc (.cells #[.int .i64 0, .int .i64 0, .slice none 0 0, .slice none 0 0, .slice none 0 0] 26)) := ((below1 w _).alloc (by simp) _).alloc (by simp <;> omega) _
  generalize (((w.alloc (.cells (lag q (.slice AT q.tasks.length cT) (.slice AS q.smalls.length cS) (.slice AR q.timers.length cR)) 26)).alloc (.cells (ac a) 35)).alloc (.cells #[.int .i64 0, .int .i64 0, .slice none 0 0, .slice none 0 0, .slice none 0 0] 26)) = W at *
  have HW := Lib.hid (HQ.out.below hU)
  go_wp2_with (refine wpList_load_row rfl 26 (.tmp 2) rfl (w.heap.size) rfl _ (lag q (.slice AT q.tasks.length cT) (.slice AS q.smalls.length cS) (.slice AR q.timers.length cR)) (0, 0) _ hb Try.underlying26 rfl info_loop ?_)
  refine (HC.out _ _ _ _ HW.out).mono ?_
  rintro e w1 ⟨rfl, hb1⟩
  have hb_ := Box.below hb hb1 hb.lt
  clear hb
  have hb := hb_
  clear hb_
  have ha_ := Box.below ha hb1 ha.lt
  clear ha
  have ha := ha_
  clear ha_
  have hl_ := Box.below hl hb1 hl.lt
  clear hl
  have hl := hl_
  clear hl_
  have hU1 : Below w.heap.size w w1 := hU.trans (hb1.mono hU.size)
  have HW1 := Lib.hid (HW.out.below hb1)
  have hz1 := hl.lt
  clear hU hb1
  go_wp2_with (refine wpList_store_box rfl 26 (.tmp 4) (.tmp 14) rfl (w.heap.size + 1 + 1) (#[.int .i64 0, .int .i64 0, .slice none 0 0, .slice none 0 0, .slice none 0 0]) rfl rfl 26 _ hl info_loop rfl (by simp [Value.oneCell']) ?_; intro w9 hx9 hu9 hz9; clear hz9)
  refine bodyPost_ret (results_btt rfl (Back.mk' (w.heap.size + 1 + 1) 26 _ rfl hx9 Try.underlying26 rfl info_loop)) rfl ?_
  have hB10 : Below w.heap.size w w9 := hU1.trans (Upd.own (B := w.heap.size) hu9 (by omega) hU1.size)
  refine ⟨_, _, _, by rw [HN.out]; rfl, by rw [HN.out]; exact own_zero _ _, hB10⟩

set_option maxRecDepth 100000 in
set_option maxHeartbeats 4000000 in
theorem Ask_no3 (q : Loopy.Loop) (a : Loopy.Ask) (T S R : Value) (w : World) (hq : LRd w q T S R) (hc : Loopy.check q = 3) :
    Calls Try.prog 13 #[.agg (lag q T S R), aag a] w fun e w' => AskFnOut w (Loopy.ask q a) e w' := by
  have HC : Hid (∀ w T S R, LRd w q T S R → Calls Try.prog 15 #[.agg (lag q T S R)] w fun e w' => e = .returned (.int .i64 3) ∧ Below w.heap.size w w') := fun w T S R h => by have := check_any q T S R w h; rw [hc] at this; exact this
  have HN : Hid (Loopy.ask q a = (q0, 0, 3)) := by show _ = _; unfold Loopy.ask; rw [if_neg (by rw [hc]; decide), hc]; rfl
  clear hc
  have HQ := Lib.hid hq
  obtain ⟨⟨AT, cT, rfl, hT1, hT2, hT3⟩, ⟨AS, cS, rfl, hS1, hS2, hS3⟩, ⟨AR, cR, rfl, hR1, hR2, hR3⟩⟩ := hq
  clear hT3 hS3 hR3
  go_enter Try.func13, Try.ntmps13
  go_upto_region 1 with (fail)
  have hb : Box (((w.alloc (.cells (lag q (.slice AT q.tasks.length cT) (.slice AS q.smalls.length cS) (.slice AR q.timers.length cR)) 26)).alloc (.cells (ac a) 35)).alloc (.cells #[.int .i64 0, .int .i64 0, .slice none 0 0, .slice none 0 0, .slice none 0 0] 26)) (w.heap.size) 26 (lag q (.slice AT q.tasks.length cT) (.slice AS q.smalls.length cS) (.slice AR q.timers.length cR)) := (((Box.new w 26 (lag q (.slice AT q.tasks.length cT) (.slice AS q.smalls.length cS) (.slice AR q.timers.length cR))).alloc (.cells (ac a) 35)).alloc (.cells #[.int .i64 0, .int .i64 0, .slice none 0 0, .slice none 0 0, .slice none 0 0] 26))
  have ha : Box (((w.alloc (.cells (lag q (.slice AT q.tasks.length cT) (.slice AS q.smalls.length cS) (.slice AR q.timers.length cR)) 26)).alloc (.cells (ac a) 35)).alloc (.cells #[.int .i64 0, .int .i64 0, .slice none 0 0, .slice none 0 0, .slice none 0 0] 26)) (w.heap.size + 1) 35 (ac a) := (new2 w (.cells (lag q (.slice AT q.tasks.length cT) (.slice AS q.smalls.length cS) (.slice AR q.timers.length cR)) 26) 35 (ac a)).alloc (.cells #[.int .i64 0, .int .i64 0, .slice none 0 0, .slice none 0 0, .slice none 0 0] 26)
  have hl : Box (((w.alloc (.cells (lag q (.slice AT q.tasks.length cT) (.slice AS q.smalls.length cS) (.slice AR q.timers.length cR)) 26)).alloc (.cells (ac a) 35)).alloc (.cells #[.int .i64 0, .int .i64 0, .slice none 0 0, .slice none 0 0, .slice none 0 0] 26)) (w.heap.size + 1 + 1) 26 (#[.int .i64 0, .int .i64 0, .slice none 0 0, .slice none 0 0, .slice none 0 0]) := new3a w (.cells (lag q (.slice AT q.tasks.length cT) (.slice AS q.smalls.length cS) (.slice AR q.timers.length cR)) 26) (.cells (ac a) 35) 26 #[.int .i64 0, .int .i64 0, .slice none 0 0, .slice none 0 0, .slice none 0 0]
  have hU : Below w.heap.size w (((w.alloc (.cells (lag q (.slice AT q.tasks.length cT) (.slice AS q.smalls.length cS) (.slice AR q.timers.length cR)) 26)).alloc (.cells (ac a) 35)).alloc (.cells #[.int .i64 0, .int .i64 0, .slice none 0 0, .slice none 0 0, .slice none 0 0] 26)) := ((below1 w _).alloc (by simp) _).alloc (by simp <;> omega) _
  generalize (((w.alloc (.cells (lag q (.slice AT q.tasks.length cT) (.slice AS q.smalls.length cS) (.slice AR q.timers.length cR)) 26)).alloc (.cells (ac a) 35)).alloc (.cells #[.int .i64 0, .int .i64 0, .slice none 0 0, .slice none 0 0, .slice none 0 0] 26)) = W at *
  have HW := Lib.hid (HQ.out.below hU)
  go_wp2_with (refine wpList_load_row rfl 26 (.tmp 2) rfl (w.heap.size) rfl _ (lag q (.slice AT q.tasks.length cT) (.slice AS q.smalls.length cS) (.slice AR q.timers.length cR)) (0, 0) _ hb Try.underlying26 rfl info_loop ?_)
  refine (HC.out _ _ _ _ HW.out).mono ?_
  rintro e w1 ⟨rfl, hb1⟩
  have hb_ := Box.below hb hb1 hb.lt
  clear hb
  have hb := hb_
  clear hb_
  have ha_ := Box.below ha hb1 ha.lt
  clear ha
  have ha := ha_
  clear ha_
  have hl_ := Box.below hl hb1 hl.lt
  clear hl
  have hl := hl_
  clear hl_
  have hU1 : Below w.heap.size w w1 := hU.trans (hb1.mono hU.size)
  have HW1 := Lib.hid (HW.out.below hb1)
  have hz1 := hl.lt
  clear hU hb1
  go_wp2_with (refine wpList_store_box rfl 26 (.tmp 4) (.tmp 14) rfl (w.heap.size + 1 + 1) (#[.int .i64 0, .int .i64 0, .slice none 0 0, .slice none 0 0, .slice none 0 0]) rfl rfl 26 _ hl info_loop rfl (by simp [Value.oneCell']) ?_; intro w9 hx9 hu9 hz9; clear hz9)
  refine bodyPost_ret (results_btt rfl (Back.mk' (w.heap.size + 1 + 1) 26 _ rfl hx9 Try.underlying26 rfl info_loop)) rfl ?_
  have hB10 : Below w.heap.size w w9 := hU1.trans (Upd.own (B := w.heap.size) hu9 (by omega) hU1.size)
  refine ⟨_, _, _, by rw [HN.out]; rfl, by rw [HN.out]; exact own_zero _ _, hB10⟩

set_option maxRecDepth 100000 in
set_option maxHeartbeats 4000000 in
theorem Ask_what (q : Loopy.Loop) (a : Loopy.Ask) (T S R : Value) (w : World) (hq : LRd w q T S R) (hc : Loopy.check q = 0) (hw : Valu.within a.what 1 5 = false) :
    Calls Try.prog 13 #[.agg (lag q T S R), aag a] w fun e w' => AskFnOut w (Loopy.ask q a) e w' := by
  have HC : Hid (∀ w T S R, LRd w q T S R → Calls Try.prog 15 #[.agg (lag q T S R)] w fun e w' => e = .returned (.int .i64 0) ∧ Below w.heap.size w w') := fun w T S R h => by have := check_any q T S R w h; rw [hc] at this; exact this
  have HN : Hid (Loopy.ask q a = (q0, 0, 3)) := by show _ = _; unfold Loopy.ask; rw [if_pos hc, if_neg (by rw [hw]; decide)]; rfl
  have HWI := Lib.hid (fun w => within_is _ _ _ _ hw w)
  clear hc hw
  have HQ := Lib.hid hq
  obtain ⟨⟨AT, cT, rfl, hT1, hT2, hT3⟩, ⟨AS, cS, rfl, hS1, hS2, hS3⟩, ⟨AR, cR, rfl, hR1, hR2, hR3⟩⟩ := hq
  clear hT3 hS3 hR3
  go_enter Try.func13, Try.ntmps13
  go_upto_region 1 with (fail)
  have hb : Box (((w.alloc (.cells (lag q (.slice AT q.tasks.length cT) (.slice AS q.smalls.length cS) (.slice AR q.timers.length cR)) 26)).alloc (.cells (ac a) 35)).alloc (.cells #[.int .i64 0, .int .i64 0, .slice none 0 0, .slice none 0 0, .slice none 0 0] 26)) (w.heap.size) 26 (lag q (.slice AT q.tasks.length cT) (.slice AS q.smalls.length cS) (.slice AR q.timers.length cR)) := (((Box.new w 26 (lag q (.slice AT q.tasks.length cT) (.slice AS q.smalls.length cS) (.slice AR q.timers.length cR))).alloc (.cells (ac a) 35)).alloc (.cells #[.int .i64 0, .int .i64 0, .slice none 0 0, .slice none 0 0, .slice none 0 0] 26))
  have ha : Box (((w.alloc (.cells (lag q (.slice AT q.tasks.length cT) (.slice AS q.smalls.length cS) (.slice AR q.timers.length cR)) 26)).alloc (.cells (ac a) 35)).alloc (.cells #[.int .i64 0, .int .i64 0, .slice none 0 0, .slice none 0 0, .slice none 0 0] 26)) (w.heap.size + 1) 35 (ac a) := (new2 w (.cells (lag q (.slice AT q.tasks.length cT) (.slice AS q.smalls.length cS) (.slice AR q.timers.length cR)) 26) 35 (ac a)).alloc (.cells #[.int .i64 0, .int .i64 0, .slice none 0 0, .slice none 0 0, .slice none 0 0] 26)
  have hl : Box (((w.alloc (.cells (lag q (.slice AT q.tasks.length cT) (.slice AS q.smalls.length cS) (.slice AR q.timers.length cR)) 26)).alloc (.cells (ac a) 35)).alloc (.cells #[.int .i64 0, .int .i64 0, .slice none 0 0, .slice none 0 0, .slice none 0 0] 26)) (w.heap.size + 1 + 1) 26 (#[.int .i64 0, .int .i64 0, .slice none 0 0, .slice none 0 0, .slice none 0 0]) := new3a w (.cells (lag q (.slice AT q.tasks.length cT) (.slice AS q.smalls.length cS) (.slice AR q.timers.length cR)) 26) (.cells (ac a) 35) 26 #[.int .i64 0, .int .i64 0, .slice none 0 0, .slice none 0 0, .slice none 0 0]
  have hU : Below w.heap.size w (((w.alloc (.cells (lag q (.slice AT q.tasks.length cT) (.slice AS q.smalls.length cS) (.slice AR q.timers.length cR)) 26)).alloc (.cells (ac a) 35)).alloc (.cells #[.int .i64 0, .int .i64 0, .slice none 0 0, .slice none 0 0, .slice none 0 0] 26)) := ((below1 w _).alloc (by simp) _).alloc (by simp <;> omega) _
  generalize (((w.alloc (.cells (lag q (.slice AT q.tasks.length cT) (.slice AS q.smalls.length cS) (.slice AR q.timers.length cR)) 26)).alloc (.cells (ac a) 35)).alloc (.cells #[.int .i64 0, .int .i64 0, .slice none 0 0, .slice none 0 0, .slice none 0 0] 26)) = W at *
  have HW := Lib.hid (HQ.out.below hU)
  go_wp2_with (refine wpList_load_row rfl 26 (.tmp 2) rfl (w.heap.size) rfl _ (lag q (.slice AT q.tasks.length cT) (.slice AS q.smalls.length cS) (.slice AR q.timers.length cR)) (0, 0) _ hb Try.underlying26 rfl info_loop ?_)
  refine (HC.out _ _ _ _ HW.out).mono ?_
  rintro e w1 ⟨rfl, hb1⟩
  have hb_ := Box.below hb hb1 hb.lt
  clear hb
  have hb := hb_
  clear hb_
  have ha_ := Box.below ha hb1 ha.lt
  clear ha
  have ha := ha_
  clear ha_
  have hl_ := Box.below hl hb1 hl.lt
  clear hl
  have hl := hl_
  clear hl_
  have hU1 : Below w.heap.size w w1 := hU.trans (hb1.mono hU.size)
  have HW1 := Lib.hid (HW.out.below hb1)
  have hz1 := hl.lt
  clear hU hb1
  have q0_ := ha.cell 0
  simp at q0_
  go_wp2_with (fail)
  refine (HWI.out _).mono ?_
  rintro e w2 ⟨rfl, rfl⟩
  clear q0_
  go_wp2_with (refine wpList_store_box rfl 26 (.tmp 4) (.tmp 20) rfl (w.heap.size + 1 + 1) (#[.int .i64 0, .int .i64 0, .slice none 0 0, .slice none 0 0, .slice none 0 0]) rfl rfl 26 _ hl info_loop rfl (by simp [Value.oneCell']) ?_; intro w9 hx9 hu9 hz9; clear hz9)
  refine bodyPost_ret (results_btt rfl (Back.mk' (w.heap.size + 1 + 1) 26 _ rfl hx9 Try.underlying26 rfl info_loop)) rfl ?_
  have hB10 : Below w.heap.size w w9 := hU1.trans (Upd.own (B := w.heap.size) hu9 (by omega) hU1.size)
  refine ⟨_, _, _, by rw [HN.out]; rfl, by rw [HN.out]; exact own_zero _ _, hB10⟩

set_option maxRecDepth 100000 in
set_option maxHeartbeats 4000000 in
theorem Ask_ok (q : Loopy.Loop) (a : Loopy.Ask) (T S R : Value) (w : World) (hq : LRd w q T S R) (hc : Loopy.check q = 0) (hw : Valu.within a.what 1 5 = true) (he : (Loopy.doAsk q a).2.2 = 0) :
    Calls Try.prog 13 #[.agg (lag q T S R), aag a] w fun e w' => AskFnOut w (Loopy.ask q a) e w' := by
  have HC : Hid (∀ w T S R, LRd w q T S R → Calls Try.prog 15 #[.agg (lag q T S R)] w fun e w' => e = .returned (.int .i64 0) ∧ Below w.heap.size w w') := fun w T S R h => by have := check_any q T S R w h; rw [hc] at this; exact this
  have HWI := Lib.hid (fun w => within_is _ _ _ _ hw w)
  have HRT := Lib.hid ((Loopy.check_iff q).1 hc)
  obtain ⟨⟨q4, i4, e4⟩, hq4⟩ : ∃ r, Loopy.doAsk q a = r := ⟨_, rfl⟩
  rw [hq4] at he
  simp only at he
  subst he
  have HN : Hid (Loopy.ask q a = (q4, i4, 0)) := by show _ = _; unfold Loopy.ask; rw [if_pos hc, if_pos hw, if_pos (by rw [hq4]), hq4]
  have HD : Hid (∀ B T S R w, Own w B q T S R → B ≤ w.heap.size → Calls Try.prog 28 #[.agg (qac q T S R a)] w fun e w' => ∃ T' S' R', e = .returned (.tuple #[.agg (lag q4 T' S' R'), .int .i64 i4, .int .i64 0]) ∧ Own w' B q4 T' S' R' ∧ Step w w' T S R T' S' R') := fun B T S R w h1 h2 => by
    have := do_any q a B T S R w h1 h2 HRT.out
    rw [hq4] at this
    unfold AskOut at this
    exact this
  clear hq4 hc hw
  have HQ := Lib.hid hq
  obtain ⟨⟨AT, cT, rfl, hT1, hT2, hT3⟩, ⟨AS, cS, rfl, hS1, hS2, hS3⟩, ⟨AR, cR, rfl, hR1, hR2, hR3⟩⟩ := hq
  clear hT3 hS3 hR3
  go_enter Try.func13, Try.ntmps13
  go_upto_region 1 with (fail)
  have hb : Box (((w.alloc (.cells (lag q (.slice AT q.tasks.length cT) (.slice AS q.smalls.length cS) (.slice AR q.timers.length cR)) 26)).alloc (.cells (ac a) 35)).alloc (.cells #[.int .i64 0, .int .i64 0, .slice none 0 0, .slice none 0 0, .slice none 0 0] 26)) (w.heap.size) 26 (lag q (.slice AT q.tasks.length cT) (.slice AS q.smalls.length cS) (.slice AR q.timers.length cR)) := (((Box.new w 26 (lag q (.slice AT q.tasks.length cT) (.slice AS q.smalls.length cS) (.slice AR q.timers.length cR))).alloc (.cells (ac a) 35)).alloc (.cells #[.int .i64 0, .int .i64 0, .slice none 0 0, .slice none 0 0, .slice none 0 0] 26))
  have ha : Box (((w.alloc (.cells (lag q (.slice AT q.tasks.length cT) (.slice AS q.smalls.length cS) (.slice AR q.timers.length cR)) 26)).alloc (.cells (ac a) 35)).alloc (.cells #[.int .i64 0, .int .i64 0, .slice none 0 0, .slice none 0 0, .slice none 0 0] 26)) (w.heap.size + 1) 35 (ac a) := (new2 w (.cells (lag q (.slice AT q.tasks.length cT) (.slice AS q.smalls.length cS) (.slice AR q.timers.length cR)) 26) 35 (ac a)).alloc (.cells #[.int .i64 0, .int .i64 0, .slice none 0 0, .slice none 0 0, .slice none 0 0] 26)
  have hl : Box (((w.alloc (.cells (lag q (.slice AT q.tasks.length cT) (.slice AS q.smalls.length cS) (.slice AR q.timers.length cR)) 26)).alloc (.cells (ac a) 35)).alloc (.cells #[.int .i64 0, .int .i64 0, .slice none 0 0, .slice none 0 0, .slice none 0 0] 26)) (w.heap.size + 1 + 1) 26 (#[.int .i64 0, .int .i64 0, .slice none 0 0, .slice none 0 0, .slice none 0 0]) := new3a w (.cells (lag q (.slice AT q.tasks.length cT) (.slice AS q.smalls.length cS) (.slice AR q.timers.length cR)) 26) (.cells (ac a) 35) 26 #[.int .i64 0, .int .i64 0, .slice none 0 0, .slice none 0 0, .slice none 0 0]
  have hU : Below w.heap.size w (((w.alloc (.cells (lag q (.slice AT q.tasks.length cT) (.slice AS q.smalls.length cS) (.slice AR q.timers.length cR)) 26)).alloc (.cells (ac a) 35)).alloc (.cells #[.int .i64 0, .int .i64 0, .slice none 0 0, .slice none 0 0, .slice none 0 0] 26)) := ((below1 w _).alloc (by simp) _).alloc (by simp <;> omega) _
  generalize (((w.alloc (.cells (lag q (.slice AT q.tasks.length cT) (.slice AS q.smalls.length cS) (.slice AR q.timers.length cR)) 26)).alloc (.cells (ac a) 35)).alloc (.cells #[.int .i64 0, .int .i64 0, .slice none 0 0, .slice none 0 0, .slice none 0 0] 26)) = W at *
  have HW := Lib.hid (HQ.out.below hU)
  go_wp2_with (refine wpList_load_row rfl 26 (.tmp 2) rfl (w.heap.size) rfl _ (lag q (.slice AT q.tasks.length cT) (.slice AS q.smalls.length cS) (.slice AR q.timers.length cR)) (0, 0) _ hb Try.underlying26 rfl info_loop ?_)
  refine (HC.out _ _ _ _ HW.out).mono ?_
  rintro e w1 ⟨rfl, hb1⟩
  have hb_ := Box.below hb hb1 hb.lt
  clear hb
  have hb := hb_
  clear hb_
  have ha_ := Box.below ha hb1 ha.lt
  clear ha
  have ha := ha_
  clear ha_
  have hl_ := Box.below hl hb1 hl.lt
  clear hl
  have hl := hl_
  clear hl_
  have hU1 : Below w.heap.size w w1 := hU.trans (hb1.mono hU.size)
  have HW1 := Lib.hid (HW.out.below hb1)
  have hz1 := hl.lt
  clear hU hb1
  have q0_ := ha.cell 0
  simp at q0_
  go_wp2_with (fail)
  refine (HWI.out _).mono ?_
  rintro e w2 ⟨rfl, rfl⟩
  clear q0_
  go_upto_region 6 with (fail)
  have HWd : Hid (LRd w1.drew q (.slice AT q.tasks.length cT) (.slice AS q.smalls.length cS) (.slice AR q.timers.length cR)) := HW1.out.below (Below.drew (Below.refl _ w1))
  obtain ⟨B, hBe⟩ : ∃ B, w1.heap.size = B := ⟨_, rfl⟩
  have hBz : w.heap.size + 1 + 1 < B := by rw [← hBe]; exact hz1
  have hbd := Box.drew hb
  have had := Box.drew ha
  have hld := Box.drew hl
  have HBe := Lib.hid hBe
  clear hBe
  refine wp_region_held_drew (S := fun w' => Box w' (w.heap.size + 1) 35 (ac a) ∧ True) (by kernel_rfl) ⟨ha, trivial⟩ (fun hHeld => ?_)
  refine wpAnyH_take (i := 2) (v := _) rfl (by kernel_rfl) (by kernel_rfl) (by kernel_rfl) (fun _ _ _ h => h) (yields_load_box (by kernel_rfl) 35 (.tmp 3) rfl (w.heap.size + 1) 35 (ac a) _ rfl (fun _ h => h.1) Try.underlying35 rfl info_ask) (by assumption) ?_
  (try simp only [Act.put, List.getElem_toArray, List.getElem_cons_succ, List.getElem_cons_zero, List.setIfInBounds_toArray, List.set_cons_zero, List.set_cons_succ])
  refine wpAnyH_ready (rs := [0]) (by kernel_rfl) (by simp) ?_
  refine AllReadyH.cons rfl (fun K hK => ?_) AllReadyH.nil
  refine step_load_box rfl 26 (.tmp 2) rfl (w.heap.size) 26 (lag q (.slice AT q.tasks.length cT) (.slice AS q.smalls.length cS) (.slice AR q.timers.length cR)) _ rfl hbd Try.underlying26 rfl info_loop ?_
  refine hK.out _ _ ⟨had, trivial⟩ (fun hHeld => ?_)
  clear hK K
  (try simp only [Act.put, List.getElem_toArray, List.getElem_cons_succ, List.getElem_cons_zero, List.setIfInBounds_toArray, List.set_cons_zero, List.set_cons_succ])
  refine wpAnyH_ready (rs := [1]) (by kernel_rfl) (by simp) ?_
  refine AllReadyH.cons rfl (fun K hK => ?_) AllReadyH.nil
  go_simp
  refine (copied_any q _ _ _ _ HWd.out (by have := HRT.out.l1; omega) (by have := HRT.out.l2; omega) (by have := HRT.out.l3; omega)).mono ?_
  rintro e w3 ⟨T3, S3, R3, rfl, hO3, hB3⟩
  have hO3' : Own w3 B q T3 S3 R3 := HBe.out ▸ hO3
  have hB3' : Below B w1.drew w3 := HBe.out ▸ hB3
  clear hO3 hB3
  obtain ⟨A31, k31, ee1⟩ := own_slice hO3'.t
  obtain ⟨A32, k32, ee2⟩ := own_slice hO3'.s
  obtain ⟨A33, k33, ee3⟩ := own_slice hO3'.r
  subst ee1 ee2 ee3
  have hB3z : B ≤ w3.heap.size := by have := hB3'.size; have h2 := HBe.out; exact Nat.le_trans (Nat.le_of_eq h2.symm) this
  have HO3 := Lib.hid hO3'
  have HB3 := Lib.hid hB3'
  clear hO3' hB3'
  go_wp2_with (fail)
  refine hK.out _ _ ?_ (fun hHeld => ?_)
  · exact ⟨had.below HB3.out (by omega), trivial⟩
  clear hK K
  (try simp only [Act.put, List.getElem_toArray, List.getElem_cons_succ, List.getElem_cons_zero, List.setIfInBounds_toArray, List.set_cons_zero, List.set_cons_succ])
  refine wpAnyH_take (i := 3) (v := ?_) rfl (by kernel_rfl) (by kernel_rfl) (by kernel_rfl) (fun _ _ _ h => h) (Or.inl ⟨by kernel_rfl, ?_⟩) (by assumption) ?_
  rotate_left
  · intro w hSw
    (try dsimp only at hSw)
    go_simp
    try (with_reducible rfl)
  (try simp only [Act.put, List.getElem_toArray, List.getElem_cons_succ, List.getElem_cons_zero, List.setIfInBounds_toArray, List.set_cons_zero, List.set_cons_succ])
  refine wpAnyH_ready (rs := [4]) (by kernel_rfl) (by simp) ?_
  refine AllReadyH.cons rfl (fun K hK => ?_) AllReadyH.nil
  go_simp
  refine (HD.out B _ _ _ w3 HO3.out hB3z).mono ?_
  rintro e w4 ⟨T4, S4, R4, rfl, hO4, hS4⟩
  have HB4 : Hid (Below B w1.drew w4) := HB3.out.trans (hS4.below HO3.out hB3z)
  have HO4 := Lib.hid hO4
  have hone := hO4.one
  have hz4 : w3.heap.size ≤ w4.heap.size := hS4.size
  have hb4 := Box.below hbd HB4.out (by omega)
  have hl4 := Box.below hld HB4.out (by omega)
  clear hO4 hS4
  go_wp2_with (fail)
  refine hK.out _ _ ?_ (fun hHeld => ?_)
  · exact ⟨had.below HB4.out (by omega), trivial⟩
  clear hK K
  (try simp only [Act.put, List.getElem_toArray, List.getElem_cons_succ, List.getElem_cons_zero, List.setIfInBounds_toArray, List.set_cons_zero, List.set_cons_succ])
  refine wpAnyH_take (i := 5) (v := ?_) rfl (by kernel_rfl) (by kernel_rfl) (by kernel_rfl) (fun _ _ _ h => h) (Or.inl ⟨by kernel_rfl, ?_⟩) (by assumption) ?_
  rotate_left
  · intro w hSw
    (try dsimp only at hSw)
    go_simp
    try (with_reducible rfl)
  (try simp only [Act.put, List.getElem_toArray, List.getElem_cons_succ, List.getElem_cons_zero, List.setIfInBounds_toArray, List.set_cons_zero, List.set_cons_succ])
  refine wpAnyH_take (i := 6) (v := ?_) rfl (by kernel_rfl) (by kernel_rfl) (by kernel_rfl) (fun _ _ _ h => h) (Or.inl ⟨by kernel_rfl, ?_⟩) (by assumption) ?_
  rotate_left
  · intro w hSw
    (try dsimp only at hSw)
    go_simp
    try (with_reducible rfl)
  (try simp only [Act.put, List.getElem_toArray, List.getElem_cons_succ, List.getElem_cons_zero, List.setIfInBounds_toArray, List.set_cons_zero, List.set_cons_succ])
  refine wpAnyH_take (i := 7) (v := ?_) rfl (by kernel_rfl) (by kernel_rfl) (by kernel_rfl) (fun _ _ _ h => h) (Or.inl ⟨by kernel_rfl, ?_⟩) (by assumption) ?_
  rotate_left
  · intro w hSw
    (try dsimp only at hSw)
    go_simp
    try (with_reducible rfl)
  (try simp only [Act.put, List.getElem_toArray, List.getElem_cons_succ, List.getElem_cons_zero, List.setIfInBounds_toArray, List.set_cons_zero, List.set_cons_succ])
  refine wpAnyH_take (i := 8) (v := ?_) rfl (by kernel_rfl) (by kernel_rfl) (by kernel_rfl) (fun _ _ _ h => h) (Or.inl ⟨by kernel_rfl, ?_⟩) (by assumption) ?_
  rotate_left
  · intro w hSw
    (try dsimp only at hSw)
    go_simp
    try (with_reducible rfl)
  (try simp only [Act.put, List.getElem_toArray, List.getElem_cons_succ, List.getElem_cons_zero, List.setIfInBounds_toArray, List.set_cons_zero, List.set_cons_succ])
  refine wpAnyH_ready (rs := [9]) (by kernel_rfl) (by simp) ?_
  refine AllReadyH.cons rfl (fun K hK => ?_) AllReadyH.nil
  refine step_store_box rfl 26 (.tmp 2) (.tmp 27) rfl (w.heap.size) (lag q4 T4 S4 R4) rfl rfl 26 _ hb4 info_loop rfl hone ?_; intro w5 hx5 hu5 hz5
  refine hK.out _ _ ⟨Box.grown (had.below HB4.out (by omega)) hu5 (by intro h; injection h with h; omega), trivial⟩ (fun hHeld => ?_)
  clear hK K
  (try simp only [Act.put, List.getElem_toArray, List.getElem_cons_succ, List.getElem_cons_zero, List.setIfInBounds_toArray, List.set_cons_zero, List.set_cons_succ])
  refine wpAnyH_take (i := 10) (v := ?_) rfl (by kernel_rfl) (by kernel_rfl) (by kernel_rfl) (fun _ _ _ h => h) (Or.inl ⟨by kernel_rfl, ?_⟩) (by assumption) ?_
  rotate_left
  · intro w hSw
    (try dsimp only at hSw)
    go_simp
    try (with_reducible rfl)
  (try simp only [Act.put, List.getElem_toArray, List.getElem_cons_succ, List.getElem_cons_zero, List.setIfInBounds_toArray, List.set_cons_zero, List.set_cons_succ])
  refine wpAnyH_take (i := 11) (v := ?_) rfl (by kernel_rfl) (by kernel_rfl) (by kernel_rfl) (fun _ _ _ h => h) (Or.inl ⟨by kernel_rfl, ?_⟩) (by assumption) ?_
  rotate_left
  · intro w hSw
    (try dsimp only at hSw)
    go_simp
    try (with_reducible rfl)
  (try simp only [Act.put, List.getElem_toArray, List.getElem_cons_succ, List.getElem_cons_zero, List.setIfInBounds_toArray, List.set_cons_zero, List.set_cons_succ])
  refine wpAnyH_done (by kernel_rfl) ?_ _
  have hl5 := Box.grown hl4 hu5 (by intro h; injection h with h; omega)
  have HO5 : Hid (Own w5 B q4 T4 S4 R4) := HO4.out.far hu5 (by omega)
  have HU5 : Hid (Below w.heap.size w w5) := (hU1.drew.trans (HB4.out.mono (by omega))).trans (Upd.own (B := w.heap.size) hu5 (Nat.le_refl _) (by omega))
  clear hHeld hb4 hl4 hbd had hld hb ha hl hz5
  go_wp2_with (first | (refine wpList_load_row rfl 26 (.tmp 2) rfl (w.heap.size) rfl _ (lag q4 T4 S4 R4) (0, 0) _ hx5 Try.underlying26 rfl info_loop ?_) | (refine wpList_store_box rfl 26 (.tmp 4) (.tmp 34) rfl (w.heap.size + 1 + 1) (lag q4 T4 S4 R4) rfl rfl 26 _ hl5 info_loop rfl hone ?_; intro w9 hx9 hu9 hz9; clear hz9))
  refine bodyPost_ret (results_btt rfl (Back.mk' (w.heap.size + 1 + 1) 26 _ rfl hx9 Try.underlying26 rfl info_loop)) rfl ?_
  have hB9 : Below w.heap.size w w9 := HU5.out.trans (Upd.own (B := w.heap.size) hu9 (by omega) HU5.out.size)
  refine ⟨_, _, _, by rw [HN.out]; rfl, by rw [HN.out]; exact (HO5.out.far hu9 (by omega)).base (by omega), hB9⟩

set_option maxRecDepth 100000 in
set_option maxHeartbeats 4000000 in
theorem Ask_err (q : Loopy.Loop) (a : Loopy.Ask) (T S R : Value) (w : World) (hq : LRd w q T S R) (hc : Loopy.check q = 0) (hw : Valu.within a.what 1 5 = true) (he : ¬ (Loopy.doAsk q a).2.2 = 0) :
    Calls Try.prog 13 #[.agg (lag q T S R), aag a] w fun e w' => AskFnOut w (Loopy.ask q a) e w' := by
  have HC : Hid (∀ w T S R, LRd w q T S R → Calls Try.prog 15 #[.agg (lag q T S R)] w fun e w' => e = .returned (.int .i64 0) ∧ Below w.heap.size w w') := fun w T S R h => by have := check_any q T S R w h; rw [hc] at this; exact this
  have HWI := Lib.hid (fun w => within_is _ _ _ _ hw w)
  have HRT := Lib.hid ((Loopy.check_iff q).1 hc)
  obtain ⟨⟨q4, i4, e4⟩, hq4⟩ : ∃ r, Loopy.doAsk q a = r := ⟨_, rfl⟩
  rw [hq4] at he
  simp only at he
  obtain ⟨x, hx⟩ : ∃ x : Int, (e4 : Int) = x := ⟨_, rfl⟩
  have HN : Hid (Loopy.ask q a = (q0, 0, e4)) := by show _ = _; unfold Loopy.ask; rw [if_pos hc, if_pos hw, if_neg (by rw [hq4]; exact he), hq4]; rfl
  have hx0 : ¬ x = 0 := by omega
  have hx1 : (x == 0) = false := by simpa using hx0
  have HD : Hid (∀ B T S R w, Own w B q T S R → B ≤ w.heap.size → Calls Try.prog 28 #[.agg (qac q T S R a)] w fun e w' => ∃ T' S' R', e = .returned (.tuple #[.agg (lag q4 T' S' R'), .int .i64 i4, .int .i64 x]) ∧ Own w' B q4 T' S' R' ∧ Step w w' T S R T' S' R') := fun B T S R w h1 h2 => by
    have := do_any q a B T S R w h1 h2 HRT.out
    rw [hq4] at this
    unfold AskOut at this
    rw [← hx]; exact this
  clear hq4 hc hw he
  have HXE := Lib.hid hx
  clear hx
  have HQ := Lib.hid hq
  obtain ⟨⟨AT, cT, rfl, hT1, hT2, hT3⟩, ⟨AS, cS, rfl, hS1, hS2, hS3⟩, ⟨AR, cR, rfl, hR1, hR2, hR3⟩⟩ := hq
  clear hT3 hS3 hR3
  go_enter Try.func13, Try.ntmps13
  go_upto_region 1 with (fail)
  have hb : Box (((w.alloc (.cells (lag q (.slice AT q.tasks.length cT) (.slice AS q.smalls.length cS) (.slice AR q.timers.length cR)) 26)).alloc (.cells (ac a) 35)).alloc (.cells #[.int .i64 0, .int .i64 0, .slice none 0 0, .slice none 0 0, .slice none 0 0] 26)) (w.heap.size) 26 (lag q (.slice AT q.tasks.length cT) (.slice AS q.smalls.length cS) (.slice AR q.timers.length cR)) := (((Box.new w 26 (lag q (.slice AT q.tasks.length cT) (.slice AS q.smalls.length cS) (.slice AR q.timers.length cR))).alloc (.cells (ac a) 35)).alloc (.cells #[.int .i64 0, .int .i64 0, .slice none 0 0, .slice none 0 0, .slice none 0 0] 26))
  have ha : Box (((w.alloc (.cells (lag q (.slice AT q.tasks.length cT) (.slice AS q.smalls.length cS) (.slice AR q.timers.length cR)) 26)).alloc (.cells (ac a) 35)).alloc (.cells #[.int .i64 0, .int .i64 0, .slice none 0 0, .slice none 0 0, .slice none 0 0] 26)) (w.heap.size + 1) 35 (ac a) := (new2 w (.cells (lag q (.slice AT q.tasks.length cT) (.slice AS q.smalls.length cS) (.slice AR q.timers.length cR)) 26) 35 (ac a)).alloc (.cells #[.int .i64 0, .int .i64 0, .slice none 0 0, .slice none 0 0, .slice none 0 0] 26)
  have hl : Box (((w.alloc (.cells (lag q (.slice AT q.tasks.length cT) (.slice AS q.smalls.length cS) (.slice AR q.timers.length cR)) 26)).alloc (.cells (ac a) 35)).alloc (.cells #[.int .i64 0, .int .i64 0, .slice none 0 0, .slice none 0 0, .slice none 0 0] 26)) (w.heap.size + 1 + 1) 26 (#[.int .i64 0, .int .i64 0, .slice none 0 0, .slice none 0 0, .slice none 0 0]) := new3a w (.cells (lag q (.slice AT q.tasks.length cT) (.slice AS q.smalls.length cS) (.slice AR q.timers.length cR)) 26) (.cells (ac a) 35) 26 #[.int .i64 0, .int .i64 0, .slice none 0 0, .slice none 0 0, .slice none 0 0]
  have hU : Below w.heap.size w (((w.alloc (.cells (lag q (.slice AT q.tasks.length cT) (.slice AS q.smalls.length cS) (.slice AR q.timers.length cR)) 26)).alloc (.cells (ac a) 35)).alloc (.cells #[.int .i64 0, .int .i64 0, .slice none 0 0, .slice none 0 0, .slice none 0 0] 26)) := ((below1 w _).alloc (by simp) _).alloc (by simp <;> omega) _
  generalize (((w.alloc (.cells (lag q (.slice AT q.tasks.length cT) (.slice AS q.smalls.length cS) (.slice AR q.timers.length cR)) 26)).alloc (.cells (ac a) 35)).alloc (.cells #[.int .i64 0, .int .i64 0, .slice none 0 0, .slice none 0 0, .slice none 0 0] 26)) = W at *
  have HW := Lib.hid (HQ.out.below hU)
  go_wp2_with (refine wpList_load_row rfl 26 (.tmp 2) rfl (w.heap.size) rfl _ (lag q (.slice AT q.tasks.length cT) (.slice AS q.smalls.length cS) (.slice AR q.timers.length cR)) (0, 0) _ hb Try.underlying26 rfl info_loop ?_)
  refine (HC.out _ _ _ _ HW.out).mono ?_
  rintro e w1 ⟨rfl, hb1⟩
  have hb_ := Box.below hb hb1 hb.lt
  clear hb
  have hb := hb_
  clear hb_
  have ha_ := Box.below ha hb1 ha.lt
  clear ha
  have ha := ha_
  clear ha_
  have hl_ := Box.below hl hb1 hl.lt
  clear hl
  have hl := hl_
  clear hl_
  have hU1 : Below w.heap.size w w1 := hU.trans (hb1.mono hU.size)
  have HW1 := Lib.hid (HW.out.below hb1)
  have hz1 := hl.lt
  clear hU hb1
  have q0_ := ha.cell 0
  simp at q0_
  go_wp2_with (fail)
  refine (HWI.out _).mono ?_
  rintro e w2 ⟨rfl, rfl⟩
  clear q0_
  go_upto_region 6 with (fail)
  have HWd : Hid (LRd w1.drew q (.slice AT q.tasks.length cT) (.slice AS q.smalls.length cS) (.slice AR q.timers.length cR)) := HW1.out.below (Below.drew (Below.refl _ w1))
  obtain ⟨B, hBe⟩ : ∃ B, w1.heap.size = B := ⟨_, rfl⟩
  have hBz : w.heap.size + 1 + 1 < B := by rw [← hBe]; exact hz1
  have hbd := Box.drew hb
  have had := Box.drew ha
  have hld := Box.drew hl
  have HBe := Lib.hid hBe
  clear hBe
  refine wp_region_held_drew (S := fun w' => Box w' (w.heap.size + 1) 35 (ac a) ∧ True) (by kernel_rfl) ⟨ha, trivial⟩ (fun hHeld => ?_)
  refine wpAnyH_take (i := 2) (v := _) rfl (by kernel_rfl) (by kernel_rfl) (by kernel_rfl) (fun _ _ _ h => h) (yields_load_box (by kernel_rfl) 35 (.tmp 3) rfl (w.heap.size + 1) 35 (ac a) _ rfl (fun _ h => h.1) Try.underlying35 rfl info_ask) (by assumption) ?_
  (try simp only [Act.put, List.getElem_toArray, List.getElem_cons_succ, List.getElem_cons_zero, List.setIfInBounds_toArray, List.set_cons_zero, List.set_cons_succ])
  refine wpAnyH_ready (rs := [0]) (by kernel_rfl) (by simp) ?_
  refine AllReadyH.cons rfl (fun K hK => ?_) AllReadyH.nil
  refine step_load_box rfl 26 (.tmp 2) rfl (w.heap.size) 26 (lag q (.slice AT q.tasks.length cT) (.slice AS q.smalls.length cS) (.slice AR q.timers.length cR)) _ rfl hbd Try.underlying26 rfl info_loop ?_
  refine hK.out _ _ ⟨had, trivial⟩ (fun hHeld => ?_)
  clear hK K
  (try simp only [Act.put, List.getElem_toArray, List.getElem_cons_succ, List.getElem_cons_zero, List.setIfInBounds_toArray, List.set_cons_zero, List.set_cons_succ])
  refine wpAnyH_ready (rs := [1]) (by kernel_rfl) (by simp) ?_
  refine AllReadyH.cons rfl (fun K hK => ?_) AllReadyH.nil
  go_simp
  refine (copied_any q _ _ _ _ HWd.out (by have := HRT.out.l1; omega) (by have := HRT.out.l2; omega) (by have := HRT.out.l3; omega)).mono ?_
  rintro e w3 ⟨T3, S3, R3, rfl, hO3, hB3⟩
  have hO3' : Own w3 B q T3 S3 R3 := HBe.out ▸ hO3
  have hB3' : Below B w1.drew w3 := HBe.out ▸ hB3
  clear hO3 hB3
  obtain ⟨A31, k31, ee1⟩ := own_slice hO3'.t
  obtain ⟨A32, k32, ee2⟩ := own_slice hO3'.s
  obtain ⟨A33, k33, ee3⟩ := own_slice hO3'.r
  subst ee1 ee2 ee3
  have hB3z : B ≤ w3.heap.size := by have := hB3'.size; have h2 := HBe.out; exact Nat.le_trans (Nat.le_of_eq h2.symm) this
  have HO3 := Lib.hid hO3'
  have HB3 := Lib.hid hB3'
  clear hO3' hB3'
  go_wp2_with (fail)
  refine hK.out _ _ ?_ (fun hHeld => ?_)
  · exact ⟨had.below HB3.out (by omega), trivial⟩
  clear hK K
  (try simp only [Act.put, List.getElem_toArray, List.getElem_cons_succ, List.getElem_cons_zero, List.setIfInBounds_toArray, List.set_cons_zero, List.set_cons_succ])
  refine wpAnyH_take (i := 3) (v := ?_) rfl (by kernel_rfl) (by kernel_rfl) (by kernel_rfl) (fun _ _ _ h => h) (Or.inl ⟨by kernel_rfl, ?_⟩) (by assumption) ?_
  rotate_left
  · intro w hSw
    (try dsimp only at hSw)
    go_simp
    try (with_reducible rfl)
  (try simp only [Act.put, List.getElem_toArray, List.getElem_cons_succ, List.getElem_cons_zero, List.setIfInBounds_toArray, List.set_cons_zero, List.set_cons_succ])
  refine wpAnyH_ready (rs := [4]) (by kernel_rfl) (by simp) ?_
  refine AllReadyH.cons rfl (fun K hK => ?_) AllReadyH.nil
  go_simp
  refine (HD.out B _ _ _ w3 HO3.out hB3z).mono ?_
  rintro e w4 ⟨T4, S4, R4, rfl, hO4, hS4⟩
  have HB4 : Hid (Below B w1.drew w4) := HB3.out.trans (hS4.below HO3.out hB3z)
  have HO4 := Lib.hid hO4
  have hone := hO4.one
  have hz4 : w3.heap.size ≤ w4.heap.size := hS4.size
  have hb4 := Box.below hbd HB4.out (by omega)
  have hl4 := Box.below hld HB4.out (by omega)
  clear hO4 hS4
  go_wp2_with (fail)
  refine hK.out _ _ ?_ (fun hHeld => ?_)
  · exact ⟨had.below HB4.out (by omega), trivial⟩
  clear hK K
  (try simp only [Act.put, List.getElem_toArray, List.getElem_cons_succ, List.getElem_cons_zero, List.setIfInBounds_toArray, List.set_cons_zero, List.set_cons_succ])
  refine wpAnyH_take (i := 5) (v := ?_) rfl (by kernel_rfl) (by kernel_rfl) (by kernel_rfl) (fun _ _ _ h => h) (Or.inl ⟨by kernel_rfl, ?_⟩) (by assumption) ?_
  rotate_left
  · intro w hSw
    (try dsimp only at hSw)
    go_simp
    try (with_reducible rfl)
  (try simp only [Act.put, List.getElem_toArray, List.getElem_cons_succ, List.getElem_cons_zero, List.setIfInBounds_toArray, List.set_cons_zero, List.set_cons_succ])
  refine wpAnyH_take (i := 6) (v := ?_) rfl (by kernel_rfl) (by kernel_rfl) (by kernel_rfl) (fun _ _ _ h => h) (Or.inl ⟨by kernel_rfl, ?_⟩) (by assumption) ?_
  rotate_left
  · intro w hSw
    (try dsimp only at hSw)
    go_simp
    try (with_reducible rfl)
  (try simp only [Act.put, List.getElem_toArray, List.getElem_cons_succ, List.getElem_cons_zero, List.setIfInBounds_toArray, List.set_cons_zero, List.set_cons_succ])
  refine wpAnyH_take (i := 7) (v := ?_) rfl (by kernel_rfl) (by kernel_rfl) (by kernel_rfl) (fun _ _ _ h => h) (Or.inl ⟨by kernel_rfl, ?_⟩) (by assumption) ?_
  rotate_left
  · intro w hSw
    (try dsimp only at hSw)
    go_simp
    try (with_reducible rfl)
  (try simp only [Act.put, List.getElem_toArray, List.getElem_cons_succ, List.getElem_cons_zero, List.setIfInBounds_toArray, List.set_cons_zero, List.set_cons_succ])
  refine wpAnyH_take (i := 8) (v := ?_) rfl (by kernel_rfl) (by kernel_rfl) (by kernel_rfl) (fun _ _ _ h => h) (Or.inl ⟨by kernel_rfl, ?_⟩) (by assumption) ?_
  rotate_left
  · intro w hSw
    (try dsimp only at hSw)
    go_simp
    try (with_reducible rfl)
  (try simp only [Act.put, List.getElem_toArray, List.getElem_cons_succ, List.getElem_cons_zero, List.setIfInBounds_toArray, List.set_cons_zero, List.set_cons_succ])
  refine wpAnyH_ready (rs := [9]) (by kernel_rfl) (by simp) ?_
  refine AllReadyH.cons rfl (fun K hK => ?_) AllReadyH.nil
  refine step_store_box rfl 26 (.tmp 2) (.tmp 27) rfl (w.heap.size) (lag q4 T4 S4 R4) rfl rfl 26 _ hb4 info_loop rfl hone ?_; intro w5 hx5 hu5 hz5
  refine hK.out _ _ ⟨Box.grown (had.below HB4.out (by omega)) hu5 (by intro h; injection h with h; omega), trivial⟩ (fun hHeld => ?_)
  clear hK K
  (try simp only [Act.put, List.getElem_toArray, List.getElem_cons_succ, List.getElem_cons_zero, List.setIfInBounds_toArray, List.set_cons_zero, List.set_cons_succ])
  refine wpAnyH_take (i := 10) (v := ?_) rfl (by kernel_rfl) (by kernel_rfl) (by kernel_rfl) (fun _ _ _ h => h) (Or.inl ⟨by kernel_rfl, ?_⟩) (by assumption) ?_
  rotate_left
  · intro w hSw
    (try dsimp only at hSw)
    go_simp
    try (with_reducible rfl)
  (try simp only [Act.put, List.getElem_toArray, List.getElem_cons_succ, List.getElem_cons_zero, List.setIfInBounds_toArray, List.set_cons_zero, List.set_cons_succ])
  refine wpAnyH_take (i := 11) (v := ?_) rfl (by kernel_rfl) (by kernel_rfl) (by kernel_rfl) (fun _ _ _ h => h) (Or.inl ⟨by kernel_rfl, ?_⟩) (by assumption) ?_
  rotate_left
  · intro w hSw
    (try dsimp only at hSw)
    go_simp
    try (with_reducible rfl)
  (try simp only [Act.put, List.getElem_toArray, List.getElem_cons_succ, List.getElem_cons_zero, List.setIfInBounds_toArray, List.set_cons_zero, List.set_cons_succ])
  refine wpAnyH_done (by kernel_rfl) ?_ _
  have hl5 := Box.grown hl4 hu5 (by intro h; injection h with h; omega)
  have HO5 : Hid (Own w5 B q4 T4 S4 R4) := HO4.out.far hu5 (by omega)
  have HU5 : Hid (Below w.heap.size w w5) := (hU1.drew.trans (HB4.out.mono (by omega))).trans (Upd.own (B := w.heap.size) hu5 (Nat.le_refl _) (by omega))
  clear hHeld hb4 hl4 hbd had hld hb ha hl hz5
  go_wp2_with (refine wpList_store_box rfl 26 (.tmp 4) (.tmp 32) rfl (w.heap.size + 1 + 1) (#[.int .i64 0, .int .i64 0, .slice none 0 0, .slice none 0 0, .slice none 0 0]) rfl rfl 26 _ hl5 info_loop rfl (by simp [Value.oneCell']) ?_; intro w9 hx9 hu9 hz9; clear hz9)
  refine bodyPost_ret (results_btt rfl (Back.mk' (w.heap.size + 1 + 1) 26 _ rfl hx9 Try.underlying26 rfl info_loop)) rfl ?_
  have hB9 : Below w.heap.size w w9 := HU5.out.trans (Upd.own (B := w.heap.size) hu9 (by omega) HU5.out.size)
  refine ⟨_, _, _, by rw [HN.out, ← HXE.out]; rfl, by rw [HN.out]; exact own_zero _ _, hB9⟩

theorem Ask_any (q : Loopy.Loop) (a : Loopy.Ask) (T S R : Value) (w : World) (hq : LRd w q T S R) :
    Calls Try.prog 13 #[.agg (lag q T S R), aag a] w fun e w' => AskFnOut w (Loopy.ask q a) e w' := by
  rcases Loopy.check_small q with hc | hc | hc
  · cases hw : Valu.within a.what 1 5
    · exact Ask_what q a T S R w hq hc hw
    · by_cases he : (Loopy.doAsk q a).2.2 = 0
      · exact Ask_ok q a T S R w hq hc hw he
      · exact Ask_err q a T S R w hq hc hw he
  · exact Ask_no2 q a T S R w hq hc
  · exact Ask_no3 q a T S R w hq hc
end Go.Proofs.Ytpjbblbehbepbaa
