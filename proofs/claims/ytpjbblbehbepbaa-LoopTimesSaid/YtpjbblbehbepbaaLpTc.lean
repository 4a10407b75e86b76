/-
  A timer is asked for. Conditions: the loop's rows are its own; the loop is right.
-/
import Derived.Test.YtpjbblbehbepbaaLpR
namespace Go.Proofs.Ytpjbblbehbepbaa
set_option linter.unusedSimpArgs false
set_option linter.unusedVariables false
open Go.RowKit

set_option maxRecDepth 100000 in
set_option maxHeartbeats 4000000 in
theorem every_n (q : Loopy.Loop) (a : Loopy.Ask) (B : Nat) (T S R : Value) (w : World) (ho : Own w B q T S R) (hB : B ≤ w.heap.size) (hr : Loopy.Right q) (hw : Valu.within a.n 1 1000000 = false) :
    Calls Try.prog 40 #[.agg (qac q T S R a), .bool true] w fun e w' => AskOut w B T S R (Loopy.timer q a true) e w' := by
  have HP : Hid (Loopy.timer q a true = (q, 0, 1)) := by
    show Loopy.timer q a true = _
    unfold Loopy.timer Loopy.most
    simp only [if_true, if_false, Bool.false_eq_true]
    rw [if_pos hw]
  have HWI := Lib.hid (fun w => within_is _ _ _ _ hw w)
  clear hw
  have hn0 := hr.nxt0
  have hn1 := hr.nxt1
  have hw0 := hr.now0
  have hw1 := hr.now1
  unfold Loopy.most at hn1 hw1
  have l3 := hr.l3
  have HSR := Lib.hid hr.srt
  obtain ⟨A1, c1, e1⟩ := own_slice ho.t
  obtain ⟨A2, c2, e2⟩ := own_slice ho.s
  obtain ⟨A3, c3, e3⟩ := own_slice ho.r
  subst e1 e2 e3
  have HO := Lib.hid ho
  have hml := Lib.hid (fun k (hm : mine (.slice A1 q.tasks.length c1) (.slice A2 q.smalls.length c2) (.slice A3 q.timers.length c3) k) => HO.out.mine_lt hm)
  have hone : (lag q (.slice A1 q.tasks.length c1) (.slice A2 q.smalls.length c2) (.slice A3 q.timers.length c3)).all (·.oneCell') = true := by simp [Value.oneCell']
  clear ho hr
  go_enter Try.func40, Try.ntmps40
  go_upto_region 1 with (fail)
  have hb : Box ((w.alloc (.cells (qac q (.slice A1 q.tasks.length c1) (.slice A2 q.smalls.length c2) (.slice A3 q.timers.length c3) a) 64)).alloc (.cells #[.int .i64 0, .int .i64 0, .slice none 0 0, .slice none 0 0, .slice none 0 0] 26)) (w.heap.size) 64 (qac q (.slice A1 q.tasks.length c1) (.slice A2 q.smalls.length c2) (.slice A3 q.timers.length c3) a) := (Box.new w 64 (qac q (.slice A1 q.tasks.length c1) (.slice A2 q.smalls.length c2) (.slice A3 q.timers.length c3) a)).alloc (.cells #[.int .i64 0, .int .i64 0, .slice none 0 0, .slice none 0 0, .slice none 0 0] 26)
  have hl : Box ((w.alloc (.cells (qac q (.slice A1 q.tasks.length c1) (.slice A2 q.smalls.length c2) (.slice A3 q.timers.length c3) a) 64)).alloc (.cells #[.int .i64 0, .int .i64 0, .slice none 0 0, .slice none 0 0, .slice none 0 0] 26)) (w.heap.size + 1) 26 (#[.int .i64 0, .int .i64 0, .slice none 0 0, .slice none 0 0, .slice none 0 0]) := new2 w (.cells (qac q (.slice A1 q.tasks.length c1) (.slice A2 q.smalls.length c2) (.slice A3 q.timers.length c3) a) 64) 26 #[.int .i64 0, .int .i64 0, .slice none 0 0, .slice none 0 0, .slice none 0 0]
  have hU0 : Below w.heap.size w ((w.alloc (.cells (qac q (.slice A1 q.tasks.length c1) (.slice A2 q.smalls.length c2) (.slice A3 q.timers.length c3) a) 64)).alloc (.cells #[.int .i64 0, .int .i64 0, .slice none 0 0, .slice none 0 0, .slice none 0 0] 26)) := (below1 w _).alloc (by simp) _
  generalize ((w.alloc (.cells (qac q (.slice A1 q.tasks.length c1) (.slice A2 q.smalls.length c2) (.slice A3 q.timers.length c3) a) 64)).alloc (.cells #[.int .i64 0, .int .i64 0, .slice none 0 0, .slice none 0 0, .slice none 0 0] 26)) = W at *
  have hzW := hl.lt
  have a1 := hb.cell 1
  have a8 := hb.cell 8
  simp at a1 a8
  go_upto_region 3 with (refine wpList_store_box rfl 49 (.tmp 7) (.tmp 15) rfl W.heap.size (tc ⟨q.next, 0, 0, 0, a.call⟩) rfl rfl 49 _ (Box.new W _ _) info_timer rfl (tc_one _) ?_; intro w4 hx4 hu4 hz4; clear hz4)
  clear a1 a8
  have hb_ := Box.alloc hb (.cells #[.int .i64 0, .int .i64 0, .int .i64 0, .int .i64 0, .string ⟨#[]⟩] 49)
  clear hb
  have hb := hb_
  clear hb_
  have hl_ := Box.alloc hl (.cells #[.int .i64 0, .int .i64 0, .int .i64 0, .int .i64 0, .string ⟨#[]⟩] 49)
  clear hl
  have hl := hl_
  clear hl_
  have hb_ := Box.grown hb hu4 (by intro h; injection h with h; omega)
  clear hb
  have hb := hb_
  clear hb_
  have hl_ := Box.grown hl hu4 (by intro h; injection h with h; omega)
  clear hl
  have hl := hl_
  clear hl_
  have hU4 : Below w.heap.size w w4 := (hU0.alloc hU0.size _).trans (hu4.own (by omega) (by simp; omega))
  have hz4 := hx4.lt
  clear hu4 hU0
  have a7 := hb.cell 7
  have t2 := hx4.cell 2
  have ft2 := hx4.frozen 2
  simp at a7 t2
  go_wp2_with (fail)
  go_region
  clear a7 t2 ft2
  have hb_ := Box.drew hb
  clear hb
  have hb := hb_
  clear hb_
  have hl_ := Box.drew hl
  clear hl
  have hl := hl_
  clear hl_
  have hx4_ := Box.drew hx4
  clear hx4
  have hx4 := hx4_
  clear hx4_
  have hb_ := Box.far hb (p := ⟨W.heap.size, 2, none⟩) (by simp <;> omega) (.int .i64 a.n)
  clear hb
  have hb := hb_
  clear hb_
  have hl_ := Box.far hl (p := ⟨W.heap.size, 2, none⟩) (by simp <;> omega) (.int .i64 a.n)
  clear hl
  have hl := hl_
  clear hl_
  have hx4_ := Box.set hx4 2 (.int .i64 a.n)
  clear hx4
  have hx4 := hx4_
  clear hx4_
  have hU5 : Below w.heap.size w (w4.drew.setCell ⟨W.heap.size, 2, none⟩ (.int .i64 a.n)) := hU4.drew.setCell (by show _ ≤ W.heap.size; omega) _
  have hz5 : (w4.drew.setCell ⟨W.heap.size, 2, none⟩ (.int .i64 a.n)).heap.size = w4.heap.size := by simp
  change Exit.then _ _ .normal _ (w4.drew.setCell ⟨W.heap.size, 2, none⟩ (.int .i64 a.n))
  generalize (w4.drew.setCell ⟨W.heap.size, 2, none⟩ (.int .i64 a.n)) = w5_ at *
  change Box w5_ (W.heap.size) 49 (tc ⟨q.next, 0, a.n, 0, a.call⟩) at hx4
  have HZ5 := Lib.hid hz5
  have hz5' : W.heap.size < w5_.heap.size := hx4.lt
  clear hz5 hU4 hz4
  have hz4 := hz5'
  clear hz5'
  have a7 := hb.cell 7
  have a0 := hb.cell 0
  simp at a7 a0
  go_wp2_with (fail)
  refine (HWI.out _).mono ?_
  rintro e w5 ⟨rfl, rfl⟩
  go_upto_region 6 with (fail)
  go_wp2_with (first | (refine wpList_load_mid rfl 26 (.tmp 37) rfl (w.heap.size) 0 rfl (lag q (.slice A1 q.tasks.length c1) (.slice A2 q.smalls.length c2) (.slice A3 q.timers.length c3)).toList _ (asked_range hb) Try.underlying26 rfl info_loop ?_) | (refine wpList_store_box rfl 26 (.tmp 4) (.tmp 38) rfl (w.heap.size + 1) (lag q (.slice A1 q.tasks.length c1) (.slice A2 q.smalls.length c2) (.slice A3 q.timers.length c3)) rfl rfl 26 _ hl info_loop rfl hone ?_; intro w9 hx9 hu9 hz9; clear hz9))
  refine bodyPost_ret (results_btt rfl (Back.mk' (w.heap.size + 1) 26 _ rfl hx9 Try.underlying26 rfl info_loop)) rfl ?_
  have hB9 : Below w.heap.size w w9 := hU5.trans (Upd.own (B := w.heap.size) hu9 (by omega) hU5.size)
  exact ⟨_, _, _, by rw [HP.out]; rfl, by rw [HP.out]; exact HO.out.below hB9, Step.same hB9⟩

set_option maxRecDepth 100000 in
set_option maxHeartbeats 4000000 in
theorem every_late (q : Loopy.Loop) (a : Loopy.Ask) (B : Nat) (T S R : Value) (w : World) (ho : Own w B q T S R) (hB : B ≤ w.heap.size) (hr : Loopy.Right q) (hw : Valu.within a.n 1 1000000 = true) (hl_ : 1000000000 < q.now + a.n) :
    Calls Try.prog 40 #[.agg (qac q T S R a), .bool true] w fun e w' => AskOut w B T S R (Loopy.timer q a true) e w' := by
  have HP : Hid (Loopy.timer q a true = (q, 0, 1)) := by
    show Loopy.timer q a true = _
    unfold Loopy.timer Loopy.most
    simp only [if_true, if_false, Bool.false_eq_true]
    rw [if_neg (by rw [hw]; decide), if_pos hl_]
  obtain ⟨hnl, hnh⟩ := Valu.within_iff.1 hw
  have HWI := Lib.hid (fun w => within_is _ _ _ _ hw w)
  clear hw
  have hn0 := hr.nxt0
  have hn1 := hr.nxt1
  have hw0 := hr.now0
  have hw1 := hr.now1
  unfold Loopy.most at hn1 hw1
  have l3 := hr.l3
  have HSR := Lib.hid hr.srt
  obtain ⟨A1, c1, e1⟩ := own_slice ho.t
  obtain ⟨A2, c2, e2⟩ := own_slice ho.s
  obtain ⟨A3, c3, e3⟩ := own_slice ho.r
  subst e1 e2 e3
  have HO := Lib.hid ho
  have hml := Lib.hid (fun k (hm : mine (.slice A1 q.tasks.length c1) (.slice A2 q.smalls.length c2) (.slice A3 q.timers.length c3) k) => HO.out.mine_lt hm)
  have hone : (lag q (.slice A1 q.tasks.length c1) (.slice A2 q.smalls.length c2) (.slice A3 q.timers.length c3)).all (·.oneCell') = true := by simp [Value.oneCell']
  clear ho hr
  go_enter Try.func40, Try.ntmps40
  go_upto_region 1 with (fail)
  have hb : Box ((w.alloc (.cells (qac q (.slice A1 q.tasks.length c1) (.slice A2 q.smalls.length c2) (.slice A3 q.timers.length c3) a) 64)).alloc (.cells #[.int .i64 0, .int .i64 0, .slice none 0 0, .slice none 0 0, .slice none 0 0] 26)) (w.heap.size) 64 (qac q (.slice A1 q.tasks.length c1) (.slice A2 q.smalls.length c2) (.slice A3 q.timers.length c3) a) := (Box.new w 64 (qac q (.slice A1 q.tasks.length c1) (.slice A2 q.smalls.length c2) (.slice A3 q.timers.length c3) a)).alloc (.cells #[.int .i64 0, .int .i64 0, .slice none 0 0, .slice none 0 0, .slice none 0 0] 26)
  have hl : Box ((w.alloc (.cells (qac q (.slice A1 q.tasks.length c1) (.slice A2 q.smalls.length c2) (.slice A3 q.timers.length c3) a) 64)).alloc (.cells #[.int .i64 0, .int .i64 0, .slice none 0 0, .slice none 0 0, .slice none 0 0] 26)) (w.heap.size + 1) 26 (#[.int .i64 0, .int .i64 0, .slice none 0 0, .slice none 0 0, .slice none 0 0]) := new2 w (.cells (qac q (.slice A1 q.tasks.length c1) (.slice A2 q.smalls.length c2) (.slice A3 q.timers.length c3) a) 64) 26 #[.int .i64 0, .int .i64 0, .slice none 0 0, .slice none 0 0, .slice none 0 0]
  have hU0 : Below w.heap.size w ((w.alloc (.cells (qac q (.slice A1 q.tasks.length c1) (.slice A2 q.smalls.length c2) (.slice A3 q.timers.length c3) a) 64)).alloc (.cells #[.int .i64 0, .int .i64 0, .slice none 0 0, .slice none 0 0, .slice none 0 0] 26)) := (below1 w _).alloc (by simp) _
  generalize ((w.alloc (.cells (qac q (.slice A1 q.tasks.length c1) (.slice A2 q.smalls.length c2) (.slice A3 q.timers.length c3) a) 64)).alloc (.cells #[.int .i64 0, .int .i64 0, .slice none 0 0, .slice none 0 0, .slice none 0 0] 26)) = W at *
  have hzW := hl.lt
  have a1 := hb.cell 1
  have a8 := hb.cell 8
  simp at a1 a8
  go_upto_region 3 with (refine wpList_store_box rfl 49 (.tmp 7) (.tmp 15) rfl W.heap.size (tc ⟨q.next, 0, 0, 0, a.call⟩) rfl rfl 49 _ (Box.new W _ _) info_timer rfl (tc_one _) ?_; intro w4 hx4 hu4 hz4; clear hz4)
  clear a1 a8
  have hb_ := Box.alloc hb (.cells #[.int .i64 0, .int .i64 0, .int .i64 0, .int .i64 0, .string ⟨#[]⟩] 49)
  clear hb
  have hb := hb_
  clear hb_
  have hl_ := Box.alloc hl (.cells #[.int .i64 0, .int .i64 0, .int .i64 0, .int .i64 0, .string ⟨#[]⟩] 49)
  clear hl
  have hl := hl_
  clear hl_
  have hb_ := Box.grown hb hu4 (by intro h; injection h with h; omega)
  clear hb
  have hb := hb_
  clear hb_
  have hl_ := Box.grown hl hu4 (by intro h; injection h with h; omega)
  clear hl
  have hl := hl_
  clear hl_
  have hU4 : Below w.heap.size w w4 := (hU0.alloc hU0.size _).trans (hu4.own (by omega) (by simp; omega))
  have hz4 := hx4.lt
  clear hu4 hU0
  have a7 := hb.cell 7
  have t2 := hx4.cell 2
  have ft2 := hx4.frozen 2
  simp at a7 t2
  go_wp2_with (fail)
  go_region
  clear a7 t2 ft2
  have hb_ := Box.drew hb
  clear hb
  have hb := hb_
  clear hb_
  have hl_ := Box.drew hl
  clear hl
  have hl := hl_
  clear hl_
  have hx4_ := Box.drew hx4
  clear hx4
  have hx4 := hx4_
  clear hx4_
  have hb_ := Box.far hb (p := ⟨W.heap.size, 2, none⟩) (by simp <;> omega) (.int .i64 a.n)
  clear hb
  have hb := hb_
  clear hb_
  have hl_ := Box.far hl (p := ⟨W.heap.size, 2, none⟩) (by simp <;> omega) (.int .i64 a.n)
  clear hl
  have hl := hl_
  clear hl_
  have hx4_ := Box.set hx4 2 (.int .i64 a.n)
  clear hx4
  have hx4 := hx4_
  clear hx4_
  have hU5 : Below w.heap.size w (w4.drew.setCell ⟨W.heap.size, 2, none⟩ (.int .i64 a.n)) := hU4.drew.setCell (by show _ ≤ W.heap.size; omega) _
  have hz5 : (w4.drew.setCell ⟨W.heap.size, 2, none⟩ (.int .i64 a.n)).heap.size = w4.heap.size := by simp
  change Exit.then _ _ .normal _ (w4.drew.setCell ⟨W.heap.size, 2, none⟩ (.int .i64 a.n))
  generalize (w4.drew.setCell ⟨W.heap.size, 2, none⟩ (.int .i64 a.n)) = w5_ at *
  change Box w5_ (W.heap.size) 49 (tc ⟨q.next, 0, a.n, 0, a.call⟩) at hx4
  have HZ5 := Lib.hid hz5
  have hz5' : W.heap.size < w5_.heap.size := hx4.lt
  clear hz5 hU4 hz4
  have hz4 := hz5'
  clear hz5'
  have a7 := hb.cell 7
  have a0 := hb.cell 0
  simp at a7 a0
  go_wp2_with (fail)
  refine (HWI.out _).mono ?_
  rintro e w5 ⟨rfl, rfl⟩
  go_upto_region 6 with (fail)
  go_wp2_with (first | (refine wpList_load_mid rfl 26 (.tmp 37) rfl (w.heap.size) 0 rfl (lag q (.slice A1 q.tasks.length c1) (.slice A2 q.smalls.length c2) (.slice A3 q.timers.length c3)).toList _ (asked_range hb) Try.underlying26 rfl info_loop ?_) | (refine wpList_store_box rfl 26 (.tmp 4) (.tmp 38) rfl (w.heap.size + 1) (lag q (.slice A1 q.tasks.length c1) (.slice A2 q.smalls.length c2) (.slice A3 q.timers.length c3)) rfl rfl 26 _ hl info_loop rfl hone ?_; intro w9 hx9 hu9 hz9; clear hz9))
  refine bodyPost_ret (results_btt rfl (Back.mk' (w.heap.size + 1) 26 _ rfl hx9 Try.underlying26 rfl info_loop)) rfl ?_
  have hB9 : Below w.heap.size w w9 := hU5.trans (Upd.own (B := w.heap.size) hu9 (by omega) hU5.size)
  exact ⟨_, _, _, by rw [HP.out]; rfl, by rw [HP.out]; exact HO.out.below hB9, Step.same hB9⟩

set_option maxRecDepth 100000 in
set_option maxHeartbeats 4000000 in
theorem every_full (q : Loopy.Loop) (a : Loopy.Ask) (B : Nat) (T S R : Value) (w : World) (ho : Own w B q T S R) (hB : B ≤ w.heap.size) (hr : Loopy.Right q) (hw : Valu.within a.n 1 1000000 = true) (hl_ : ¬ 1000000000 < q.now + a.n) (hf : Loopy.full q.timers.length q = true) :
    Calls Try.prog 40 #[.agg (qac q T S R a), .bool true] w fun e w' => AskOut w B T S R (Loopy.timer q a true) e w' := by
  have HP : Hid (Loopy.timer q a true = (q, 0, 2)) := by
    show Loopy.timer q a true = _
    unfold Loopy.timer Loopy.most
    simp only [if_true, if_false, Bool.false_eq_true]
    rw [if_neg (by rw [hw]; decide), if_neg hl_, if_pos hf]
  have HF : Hid (∀ w T S R, Calls Try.prog 47 #[.agg (qac q T S R a), .int .i64 (q.timers.length : Int)] w fun e w' => e = .returned (.bool true) ∧ Below w.heap.size w w') := fun w T S R => by
    have := full_any q.timers.length q T S R a w
    rw [hf] at this
    exact this
  clear hf
  obtain ⟨hnl, hnh⟩ := Valu.within_iff.1 hw
  have HWI := Lib.hid (fun w => within_is _ _ _ _ hw w)
  clear hw
  have hn0 := hr.nxt0
  have hn1 := hr.nxt1
  have hw0 := hr.now0
  have hw1 := hr.now1
  unfold Loopy.most at hn1 hw1
  have l3 := hr.l3
  have HSR := Lib.hid hr.srt
  obtain ⟨A1, c1, e1⟩ := own_slice ho.t
  obtain ⟨A2, c2, e2⟩ := own_slice ho.s
  obtain ⟨A3, c3, e3⟩ := own_slice ho.r
  subst e1 e2 e3
  have HO := Lib.hid ho
  have hml := Lib.hid (fun k (hm : mine (.slice A1 q.tasks.length c1) (.slice A2 q.smalls.length c2) (.slice A3 q.timers.length c3) k) => HO.out.mine_lt hm)
  have hone : (lag q (.slice A1 q.tasks.length c1) (.slice A2 q.smalls.length c2) (.slice A3 q.timers.length c3)).all (·.oneCell') = true := by simp [Value.oneCell']
  clear ho hr
  go_enter Try.func40, Try.ntmps40
  go_upto_region 1 with (fail)
  have hb : Box ((w.alloc (.cells (qac q (.slice A1 q.tasks.length c1) (.slice A2 q.smalls.length c2) (.slice A3 q.timers.length c3) a) 64)).alloc (.cells #[.int .i64 0, .int .i64 0, .slice none 0 0, .slice none 0 0, .slice none 0 0] 26)) (w.heap.size) 64 (qac q (.slice A1 q.tasks.length c1) (.slice A2 q.smalls.length c2) (.slice A3 q.timers.length c3) a) := (Box.new w 64 (qac q (.slice A1 q.tasks.length c1) (.slice A2 q.smalls.length c2) (.slice A3 q.timers.length c3) a)).alloc (.cells #[.int .i64 0, .int .i64 0, .slice none 0 0, .slice none 0 0, .slice none 0 0] 26)
  have hl : Box ((w.alloc (.cells (qac q (.slice A1 q.tasks.length c1) (.slice A2 q.smalls.length c2) (.slice A3 q.timers.length c3) a) 64)).alloc (.cells #[.int .i64 0, .int .i64 0, .slice none 0 0, .slice none 0 0, .slice none 0 0] 26)) (w.heap.size + 1) 26 (#[.int .i64 0, .int .i64 0, .slice none 0 0, .slice none 0 0, .slice none 0 0]) := new2 w (.cells (qac q (.slice A1 q.tasks.length c1) (.slice A2 q.smalls.length c2) (.slice A3 q.timers.length c3) a) 64) 26 #[.int .i64 0, .int .i64 0, .slice none 0 0, .slice none 0 0, .slice none 0 0]
  have hU0 : Below w.heap.size w ((w.alloc (.cells (qac q (.slice A1 q.tasks.length c1) (.slice A2 q.smalls.length c2) (.slice A3 q.timers.length c3) a) 64)).alloc (.cells #[.int .i64 0, .int .i64 0, .slice none 0 0, .slice none 0 0, .slice none 0 0] 26)) := (below1 w _).alloc (by simp) _
  generalize ((w.alloc (.cells (qac q (.slice A1 q.tasks.length c1) (.slice A2 q.smalls.length c2) (.slice A3 q.timers.length c3) a) 64)).alloc (.cells #[.int .i64 0, .int .i64 0, .slice none 0 0, .slice none 0 0, .slice none 0 0] 26)) = W at *
  have hzW := hl.lt
  have a1 := hb.cell 1
  have a8 := hb.cell 8
  simp at a1 a8
  go_upto_region 3 with (refine wpList_store_box rfl 49 (.tmp 7) (.tmp 15) rfl W.heap.size (tc ⟨q.next, 0, 0, 0, a.call⟩) rfl rfl 49 _ (Box.new W _ _) info_timer rfl (tc_one _) ?_; intro w4 hx4 hu4 hz4; clear hz4)
  clear a1 a8
  have hb_ := Box.alloc hb (.cells #[.int .i64 0, .int .i64 0, .int .i64 0, .int .i64 0, .string ⟨#[]⟩] 49)
  clear hb
  have hb := hb_
  clear hb_
  have hl_ := Box.alloc hl (.cells #[.int .i64 0, .int .i64 0, .int .i64 0, .int .i64 0, .string ⟨#[]⟩] 49)
  clear hl
  have hl := hl_
  clear hl_
  have hb_ := Box.grown hb hu4 (by intro h; injection h with h; omega)
  clear hb
  have hb := hb_
  clear hb_
  have hl_ := Box.grown hl hu4 (by intro h; injection h with h; omega)
  clear hl
  have hl := hl_
  clear hl_
  have hU4 : Below w.heap.size w w4 := (hU0.alloc hU0.size _).trans (hu4.own (by omega) (by simp; omega))
  have hz4 := hx4.lt
  clear hu4 hU0
  have a7 := hb.cell 7
  have t2 := hx4.cell 2
  have ft2 := hx4.frozen 2
  simp at a7 t2
  go_wp2_with (fail)
  go_region
  clear a7 t2 ft2
  have hb_ := Box.drew hb
  clear hb
  have hb := hb_
  clear hb_
  have hl_ := Box.drew hl
  clear hl
  have hl := hl_
  clear hl_
  have hx4_ := Box.drew hx4
  clear hx4
  have hx4 := hx4_
  clear hx4_
  have hb_ := Box.far hb (p := ⟨W.heap.size, 2, none⟩) (by simp <;> omega) (.int .i64 a.n)
  clear hb
  have hb := hb_
  clear hb_
  have hl_ := Box.far hl (p := ⟨W.heap.size, 2, none⟩) (by simp <;> omega) (.int .i64 a.n)
  clear hl
  have hl := hl_
  clear hl_
  have hx4_ := Box.set hx4 2 (.int .i64 a.n)
  clear hx4
  have hx4 := hx4_
  clear hx4_
  have hU5 : Below w.heap.size w (w4.drew.setCell ⟨W.heap.size, 2, none⟩ (.int .i64 a.n)) := hU4.drew.setCell (by show _ ≤ W.heap.size; omega) _
  have hz5 : (w4.drew.setCell ⟨W.heap.size, 2, none⟩ (.int .i64 a.n)).heap.size = w4.heap.size := by simp
  change Exit.then _ _ .normal _ (w4.drew.setCell ⟨W.heap.size, 2, none⟩ (.int .i64 a.n))
  generalize (w4.drew.setCell ⟨W.heap.size, 2, none⟩ (.int .i64 a.n)) = w5_ at *
  change Box w5_ (W.heap.size) 49 (tc ⟨q.next, 0, a.n, 0, a.call⟩) at hx4
  have HZ5 := Lib.hid hz5
  have hz5' : W.heap.size < w5_.heap.size := hx4.lt
  clear hz5 hU4 hz4
  have hz4 := hz5'
  clear hz5'
  have a7 := hb.cell 7
  have a0 := hb.cell 0
  simp at a7 a0
  go_wp2_with (fail)
  refine (HWI.out _).mono ?_
  rintro e w5 ⟨rfl, rfl⟩
  have a4 := hb.cell 4
  simp at a4
  go_wp2_with (refine wpList_load_row rfl 64 (.tmp 2) rfl (w.heap.size) rfl _ (qac q (.slice A1 q.tasks.length c1) (.slice A2 q.smalls.length c2) (.slice A3 q.timers.length c3) a) (0, 0) _ hb Try.underlying64 rfl info_asked ?_)
  refine (HF.out _ _ _ _).mono ?_
  rintro e w7 ⟨rfl, hb7⟩
  clear a4 a7 a0
  have hb_ := Box.below hb hb7 hb.lt
  clear hb
  have hb := hb_
  clear hb_
  have hl_ := Box.below hl hb7 hl.lt
  clear hl
  have hl := hl_
  clear hl_
  have hx4_ := Box.below hx4 hb7 hx4.lt
  clear hx4
  have hx4 := hx4_
  clear hx4_
  have hU7 : Below w.heap.size w w7 := hU5.trans (hb7.mono hU5.size)
  have hz7 : w5_.heap.size ≤ w7.heap.size := hb7.size
  clear hb7 hU5
  go_wp2_with (first | (refine wpList_load_mid rfl 26 (.tmp 45) rfl (w.heap.size) 0 rfl (lag q (.slice A1 q.tasks.length c1) (.slice A2 q.smalls.length c2) (.slice A3 q.timers.length c3)).toList _ (asked_range hb) Try.underlying26 rfl info_loop ?_) | (refine wpList_store_box rfl 26 (.tmp 4) (.tmp 46) rfl (w.heap.size + 1) (lag q (.slice A1 q.tasks.length c1) (.slice A2 q.smalls.length c2) (.slice A3 q.timers.length c3)) rfl rfl 26 _ hl info_loop rfl hone ?_; intro w9 hx9 hu9 hz9; clear hz9))
  refine bodyPost_ret (results_btt rfl (Back.mk' (w.heap.size + 1) 26 _ rfl hx9 Try.underlying26 rfl info_loop)) rfl ?_
  have hB9 : Below w.heap.size w w9 := hU7.trans (Upd.own (B := w.heap.size) hu9 (by omega) hU7.size)
  exact ⟨_, _, _, by rw [HP.out]; rfl, by rw [HP.out]; exact HO.out.below hB9, Step.same hB9⟩

end Go.Proofs.Ytpjbblbehbepbaa
