/-
  What comes next. Conditions: the loop's rows are its own; the loop is right.
-/
import Derived.Test.YtpjbblbehbepbaaLpO
namespace Go.Proofs.Ytpjbblbehbepbaa
set_option linter.unusedSimpArgs false
set_option linter.unusedVariables false
open Go.RowKit

set_option maxRecDepth 100000 in
set_option maxHeartbeats 4000000 in
theorem next_fire_a (now nxt til : Int) (t : Loopy.Timer) (r : List Loopy.Timer)(tasks : List Loopy.Job) (B : Nat) (T S R : Value) (w : World) (ho : Own w B ⟨now, nxt, tasks, [], t :: r⟩ T S R) (hB : B ≤ w.heap.size) (l1 : (⟨now, nxt, tasks, [], t :: r⟩ : Loopy.Loop).tasks.length ≤ 1000) (l2 : (⟨now, nxt, tasks, [], t :: r⟩ : Loopy.Loop).smalls.length ≤ 1000) (l3 : (⟨now, nxt, tasks, [], t :: r⟩ : Loopy.Loop).timers.length ≤ 1000) (h1 : t.due ≤ now) (hr : Loopy.Right ⟨now, nxt, tasks, [], t :: r⟩) :
    Calls Try.prog 25 #[.agg (lag ⟨now, nxt, tasks, [], t :: r⟩ T S R), .int .i64 til] w fun e w' => NextOut w B T S R (Loopy.next ⟨now, nxt, tasks, [], t :: r⟩ til) e w' := by
  have h4 : decide (t.due ≤ now) = true := by simpa using h1
  have HNX : Hid (Loopy.next ⟨now, nxt, tasks, [], t :: r⟩ til = (((Loopy.fire ⟨now, nxt, tasks, [], t :: r⟩ t r).1, some (Loopy.fire ⟨now, nxt, tasks, [], t :: r⟩ t r).2) : Loopy.Loop × Option Loopy.Job)) := by
      show Loopy.next _ _ = _
      unfold Loopy.next
      simp only
      rw [if_pos (.inl h1)]
  have HO := Lib.hid ho
  obtain ⟨A1, c1, e1⟩ := own_slice ho.t
  subst e1
  obtain ⟨A2, c2, e2⟩ := own_slice ho.s
  subst e2
  obtain ⟨g3, c3, RR3, e3, hg3, hbox3, hc3, hd3, hs3⟩ := own_box ho.r (by simp)
  subst e3
  have hgl3 := hbox3.lt
  clear hs3 hc3
  have hd0 : w.cell? ⟨g3, 1, none⟩ = some (.int .i64 t.due) := by
    rw [hbox3.cell, List.getElem?_toArray, flat_cons, List.append_assoc, List.getElem?_append_left (by simp)]
    rfl
  have hl1 := l1
  have hl2 := l2
  have hl3 := l3
  simp only [List.length_cons, List.length_nil] at hl1 hl2 hl3
  clear ho l1 l2 l3
  go_enter Try.func25, Try.ntmps25
  go_upto_region 1 with (fail)
  have hq : Box (((w.alloc (.cells (lag ⟨now, nxt, tasks, [], t :: r⟩ (.slice A1 tasks.length c1) (.slice A2 0 c2) (.slice (some ⟨g3, 0, none⟩) (r.length + 1) c3)) 26)).alloc (.cells #[.int .i64 0, .int .i64 0, .slice none 0 0, .slice none 0 0, .slice none 0 0] 26)).alloc (.cells #[.int .i64 0, .int .i64 0, .bool false, .string ⟨#[]⟩, .int .i64 0, .int .i64 0, .string ⟨#[]⟩] 39)) (w.heap.size) 26 (lag ⟨now, nxt, tasks, [], t :: r⟩ (.slice A1 tasks.length c1) (.slice A2 0 c2) (.slice (some ⟨g3, 0, none⟩) (r.length + 1) c3)) := (((Box.new w 26 (lag ⟨now, nxt, tasks, [], t :: r⟩ (.slice A1 tasks.length c1) (.slice A2 0 c2) (.slice (some ⟨g3, 0, none⟩) (r.length + 1) c3))).alloc (.cells #[.int .i64 0, .int .i64 0, .slice none 0 0, .slice none 0 0, .slice none 0 0] 26)).alloc (.cells #[.int .i64 0, .int .i64 0, .bool false, .string ⟨#[]⟩, .int .i64 0, .int .i64 0, .string ⟨#[]⟩] 39))
  have hl : Box (((w.alloc (.cells (lag ⟨now, nxt, tasks, [], t :: r⟩ (.slice A1 tasks.length c1) (.slice A2 0 c2) (.slice (some ⟨g3, 0, none⟩) (r.length + 1) c3)) 26)).alloc (.cells #[.int .i64 0, .int .i64 0, .slice none 0 0, .slice none 0 0, .slice none 0 0] 26)).alloc (.cells #[.int .i64 0, .int .i64 0, .bool false, .string ⟨#[]⟩, .int .i64 0, .int .i64 0, .string ⟨#[]⟩] 39)) (w.heap.size + 1) 26 (#[.int .i64 0, .int .i64 0, .slice none 0 0, .slice none 0 0, .slice none 0 0]) := (new2 w (.cells (lag ⟨now, nxt, tasks, [], t :: r⟩ (.slice A1 tasks.length c1) (.slice A2 0 c2) (.slice (some ⟨g3, 0, none⟩) (r.length + 1) c3)) 26) 26 #[.int .i64 0, .int .i64 0, .slice none 0 0, .slice none 0 0, .slice none 0 0]).alloc (.cells #[.int .i64 0, .int .i64 0, .bool false, .string ⟨#[]⟩, .int .i64 0, .int .i64 0, .string ⟨#[]⟩] 39)
  have hj : Box (((w.alloc (.cells (lag ⟨now, nxt, tasks, [], t :: r⟩ (.slice A1 tasks.length c1) (.slice A2 0 c2) (.slice (some ⟨g3, 0, none⟩) (r.length + 1) c3)) 26)).alloc (.cells #[.int .i64 0, .int .i64 0, .slice none 0 0, .slice none 0 0, .slice none 0 0] 26)).alloc (.cells #[.int .i64 0, .int .i64 0, .bool false, .string ⟨#[]⟩, .int .i64 0, .int .i64 0, .string ⟨#[]⟩] 39)) (w.heap.size + 1 + 1) 39 (#[.int .i64 0, .int .i64 0, .bool false, .string ⟨#[]⟩, .int .i64 0, .int .i64 0, .string ⟨#[]⟩]) := new3 w (.cells (lag ⟨now, nxt, tasks, [], t :: r⟩ (.slice A1 tasks.length c1) (.slice A2 0 c2) (.slice (some ⟨g3, 0, none⟩) (r.length + 1) c3)) 26) (.cells #[.int .i64 0, .int .i64 0, .slice none 0 0, .slice none 0 0, .slice none 0 0] 26) 39 #[.int .i64 0, .int .i64 0, .bool false, .string ⟨#[]⟩, .int .i64 0, .int .i64 0, .string ⟨#[]⟩]
  have hU0 : Below w.heap.size w (((w.alloc (.cells (lag ⟨now, nxt, tasks, [], t :: r⟩ (.slice A1 tasks.length c1) (.slice A2 0 c2) (.slice (some ⟨g3, 0, none⟩) (r.length + 1) c3)) 26)).alloc (.cells #[.int .i64 0, .int .i64 0, .slice none 0 0, .slice none 0 0, .slice none 0 0] 26)).alloc (.cells #[.int .i64 0, .int .i64 0, .bool false, .string ⟨#[]⟩, .int .i64 0, .int .i64 0, .string ⟨#[]⟩] 39)) := ((below1 w _).alloc (by simp) _).alloc (by simp <;> omega) _
  have hd1 : (((w.alloc (.cells (lag ⟨now, nxt, tasks, [], t :: r⟩ (.slice A1 tasks.length c1) (.slice A2 0 c2) (.slice (some ⟨g3, 0, none⟩) (r.length + 1) c3)) 26)).alloc (.cells #[.int .i64 0, .int .i64 0, .slice none 0 0, .slice none 0 0, .slice none 0 0] 26)).alloc (.cells #[.int .i64 0, .int .i64 0, .bool false, .string ⟨#[]⟩, .int .i64 0, .int .i64 0, .string ⟨#[]⟩] 39)).cell? ⟨g3, 1, none⟩ = some (.int .i64 t.due) := (hU0.cell (p := ⟨g3, 1, none⟩) hgl3).trans hd0
  clear hd0
  generalize (((w.alloc (.cells (lag ⟨now, nxt, tasks, [], t :: r⟩ (.slice A1 tasks.length c1) (.slice A2 0 c2) (.slice (some ⟨g3, 0, none⟩) (r.length + 1) c3)) 26)).alloc (.cells #[.int .i64 0, .int .i64 0, .slice none 0 0, .slice none 0 0, .slice none 0 0] 26)).alloc (.cells #[.int .i64 0, .int .i64 0, .bool false, .string ⟨#[]⟩, .int .i64 0, .int .i64 0, .string ⟨#[]⟩] 39)) = W at *
  have hzW := hj.lt
  have q0 := hq.cell 0
  have q2 := hq.cell 2
  have q3 := hq.cell 3
  have q4 := hq.cell 4
  simp at q0 q2 q3 q4
  go_quiet (fail)
  clear q0 q2 q3 q4
  clear hd1
  rename_i nq
  have hq_ := Box.drewN hq nq
  clear hq
  have hq := hq_
  clear hq_
  have hl_ := Box.drewN hl nq
  clear hl
  have hl := hl_
  clear hl_
  have hj_ := Box.drewN hj nq
  clear hj
  have hj := hj_
  clear hj_
  have hUV : Below w.heap.size w (W.drewN nq) := below_drewN hU0 nq
  have hzV : w.heap.size + 1 + 1 < (W.drewN nq).heap.size := hj.lt
  generalize W.drewN nq = V at *
  clear hU0 hzW
  have hO := Lib.hid (HO.out.below hUV)
  have hml := Lib.hid (fun k (hm : mine (.slice A1 tasks.length c1) (.slice A2 0 c2) (.slice (some ⟨g3, 0, none⟩) (r.length + 1) c3) k) => HO.out.mine_lt hm)
  have q3 := hq.cell 3
  simp at q3
  go_wp2_with (refine wpList_load_row rfl 26 (.tmp 2) rfl (w.heap.size) rfl _ (lag ⟨now, nxt, tasks, [], t :: r⟩ (.slice A1 tasks.length c1) (.slice A2 0 c2) (.slice (some ⟨g3, 0, none⟩) (r.length + 1) c3)) (0, 0) _ hq Try.underlying26 rfl info_loop ?_)
  refine (fire_any ⟨now, nxt, tasks, [], t :: r⟩ t r rfl B _ _ _ V hO.out (by have := hUV.size; omega) (by simp; omega) hr).mono ?_
  rintro e w5 ⟨T5, S5, R5, rfl, hO5, hS5⟩
  clear q3
  obtain ⟨q5, hq5⟩ : ∃ q5, (Loopy.fire ⟨now, nxt, tasks, [], t :: r⟩ t r).1 = q5 := ⟨_, rfl⟩
  obtain ⟨j5, hj5⟩ : ∃ j5, (Loopy.fire ⟨now, nxt, tasks, [], t :: r⟩ t r).2 = j5 := ⟨_, rfl⟩
  rw [hq5] at hO5
  rw [hq5, hj5]
  have HQ5 := Lib.hid hq5
  have HJ5 := Lib.hid hj5
  clear hq5 hj5
  have HO5 := Lib.hid hO5
  have HS5 := Lib.hid hS5
  have hone := hO5.one
  have hlV := hS5.size
  have hl5 := hS5.box hl (fun hm => by have := hml.out _ hm; omega)
  have hj5 := hS5.box hj (fun hm => by have := hml.out _ hm; omega)
  clear hl hj hO5 hS5 hq
  go_upto_region 8 with (first | (refine wpList_store_box rfl 26 (.tmp 9) (.tmp 61) rfl w5.heap.size (lag q5 T5 S5 R5) rfl rfl 26 _ ((Box.new w5 _ _).alloc _) info_loop rfl hone ?_; intro w6 hx6 hu6 hz6; have hn6 := Box.grown (new2 w5 (.cells #[.int .i64 0, .int .i64 0, .slice none 0 0, .slice none 0 0, .slice none 0 0] 26) 39 #[.int .i64 0, .int .i64 0, .bool false, .string ⟨#[]⟩, .int .i64 0, .int .i64 0, .string ⟨#[]⟩]) hu6 (by intro h; injection h with h; omega); clear hz6) | (refine wpList_store_box rfl 39 (.tmp 10) (.tmp 62) rfl (w5.heap.size + 1) (jc j5) rfl rfl 39 _ hn6 info_job rfl (jc_one j5) ?_; intro w7 hx7 hu7 hz7; clear hz7))
  have hx6' := Box.grown hx6 hu7 (by intro h; injection h with h; omega)
  have hU7 : Below w5.heap.size w5 w7 := (((Below.refl _ w5).alloc (Nat.le_refl _) _).alloc (by simp) _).trans ((hu6.own (Nat.le_refl _) (by simp; omega)).trans (hu7.own (by omega) (by have := hu6.size; simp at this; omega)))
  have hl := hl5.below hU7 hl5.lt
  have hj := hj5.below hU7 hj5.lt
  have hz7 := hU7.size
  have hzj := hj5.lt
  clear hl5 hj5 hx6 hn6 hu6 hu7
  refine wp_region_held_drew (S := fun w' => Box w' (w5.heap.size) 26 (lag q5 T5 S5 R5) ∧ Box w' (w5.heap.size + 1) 39 (jc j5)) (by kernel_rfl) ⟨hx6', hx7⟩ (fun hHeld => ?_)
  refine wpAnyH_take (i := 0) (v := _) rfl (by kernel_rfl) (by kernel_rfl) (by kernel_rfl) (fun _ _ _ h => h) (yields_load_box (by kernel_rfl) 26 (.tmp 9) rfl (w5.heap.size) 26 (lag q5 T5 S5 R5) _ rfl (fun _ h => h.1) Try.underlying26 rfl info_loop) (by assumption) ?_
  (try simp only [Act.put, List.getElem_toArray, List.getElem_cons_succ, List.getElem_cons_zero, List.setIfInBounds_toArray, List.set_cons_zero, List.set_cons_succ])
  refine wpAnyH_take (i := 1) (v := _) rfl (by kernel_rfl) (by kernel_rfl) (by kernel_rfl) (fun _ _ _ h => h) (yields_load_box (by kernel_rfl) 39 (.tmp 10) rfl (w5.heap.size + 1) 39 (jc j5) _ rfl (fun _ h => h.2) Try.underlying39 rfl info_job) (by assumption) ?_
  (try simp only [Act.put, List.getElem_toArray, List.getElem_cons_succ, List.getElem_cons_zero, List.setIfInBounds_toArray, List.set_cons_zero, List.set_cons_succ])
  refine wpAnyH_ready (rs := [2]) (by kernel_rfl) (by simp) ?_
  refine AllReadyH.cons rfl (fun K hK => ?_) AllReadyH.nil
  refine step_store_box rfl 26 (.tmp 4) (.tmp 63) rfl (w.heap.size + 1) (lag q5 T5 S5 R5) rfl rfl 26 _ (Box.drew hl) info_loop rfl hone ?_; intro w9 hx9 hu9 hz9
  refine hK.out _ _ ⟨Box.grown (Box.drew hx6') hu9 (by intro h; injection h with h; omega), Box.grown (Box.drew hx7) hu9 (by intro h; injection h with h; omega)⟩ (fun hHeld => ?_)
  clear hK K
  (try simp only [Act.put, List.getElem_toArray, List.getElem_cons_succ, List.getElem_cons_zero, List.setIfInBounds_toArray, List.set_cons_zero, List.set_cons_succ])
  refine wpAnyH_ready (rs := [3]) (by kernel_rfl) (by simp) ?_
  refine AllReadyH.cons rfl (fun K hK => ?_) AllReadyH.nil
  refine step_store_box rfl 39 (.tmp 5) (.tmp 64) rfl (w.heap.size + 1 + 1) (jc j5) rfl rfl 39 _ (Box.grown (Box.drew hj) hu9 (by intro h; injection h with h; omega)) info_job rfl (jc_one _) ?_; intro w10 hx10 hu10 hz10
  refine hK.out _ _ ⟨Box.grown (Box.grown (Box.drew hx6') hu9 (by intro h; injection h with h; omega)) hu10 (by intro h; injection h with h; omega), Box.grown (Box.grown (Box.drew hx7) hu9 (by intro h; injection h with h; omega)) hu10 (by intro h; injection h with h; omega)⟩ (fun hHeld => ?_)
  clear hK K
  (try simp only [Act.put, List.getElem_toArray, List.getElem_cons_succ, List.getElem_cons_zero, List.setIfInBounds_toArray, List.set_cons_zero, List.set_cons_succ])
  refine wpAnyH_take (i := 4) (v := ?tv8) rfl (by kernel_rfl) (by kernel_rfl) (by kernel_rfl) (fun _ _ _ h => h) (Or.inl ⟨by kernel_rfl, ?ty8⟩) (by assumption) ?tr8
  case ty8 =>
    intro w hSw
    (try dsimp only at hSw)
    go_simp
    try (with_reducible rfl)
  (try simp only [Act.put, List.getElem_toArray, List.getElem_cons_succ, List.getElem_cons_zero, List.setIfInBounds_toArray, List.set_cons_zero, List.set_cons_succ])
  refine wpAnyH_done (by kernel_rfl) ?_ _
  go_wp2
  refine bodyPost_ret (results_bbt rfl (Back.mk' (w.heap.size + 1) 26 _ rfl (Box.grown hx9 hu10 (by intro h; injection h with h; omega)) Try.underlying26 rfl info_loop) (Back.mk' (w.heap.size + 1 + 1) 39 _ rfl hx10 Try.underlying39 rfl info_job)) rfl ?_
  have hS1 : Step V w7 (.slice A1 tasks.length c1) (.slice A2 0 c2) (.slice (some ⟨g3, 0, none⟩) (r.length + 1) c3) T5 S5 R5 := HS5.out.trans (Step.of_below hU7 (fun k h => .inl h))
  have hnm : ∀ k, w.heap.size ≤ k → k < V.heap.size → ¬ mine T5 S5 R5 k := fun k h1 h2 hm => by
    rcases HS5.out.fresh k hm with a | a
    · have := hml.out k a; omega
    · omega
  have hO7 : Own w7.drew B q5 T5 S5 R5 := by
    have h := HO5.out.below hU7
    exact ⟨h.t, h.s, h.r, h.ts, h.tr, h.sr⟩
  have hO9 := hO7.past (g := w.heap.size + 1) hu9 (hnm _ (by omega) (by omega))
  have hO10 := hO9.past (g := w.heap.size + 1 + 1) hu10 (hnm _ (by omega) (by omega))
  have hs := hS1.size
  refine ⟨_, _, _, by rw [HNX.out, HQ5.out, HJ5.out]; rfl, by rw [HNX.out, HQ5.out]; exact hO10, ?_⟩
  exact ⟨hu10.os.trans (hu9.os.trans (hS1.os.trans hUV.os)), hu10.tape.trans (hu9.tape.trans (hS1.tape.trans hUV.tape)), hu10.output.trans (hu9.output.trans (hS1.output.trans hUV.output)), Nat.le_trans hUV.size (Nat.le_trans hs (Nat.le_trans hu9.size hu10.size)),
    fun k hk hn => (hu10.block k (by have := hUV.size; have : w7.drew.heap.size ≤ w9.heap.size := hu9.size; have e : w7.drew.heap.size = w7.heap.size := rfl; omega) (by simp; omega)).trans ((hu9.block k (by have := hUV.size; show k < w7.heap.size; omega) (by simp; omega)).trans ((hS1.block k (by have := hUV.size; omega) hn).trans (hUV.block k hk))),
    fun k hm => (hS1.fresh k hm).imp id (fun h => by have := hUV.size; omega)⟩

set_option maxRecDepth 100000 in
set_option maxHeartbeats 4000000 in
theorem next_fire_b (now nxt til : Int) (t : Loopy.Timer) (r : List Loopy.Timer) (B : Nat) (T S R : Value) (w : World) (ho : Own w B ⟨now, nxt, [], [], t :: r⟩ T S R) (hB : B ≤ w.heap.size) (l1 : (⟨now, nxt, [], [], t :: r⟩ : Loopy.Loop).tasks.length ≤ 1000) (l2 : (⟨now, nxt, [], [], t :: r⟩ : Loopy.Loop).smalls.length ≤ 1000) (l3 : (⟨now, nxt, [], [], t :: r⟩ : Loopy.Loop).timers.length ≤ 1000) (h1 : now < t.due) (h2 : t.due ≤ til) (hr : Loopy.Right ⟨now, nxt, [], [], t :: r⟩) :
    Calls Try.prog 25 #[.agg (lag ⟨now, nxt, [], [], t :: r⟩ T S R), .int .i64 til] w fun e w' => NextOut w B T S R (Loopy.next ⟨now, nxt, [], [], t :: r⟩ til) e w' := by
  have h3 : ¬ t.due ≤ now := by omega
  have h4 : decide (t.due ≤ now) = false := by simpa using h3
  have h6 : decide (t.due ≤ til) = true := by simpa using h2
  have HNX : Hid (Loopy.next ⟨now, nxt, [], [], t :: r⟩ til = (((Loopy.fire ⟨now, nxt, [], [], t :: r⟩ t r).1, some (Loopy.fire ⟨now, nxt, [], [], t :: r⟩ t r).2) : Loopy.Loop × Option Loopy.Job)) := by
      show Loopy.next _ _ = _
      unfold Loopy.next
      simp only
      rw [if_pos (by simp; omega)]
  have HO := Lib.hid ho
  obtain ⟨A1, c1, e1⟩ := own_slice ho.t
  subst e1
  obtain ⟨A2, c2, e2⟩ := own_slice ho.s
  subst e2
  obtain ⟨g3, c3, RR3, e3, hg3, hbox3, hc3, hd3, hs3⟩ := own_box ho.r (by simp)
  subst e3
  have hgl3 := hbox3.lt
  clear hs3 hc3
  have hd0 : w.cell? ⟨g3, 1, none⟩ = some (.int .i64 t.due) := by
    rw [hbox3.cell, List.getElem?_toArray, flat_cons, List.append_assoc, List.getElem?_append_left (by simp)]
    rfl
  have hl1 := l1
  have hl2 := l2
  have hl3 := l3
  simp only [List.length_cons, List.length_nil] at hl1 hl2 hl3
  clear ho l1 l2 l3
  go_enter Try.func25, Try.ntmps25
  go_upto_region 1 with (fail)
  have hq : Box (((w.alloc (.cells (lag ⟨now, nxt, [], [], t :: r⟩ (.slice A1 0 c1) (.slice A2 0 c2) (.slice (some ⟨g3, 0, none⟩) (r.length + 1) c3)) 26)).alloc (.cells #[.int .i64 0, .int .i64 0, .slice none 0 0, .slice none 0 0, .slice none 0 0] 26)).alloc (.cells #[.int .i64 0, .int .i64 0, .bool false, .string ⟨#[]⟩, .int .i64 0, .int .i64 0, .string ⟨#[]⟩] 39)) (w.heap.size) 26 (lag ⟨now, nxt, [], [], t :: r⟩ (.slice A1 0 c1) (.slice A2 0 c2) (.slice (some ⟨g3, 0, none⟩) (r.length + 1) c3)) := (((Box.new w 26 (lag ⟨now, nxt, [], [], t :: r⟩ (.slice A1 0 c1) (.slice A2 0 c2) (.slice (some ⟨g3, 0, none⟩) (r.length + 1) c3))).alloc (.cells #[.int .i64 0, .int .i64 0, .slice none 0 0, .slice none 0 0, .slice none 0 0] 26)).alloc (.cells #[.int .i64 0, .int .i64 0, .bool false, .string ⟨#[]⟩, .int .i64 0, .int .i64 0, .string ⟨#[]⟩] 39))
  have hl : Box (((w.alloc (.cells (lag ⟨now, nxt, [], [], t :: r⟩ (.slice A1 0 c1) (.slice A2 0 c2) (.slice (some ⟨g3, 0, none⟩) (r.length + 1) c3)) 26)).alloc (.cells #[.int .i64 0, .int .i64 0, .slice none 0 0, .slice none 0 0, .slice none 0 0] 26)).alloc (.cells #[.int .i64 0, .int .i64 0, .bool false, .string ⟨#[]⟩, .int .i64 0, .int .i64 0, .string ⟨#[]⟩] 39)) (w.heap.size + 1) 26 (#[.int .i64 0, .int .i64 0, .slice none 0 0, .slice none 0 0, .slice none 0 0]) := (new2 w (.cells (lag ⟨now, nxt, [], [], t :: r⟩ (.slice A1 0 c1) (.slice A2 0 c2) (.slice (some ⟨g3, 0, none⟩) (r.length + 1) c3)) 26) 26 #[.int .i64 0, .int .i64 0, .slice none 0 0, .slice none 0 0, .slice none 0 0]).alloc (.cells #[.int .i64 0, .int .i64 0, .bool false, .string ⟨#[]⟩, .int .i64 0, .int .i64 0, .string ⟨#[]⟩] 39)
  have hj : Box (((w.alloc (.cells (lag ⟨now, nxt, [], [], t :: r⟩ (.slice A1 0 c1) (.slice A2 0 c2) (.slice (some ⟨g3, 0, none⟩) (r.length + 1) c3)) 26)).alloc (.cells #[.int .i64 0, .int .i64 0, .slice none 0 0, .slice none 0 0, .slice none 0 0] 26)).alloc (.cells #[.int .i64 0, .int .i64 0, .bool false, .string ⟨#[]⟩, .int .i64 0, .int .i64 0, .string ⟨#[]⟩] 39)) (w.heap.size + 1 + 1) 39 (#[.int .i64 0, .int .i64 0, .bool false, .string ⟨#[]⟩, .int .i64 0, .int .i64 0, .string ⟨#[]⟩]) := new3 w (.cells (lag ⟨now, nxt, [], [], t :: r⟩ (.slice A1 0 c1) (.slice A2 0 c2) (.slice (some ⟨g3, 0, none⟩) (r.length + 1) c3)) 26) (.cells #[.int .i64 0, .int .i64 0, .slice none 0 0, .slice none 0 0, .slice none 0 0] 26) 39 #[.int .i64 0, .int .i64 0, .bool false, .string ⟨#[]⟩, .int .i64 0, .int .i64 0, .string ⟨#[]⟩]
  have hU0 : Below w.heap.size w (((w.alloc (.cells (lag ⟨now, nxt, [], [], t :: r⟩ (.slice A1 0 c1) (.slice A2 0 c2) (.slice (some ⟨g3, 0, none⟩) (r.length + 1) c3)) 26)).alloc (.cells #[.int .i64 0, .int .i64 0, .slice none 0 0, .slice none 0 0, .slice none 0 0] 26)).alloc (.cells #[.int .i64 0, .int .i64 0, .bool false, .string ⟨#[]⟩, .int .i64 0, .int .i64 0, .string ⟨#[]⟩] 39)) := ((below1 w _).alloc (by simp) _).alloc (by simp <;> omega) _
  have hd1 : (((w.alloc (.cells (lag ⟨now, nxt, [], [], t :: r⟩ (.slice A1 0 c1) (.slice A2 0 c2) (.slice (some ⟨g3, 0, none⟩) (r.length + 1) c3)) 26)).alloc (.cells #[.int .i64 0, .int .i64 0, .slice none 0 0, .slice none 0 0, .slice none 0 0] 26)).alloc (.cells #[.int .i64 0, .int .i64 0, .bool false, .string ⟨#[]⟩, .int .i64 0, .int .i64 0, .string ⟨#[]⟩] 39)).cell? ⟨g3, 1, none⟩ = some (.int .i64 t.due) := (hU0.cell (p := ⟨g3, 1, none⟩) hgl3).trans hd0
  clear hd0
  generalize (((w.alloc (.cells (lag ⟨now, nxt, [], [], t :: r⟩ (.slice A1 0 c1) (.slice A2 0 c2) (.slice (some ⟨g3, 0, none⟩) (r.length + 1) c3)) 26)).alloc (.cells #[.int .i64 0, .int .i64 0, .slice none 0 0, .slice none 0 0, .slice none 0 0] 26)).alloc (.cells #[.int .i64 0, .int .i64 0, .bool false, .string ⟨#[]⟩, .int .i64 0, .int .i64 0, .string ⟨#[]⟩] 39)) = W at *
  have hzW := hj.lt
  have q0 := hq.cell 0
  have q2 := hq.cell 2
  have q3 := hq.cell 3
  have q4 := hq.cell 4
  simp at q0 q2 q3 q4
  go_quiet (fail)
  clear q0 q2 q3 q4
  clear hd1
  rename_i nq
  have hq_ := Box.drewN hq nq
  clear hq
  have hq := hq_
  clear hq_
  have hl_ := Box.drewN hl nq
  clear hl
  have hl := hl_
  clear hl_
  have hj_ := Box.drewN hj nq
  clear hj
  have hj := hj_
  clear hj_
  have hUV : Below w.heap.size w (W.drewN nq) := below_drewN hU0 nq
  have hzV : w.heap.size + 1 + 1 < (W.drewN nq).heap.size := hj.lt
  generalize W.drewN nq = V at *
  clear hU0 hzW
  have hO := Lib.hid (HO.out.below hUV)
  have hml := Lib.hid (fun k (hm : mine (.slice A1 0 c1) (.slice A2 0 c2) (.slice (some ⟨g3, 0, none⟩) (r.length + 1) c3) k) => HO.out.mine_lt hm)
  have q3 := hq.cell 3
  simp at q3
  go_wp2_with (refine wpList_load_row rfl 26 (.tmp 2) rfl (w.heap.size) rfl _ (lag ⟨now, nxt, [], [], t :: r⟩ (.slice A1 0 c1) (.slice A2 0 c2) (.slice (some ⟨g3, 0, none⟩) (r.length + 1) c3)) (0, 0) _ hq Try.underlying26 rfl info_loop ?_)
  refine (fire_any ⟨now, nxt, [], [], t :: r⟩ t r rfl B _ _ _ V hO.out (by have := hUV.size; omega) (by simp; omega) hr).mono ?_
  rintro e w5 ⟨T5, S5, R5, rfl, hO5, hS5⟩
  clear q3
  obtain ⟨q5, hq5⟩ : ∃ q5, (Loopy.fire ⟨now, nxt, [], [], t :: r⟩ t r).1 = q5 := ⟨_, rfl⟩
  obtain ⟨j5, hj5⟩ : ∃ j5, (Loopy.fire ⟨now, nxt, [], [], t :: r⟩ t r).2 = j5 := ⟨_, rfl⟩
  rw [hq5] at hO5
  rw [hq5, hj5]
  have HQ5 := Lib.hid hq5
  have HJ5 := Lib.hid hj5
  clear hq5 hj5
  have HO5 := Lib.hid hO5
  have HS5 := Lib.hid hS5
  have hone := hO5.one
  have hlV := hS5.size
  have hl5 := hS5.box hl (fun hm => by have := hml.out _ hm; omega)
  have hj5 := hS5.box hj (fun hm => by have := hml.out _ hm; omega)
  clear hl hj hO5 hS5 hq
  go_upto_region 8 with (first | (refine wpList_store_box rfl 26 (.tmp 9) (.tmp 61) rfl w5.heap.size (lag q5 T5 S5 R5) rfl rfl 26 _ ((Box.new w5 _ _).alloc _) info_loop rfl hone ?_; intro w6 hx6 hu6 hz6; have hn6 := Box.grown (new2 w5 (.cells #[.int .i64 0, .int .i64 0, .slice none 0 0, .slice none 0 0, .slice none 0 0] 26) 39 #[.int .i64 0, .int .i64 0, .bool false, .string ⟨#[]⟩, .int .i64 0, .int .i64 0, .string ⟨#[]⟩]) hu6 (by intro h; injection h with h; omega); clear hz6) | (refine wpList_store_box rfl 39 (.tmp 10) (.tmp 62) rfl (w5.heap.size + 1) (jc j5) rfl rfl 39 _ hn6 info_job rfl (jc_one j5) ?_; intro w7 hx7 hu7 hz7; clear hz7))
  have hx6' := Box.grown hx6 hu7 (by intro h; injection h with h; omega)
  have hU7 : Below w5.heap.size w5 w7 := (((Below.refl _ w5).alloc (Nat.le_refl _) _).alloc (by simp) _).trans ((hu6.own (Nat.le_refl _) (by simp; omega)).trans (hu7.own (by omega) (by have := hu6.size; simp at this; omega)))
  have hl := hl5.below hU7 hl5.lt
  have hj := hj5.below hU7 hj5.lt
  have hz7 := hU7.size
  have hzj := hj5.lt
  clear hl5 hj5 hx6 hn6 hu6 hu7
  refine wp_region_held_drew (S := fun w' => Box w' (w5.heap.size) 26 (lag q5 T5 S5 R5) ∧ Box w' (w5.heap.size + 1) 39 (jc j5)) (by kernel_rfl) ⟨hx6', hx7⟩ (fun hHeld => ?_)
  refine wpAnyH_take (i := 0) (v := _) rfl (by kernel_rfl) (by kernel_rfl) (by kernel_rfl) (fun _ _ _ h => h) (yields_load_box (by kernel_rfl) 26 (.tmp 9) rfl (w5.heap.size) 26 (lag q5 T5 S5 R5) _ rfl (fun _ h => h.1) Try.underlying26 rfl info_loop) (by assumption) ?_
  (try simp only [Act.put, List.getElem_toArray, List.getElem_cons_succ, List.getElem_cons_zero, List.setIfInBounds_toArray, List.set_cons_zero, List.set_cons_succ])
  refine wpAnyH_take (i := 1) (v := _) rfl (by kernel_rfl) (by kernel_rfl) (by kernel_rfl) (fun _ _ _ h => h) (yields_load_box (by kernel_rfl) 39 (.tmp 10) rfl (w5.heap.size + 1) 39 (jc j5) _ rfl (fun _ h => h.2) Try.underlying39 rfl info_job) (by assumption) ?_
  (try simp only [Act.put, List.getElem_toArray, List.getElem_cons_succ, List.getElem_cons_zero, List.setIfInBounds_toArray, List.set_cons_zero, List.set_cons_succ])
  refine wpAnyH_ready (rs := [2]) (by kernel_rfl) (by simp) ?_
  refine AllReadyH.cons rfl (fun K hK => ?_) AllReadyH.nil
  refine step_store_box rfl 26 (.tmp 4) (.tmp 63) rfl (w.heap.size + 1) (lag q5 T5 S5 R5) rfl rfl 26 _ (Box.drew hl) info_loop rfl hone ?_; intro w9 hx9 hu9 hz9
  refine hK.out _ _ ⟨Box.grown (Box.drew hx6') hu9 (by intro h; injection h with h; omega), Box.grown (Box.drew hx7) hu9 (by intro h; injection h with h; omega)⟩ (fun hHeld => ?_)
  clear hK K
  (try simp only [Act.put, List.getElem_toArray, List.getElem_cons_succ, List.getElem_cons_zero, List.setIfInBounds_toArray, List.set_cons_zero, List.set_cons_succ])
  refine wpAnyH_ready (rs := [3]) (by kernel_rfl) (by simp) ?_
  refine AllReadyH.cons rfl (fun K hK => ?_) AllReadyH.nil
  refine step_store_box rfl 39 (.tmp 5) (.tmp 64) rfl (w.heap.size + 1 + 1) (jc j5) rfl rfl 39 _ (Box.grown (Box.drew hj) hu9 (by intro h; injection h with h; omega)) info_job rfl (jc_one _) ?_; intro w10 hx10 hu10 hz10
  refine hK.out _ _ ⟨Box.grown (Box.grown (Box.drew hx6') hu9 (by intro h; injection h with h; omega)) hu10 (by intro h; injection h with h; omega), Box.grown (Box.grown (Box.drew hx7) hu9 (by intro h; injection h with h; omega)) hu10 (by intro h; injection h with h; omega)⟩ (fun hHeld => ?_)
  clear hK K
  (try simp only [Act.put, List.getElem_toArray, List.getElem_cons_succ, List.getElem_cons_zero, List.setIfInBounds_toArray, List.set_cons_zero, List.set_cons_succ])
  refine wpAnyH_take (i := 4) (v := ?tv9) rfl (by kernel_rfl) (by kernel_rfl) (by kernel_rfl) (fun _ _ _ h => h) (Or.inl ⟨by kernel_rfl, ?ty9⟩) (by assumption) ?tr9
  case ty9 =>
    intro w hSw
    (try dsimp only at hSw)
    go_simp
    try (with_reducible rfl)
  (try simp only [Act.put, List.getElem_toArray, List.getElem_cons_succ, List.getElem_cons_zero, List.setIfInBounds_toArray, List.set_cons_zero, List.set_cons_succ])
  refine wpAnyH_done (by kernel_rfl) ?_ _
  go_wp2
  refine bodyPost_ret (results_bbt rfl (Back.mk' (w.heap.size + 1) 26 _ rfl (Box.grown hx9 hu10 (by intro h; injection h with h; omega)) Try.underlying26 rfl info_loop) (Back.mk' (w.heap.size + 1 + 1) 39 _ rfl hx10 Try.underlying39 rfl info_job)) rfl ?_
  have hS1 : Step V w7 (.slice A1 0 c1) (.slice A2 0 c2) (.slice (some ⟨g3, 0, none⟩) (r.length + 1) c3) T5 S5 R5 := HS5.out.trans (Step.of_below hU7 (fun k h => .inl h))
  have hnm : ∀ k, w.heap.size ≤ k → k < V.heap.size → ¬ mine T5 S5 R5 k := fun k h1 h2 hm => by
    rcases HS5.out.fresh k hm with a | a
    · have := hml.out k a; omega
    · omega
  have hO7 : Own w7.drew B q5 T5 S5 R5 := by
    have h := HO5.out.below hU7
    exact ⟨h.t, h.s, h.r, h.ts, h.tr, h.sr⟩
  have hO9 := hO7.past (g := w.heap.size + 1) hu9 (hnm _ (by omega) (by omega))
  have hO10 := hO9.past (g := w.heap.size + 1 + 1) hu10 (hnm _ (by omega) (by omega))
  have hs := hS1.size
  refine ⟨_, _, _, by rw [HNX.out, HQ5.out, HJ5.out]; rfl, by rw [HNX.out, HQ5.out]; exact hO10, ?_⟩
  exact ⟨hu10.os.trans (hu9.os.trans (hS1.os.trans hUV.os)), hu10.tape.trans (hu9.tape.trans (hS1.tape.trans hUV.tape)), hu10.output.trans (hu9.output.trans (hS1.output.trans hUV.output)), Nat.le_trans hUV.size (Nat.le_trans hs (Nat.le_trans hu9.size hu10.size)),
    fun k hk hn => (hu10.block k (by have := hUV.size; have : w7.drew.heap.size ≤ w9.heap.size := hu9.size; have e : w7.drew.heap.size = w7.heap.size := rfl; omega) (by simp; omega)).trans ((hu9.block k (by have := hUV.size; show k < w7.heap.size; omega) (by simp; omega)).trans ((hS1.block k (by have := hUV.size; omega) hn).trans (hUV.block k hk))),
    fun k hm => (hS1.fresh k hm).imp id (fun h => by have := hUV.size; omega)⟩

end Go.Proofs.Ytpjbblbehbepbaa
