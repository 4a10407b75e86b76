/-
  A job is asked for. Conditions: the loop's rows are its own; the loop is right.
-/
import Derived.Test.YtpjbblbehbepbaaLpR
namespace Go.Proofs.Ytpjbblbehbepbaa
set_option linter.unusedSimpArgs false
set_option linter.unusedVariables false
open Go.RowKit

set_option maxRecDepth 100000 in
set_option maxHeartbeats 4000000 in
theorem post_src (q : Loopy.Loop) (a : Loopy.Ask) (B : Nat) (T S R : Value) (w : World) (ho : Own w B q T S R) (hB : B ≤ w.heap.size) (hr : Loopy.Right q) (hw : Valu.within a.src 1 4 = false) :
    Calls Try.prog 39 #[.agg (qac q T S R a), .bool false] w fun e w' => AskOut w B T S R (Loopy.post q a false) e w' := by
  have HP : Hid (Loopy.post q a false = (q, 0, 1)) := by
    show Loopy.post q a false = _
    unfold Loopy.post
    simp only [if_true, if_false, Bool.false_eq_true]
    rw [if_pos hw]
  have HWI := Lib.hid (fun w => within_is _ _ _ _ hw w)
  clear hw
  have hn0 := hr.nxt0
  have hn1 := hr.nxt1
  unfold Loopy.most at hn1
  have l1 := hr.l1
  have l2 := hr.l2
  obtain ⟨A1, c1, e1⟩ := own_slice ho.t
  obtain ⟨A2, c2, e2⟩ := own_slice ho.s
  obtain ⟨A3, c3, e3⟩ := own_slice ho.r
  subst e1 e2 e3
  have HO := Lib.hid ho
  have hml := Lib.hid (fun k (hm : mine (.slice A1 q.tasks.length c1) (.slice A2 q.smalls.length c2) (.slice A3 q.timers.length c3) k) => HO.out.mine_lt hm)
  have hone : (lag q (.slice A1 q.tasks.length c1) (.slice A2 q.smalls.length c2) (.slice A3 q.timers.length c3)).all (·.oneCell') = true := by simp [Value.oneCell']
  clear ho hr
  go_enter Try.func39, Try.ntmps39
  go_upto_region 1 with (fail)
  have hb : Box ((w.alloc (.cells (qac q (.slice A1 q.tasks.length c1) (.slice A2 q.smalls.length c2) (.slice A3 q.timers.length c3) a) 64)).alloc (.cells #[.int .i64 0, .int .i64 0, .slice none 0 0, .slice none 0 0, .slice none 0 0] 26)) (w.heap.size) 64 (qac q (.slice A1 q.tasks.length c1) (.slice A2 q.smalls.length c2) (.slice A3 q.timers.length c3) a) := (Box.new w 64 (qac q (.slice A1 q.tasks.length c1) (.slice A2 q.smalls.length c2) (.slice A3 q.timers.length c3) a)).alloc (.cells #[.int .i64 0, .int .i64 0, .slice none 0 0, .slice none 0 0, .slice none 0 0] 26)
  have hl : Box ((w.alloc (.cells (qac q (.slice A1 q.tasks.length c1) (.slice A2 q.smalls.length c2) (.slice A3 q.timers.length c3) a) 64)).alloc (.cells #[.int .i64 0, .int .i64 0, .slice none 0 0, .slice none 0 0, .slice none 0 0] 26)) (w.heap.size + 1) 26 (#[.int .i64 0, .int .i64 0, .slice none 0 0, .slice none 0 0, .slice none 0 0]) := new2 w (.cells (qac q (.slice A1 q.tasks.length c1) (.slice A2 q.smalls.length c2) (.slice A3 q.timers.length c3) a) 64) 26 #[.int .i64 0, .int .i64 0, .slice none 0 0, .slice none 0 0, .slice none 0 0]
  have hU0 : Below w.heap.size w ((w.alloc (.cells (qac q (.slice A1 q.tasks.length c1) (.slice A2 q.smalls.length c2) (.slice A3 q.timers.length c3) a) 64)).alloc (.cells #[.int .i64 0, .int .i64 0, .slice none 0 0, .slice none 0 0, .slice none 0 0] 26)) := (below1 w _).alloc (by simp) _
  generalize ((w.alloc (.cells (qac q (.slice A1 q.tasks.length c1) (.slice A2 q.smalls.length c2) (.slice A3 q.timers.length c3) a) 64)).alloc (.cells #[.int .i64 0, .int .i64 0, .slice none 0 0, .slice none 0 0, .slice none 0 0] 26)) = W at *
  have hzW := hl.lt
  go_upto_region 2 with (first | (refine wpList_load_mid rfl 26 (.tmp 10) rfl (w.heap.size) 0 rfl (lag q (.slice A1 q.tasks.length c1) (.slice A2 q.smalls.length c2) (.slice A3 q.timers.length c3)).toList _ (asked_range hb) Try.underlying26 rfl info_loop ?_) | (refine wpList_store_box rfl 26 (.tmp 7) (.tmp 11) rfl W.heap.size (lag q (.slice A1 q.tasks.length c1) (.slice A2 q.smalls.length c2) (.slice A3 q.timers.length c3)) rfl rfl 26 _ (Box.new W _ _) info_loop rfl hone ?_; intro w4 hx4 hu4 hz4; clear hz4))
  have hb_ := Box.alloc hb (.cells #[.int .i64 0, .int .i64 0, .slice none 0 0, .slice none 0 0, .slice none 0 0] 26)
  clear hb
  have hb := hb_
  clear hb_
  have hl_ := Box.alloc hl (.cells #[.int .i64 0, .int .i64 0, .slice none 0 0, .slice none 0 0, .slice none 0 0] 26)
  clear hl
  have hl := hl_
  clear hl_
  have hb_ := Box.grown hb hu4 (by intro h; injection h with h; omega)
  clear hb
  have hb := hb_
  clear hb_
  have hl_ := Box.grown hl hu4 (by intro h; injection h with h; omega)
  clear hl
  have hl := hl_
  clear hl_
  have hU4 : Below w.heap.size w w4 := (hU0.alloc hU0.size _).trans (hu4.own (by omega) (by simp; omega))
  have hz4 := hx4.lt
  clear hu4 hU0
  have q1 := hx4.cell 1
  have a6 := hb.cell 6
  have a8 := hb.cell 8
  have a9 := hb.cell 9
  have a10 := hb.cell 10
  have a11 := hb.cell 11
  simp at q1 a6 a8 a9 a10 a11
  go_upto_region 3 with (refine wpList_store_box rfl 39 (.tmp 9) (.tmp 26) rfl w4.heap.size (jc ⟨q.next, a.src, false, a.call, a.arg⟩) rfl rfl 39 _ (Box.new w4 _ _) info_job rfl (jc_one _) ?_; intro w5 hx5 hu5 hz5; clear hz5)
  clear q1 a6 a8 a9 a10 a11
  have hb_ := Box.alloc hb (.cells #[.int .i64 0, .int .i64 0, .bool false, .string ⟨#[]⟩, .int .i64 0, .int .i64 0, .string ⟨#[]⟩] 39)
  clear hb
  have hb := hb_
  clear hb_
  have hl_ := Box.alloc hl (.cells #[.int .i64 0, .int .i64 0, .bool false, .string ⟨#[]⟩, .int .i64 0, .int .i64 0, .string ⟨#[]⟩] 39)
  clear hl
  have hl := hl_
  clear hl_
  have hx4_ := Box.alloc hx4 (.cells #[.int .i64 0, .int .i64 0, .bool false, .string ⟨#[]⟩, .int .i64 0, .int .i64 0, .string ⟨#[]⟩] 39)
  clear hx4
  have hx4 := hx4_
  clear hx4_
  have hb_ := Box.grown hb hu5 (by intro h; injection h with h; omega)
  clear hb
  have hb := hb_
  clear hb_
  have hl_ := Box.grown hl hu5 (by intro h; injection h with h; omega)
  clear hl
  have hl := hl_
  clear hl_
  have hx4_ := Box.grown hx4 hu5 (by intro h; injection h with h; omega)
  clear hx4
  have hx4 := hx4_
  clear hx4_
  have hU5 : Below w.heap.size w w5 := (hU4.alloc hU4.size _).trans (hu5.own (by omega) (by simp; omega))
  have hz5 := hx5.lt
  clear hu5 hU4
  have j1 := hx5.cell 1
  simp at j1
  go_wp2_with (fail)
  refine (HWI.out _).mono ?_
  rintro e w6 ⟨rfl, rfl⟩
  clear j1
  go_wp2_with (first | (refine wpList_load_row rfl 26 (.tmp 7) rfl (W.heap.size) rfl _ (lag q (.slice A1 q.tasks.length c1) (.slice A2 q.smalls.length c2) (.slice A3 q.timers.length c3)) (0, 0) _ hx4 Try.underlying26 rfl info_loop ?_) | (refine wpList_store_box rfl 26 (.tmp 4) (.tmp 35) rfl (w.heap.size + 1) (lag q (.slice A1 q.tasks.length c1) (.slice A2 q.smalls.length c2) (.slice A3 q.timers.length c3)) rfl rfl 26 _ hl info_loop rfl hone ?_; intro w9 hx9 hu9 hz9; clear hz9))
  refine bodyPost_ret (results_btt rfl (Back.mk' (w.heap.size + 1) 26 _ rfl hx9 Try.underlying26 rfl info_loop)) rfl ?_
  have hB9 : Below w.heap.size w w9 := hU5.trans (Upd.own (B := w.heap.size) hu9 (by omega) hU5.size)
  exact ⟨_, _, _, by rw [HP.out]; rfl, by rw [HP.out]; exact HO.out.below hB9, Step.same hB9⟩

set_option maxRecDepth 100000 in
set_option maxHeartbeats 4000000 in
theorem post_full (q : Loopy.Loop) (a : Loopy.Ask) (B : Nat) (T S R : Value) (w : World) (ho : Own w B q T S R) (hB : B ≤ w.heap.size) (hr : Loopy.Right q) (hw : Valu.within a.src 1 4 = true) (hf : Loopy.full q.tasks.length q = true) :
    Calls Try.prog 39 #[.agg (qac q T S R a), .bool false] w fun e w' => AskOut w B T S R (Loopy.post q a false) e w' := by
  have HP : Hid (Loopy.post q a false = (q, 0, 2)) := by
    show Loopy.post q a false = _
    unfold Loopy.post
    simp only [if_true, if_false, Bool.false_eq_true]
    rw [if_neg (by rw [hw]; decide), if_pos hf]
  have HWI := Lib.hid (fun w => within_is _ _ _ _ hw w)
  clear hw
  have HF : Hid (∀ w T S R, Calls Try.prog 47 #[.agg (qac q T S R a), .int .i64 (q.tasks.length : Int)] w fun e w' => e = .returned (.bool true) ∧ Below w.heap.size w w') := fun w T S R => by
    have := full_any q.tasks.length q T S R a w
    rw [hf] at this
    exact this
  clear hf
  have hn0 := hr.nxt0
  have hn1 := hr.nxt1
  unfold Loopy.most at hn1
  have l1 := hr.l1
  have l2 := hr.l2
  obtain ⟨A1, c1, e1⟩ := own_slice ho.t
  obtain ⟨A2, c2, e2⟩ := own_slice ho.s
  obtain ⟨A3, c3, e3⟩ := own_slice ho.r
  subst e1 e2 e3
  have HO := Lib.hid ho
  have hml := Lib.hid (fun k (hm : mine (.slice A1 q.tasks.length c1) (.slice A2 q.smalls.length c2) (.slice A3 q.timers.length c3) k) => HO.out.mine_lt hm)
  have hone : (lag q (.slice A1 q.tasks.length c1) (.slice A2 q.smalls.length c2) (.slice A3 q.timers.length c3)).all (·.oneCell') = true := by simp [Value.oneCell']
  clear ho hr
  go_enter Try.func39, Try.ntmps39
  go_upto_region 1 with (fail)
  have hb : Box ((w.alloc (.cells (qac q (.slice A1 q.tasks.length c1) (.slice A2 q.smalls.length c2) (.slice A3 q.timers.length c3) a) 64)).alloc (.cells #[.int .i64 0, .int .i64 0, .slice none 0 0, .slice none 0 0, .slice none 0 0] 26)) (w.heap.size) 64 (qac q (.slice A1 q.tasks.length c1) (.slice A2 q.smalls.length c2) (.slice A3 q.timers.length c3) a) := (Box.new w 64 (qac q (.slice A1 q.tasks.length c1) (.slice A2 q.smalls.length c2) (.slice A3 q.timers.length c3) a)).alloc (.cells #[.int .i64 0, .int .i64 0, .slice none 0 0, .slice none 0 0, .slice none 0 0] 26)
  have hl : Box ((w.alloc (.cells (qac q (.slice A1 q.tasks.length c1) (.slice A2 q.smalls.length c2) (.slice A3 q.timers.length c3) a) 64)).alloc (.cells #[.int .i64 0, .int .i64 0, .slice none 0 0, .slice none 0 0, .slice none 0 0] 26)) (w.heap.size + 1) 26 (#[.int .i64 0, .int .i64 0, .slice none 0 0, .slice none 0 0, .slice none 0 0]) := new2 w (.cells (qac q (.slice A1 q.tasks.length c1) (.slice A2 q.smalls.length c2) (.slice A3 q.timers.length c3) a) 64) 26 #[.int .i64 0, .int .i64 0, .slice none 0 0, .slice none 0 0, .slice none 0 0]
  have hU0 : Below w.heap.size w ((w.alloc (.cells (qac q (.slice A1 q.tasks.length c1) (.slice A2 q.smalls.length c2) (.slice A3 q.timers.length c3) a) 64)).alloc (.cells #[.int .i64 0, .int .i64 0, .slice none 0 0, .slice none 0 0, .slice none 0 0] 26)) := (below1 w _).alloc (by simp) _
  generalize ((w.alloc (.cells (qac q (.slice A1 q.tasks.length c1) (.slice A2 q.smalls.length c2) (.slice A3 q.timers.length c3) a) 64)).alloc (.cells #[.int .i64 0, .int .i64 0, .slice none 0 0, .slice none 0 0, .slice none 0 0] 26)) = W at *
  have hzW := hl.lt
  go_upto_region 2 with (first | (refine wpList_load_mid rfl 26 (.tmp 10) rfl (w.heap.size) 0 rfl (lag q (.slice A1 q.tasks.length c1) (.slice A2 q.smalls.length c2) (.slice A3 q.timers.length c3)).toList _ (asked_range hb) Try.underlying26 rfl info_loop ?_) | (refine wpList_store_box rfl 26 (.tmp 7) (.tmp 11) rfl W.heap.size (lag q (.slice A1 q.tasks.length c1) (.slice A2 q.smalls.length c2) (.slice A3 q.timers.length c3)) rfl rfl 26 _ (Box.new W _ _) info_loop rfl hone ?_; intro w4 hx4 hu4 hz4; clear hz4))
  have hb_ := Box.alloc hb (.cells #[.int .i64 0, .int .i64 0, .slice none 0 0, .slice none 0 0, .slice none 0 0] 26)
  clear hb
  have hb := hb_
  clear hb_
  have hl_ := Box.alloc hl (.cells #[.int .i64 0, .int .i64 0, .slice none 0 0, .slice none 0 0, .slice none 0 0] 26)
  clear hl
  have hl := hl_
  clear hl_
  have hb_ := Box.grown hb hu4 (by intro h; injection h with h; omega)
  clear hb
  have hb := hb_
  clear hb_
  have hl_ := Box.grown hl hu4 (by intro h; injection h with h; omega)
  clear hl
  have hl := hl_
  clear hl_
  have hU4 : Below w.heap.size w w4 := (hU0.alloc hU0.size _).trans (hu4.own (by omega) (by simp; omega))
  have hz4 := hx4.lt
  clear hu4 hU0
  have q1 := hx4.cell 1
  have a6 := hb.cell 6
  have a8 := hb.cell 8
  have a9 := hb.cell 9
  have a10 := hb.cell 10
  have a11 := hb.cell 11
  simp at q1 a6 a8 a9 a10 a11
  go_upto_region 3 with (refine wpList_store_box rfl 39 (.tmp 9) (.tmp 26) rfl w4.heap.size (jc ⟨q.next, a.src, false, a.call, a.arg⟩) rfl rfl 39 _ (Box.new w4 _ _) info_job rfl (jc_one _) ?_; intro w5 hx5 hu5 hz5; clear hz5)
  clear q1 a6 a8 a9 a10 a11
  have hb_ := Box.alloc hb (.cells #[.int .i64 0, .int .i64 0, .bool false, .string ⟨#[]⟩, .int .i64 0, .int .i64 0, .string ⟨#[]⟩] 39)
  clear hb
  have hb := hb_
  clear hb_
  have hl_ := Box.alloc hl (.cells #[.int .i64 0, .int .i64 0, .bool false, .string ⟨#[]⟩, .int .i64 0, .int .i64 0, .string ⟨#[]⟩] 39)
  clear hl
  have hl := hl_
  clear hl_
  have hx4_ := Box.alloc hx4 (.cells #[.int .i64 0, .int .i64 0, .bool false, .string ⟨#[]⟩, .int .i64 0, .int .i64 0, .string ⟨#[]⟩] 39)
  clear hx4
  have hx4 := hx4_
  clear hx4_
  have hb_ := Box.grown hb hu5 (by intro h; injection h with h; omega)
  clear hb
  have hb := hb_
  clear hb_
  have hl_ := Box.grown hl hu5 (by intro h; injection h with h; omega)
  clear hl
  have hl := hl_
  clear hl_
  have hx4_ := Box.grown hx4 hu5 (by intro h; injection h with h; omega)
  clear hx4
  have hx4 := hx4_
  clear hx4_
  have hU5 : Below w.heap.size w w5 := (hU4.alloc hU4.size _).trans (hu5.own (by omega) (by simp; omega))
  have hz5 := hx5.lt
  clear hu5 hU4
  have j1 := hx5.cell 1
  simp at j1
  go_wp2_with (fail)
  refine (HWI.out _).mono ?_
  rintro e w6 ⟨rfl, rfl⟩
  clear j1
  go_upto_region 7 with (fail)
  have row_ := hb.cell 2
  simp at row_
  refine wp_region_held_drew (S := fun w' => Box w' (w.heap.size) 64 (qac q (.slice A1 q.tasks.length c1) (.slice A2 q.smalls.length c2) (.slice A3 q.timers.length c3) a) ∧ w'.cell? ⟨w.heap.size, 2, none⟩ = some (.slice A1 q.tasks.length c1) ∧ Below w5.heap.size w5 w') (by kernel_rfl) ⟨hb, row_, Below.drew (Below.refl _ w5)⟩ (fun hHeld => ?_)
  refine wpAnyH_take (i := 0) (v := _) rfl (by kernel_rfl) (by kernel_rfl) (by kernel_rfl) (fun _ _ _ h => h) (yields_load_box (by kernel_rfl) 64 (.tmp 2) rfl (w.heap.size) 64 (qac q (.slice A1 q.tasks.length c1) (.slice A2 q.smalls.length c2) (.slice A3 q.timers.length c3) a) _ rfl (fun _ h => h.1) Try.underlying64 rfl info_asked) (by assumption) ?_
  (try simp only [Act.put, List.getElem_toArray, List.getElem_cons_succ, List.getElem_cons_zero, List.setIfInBounds_toArray, List.set_cons_zero, List.set_cons_succ])
  refine wpAnyH_take (i := 1) (v := ?_) rfl (by kernel_rfl) (by kernel_rfl) (by kernel_rfl) (fun _ _ _ h => h) (Or.inl ⟨by kernel_rfl, ?_⟩) (by assumption) ?_
  rotate_left
  · intro w hSw
    (try dsimp only at hSw)
    go_simp
    try (with_reducible rfl)
  (try simp only [Act.put, List.getElem_toArray, List.getElem_cons_succ, List.getElem_cons_zero, List.setIfInBounds_toArray, List.set_cons_zero, List.set_cons_succ])
  refine wpAnyH_take (i := 2) (v := ?_) rfl (by kernel_rfl) (by kernel_rfl) (by kernel_rfl) (fun _ _ _ h => h) (Or.inl ⟨by kernel_rfl, ?_⟩) (by assumption) ?_
  rotate_left
  · intro w hSw
    (try dsimp only at hSw)
    go_simp
    try (with_reducible rfl)
  (try simp only [Act.put, List.getElem_toArray, List.getElem_cons_succ, List.getElem_cons_zero, List.setIfInBounds_toArray, List.set_cons_zero, List.set_cons_succ])
  refine wpAnyH_take (i := 3) (v := ?_) rfl (by kernel_rfl) (by kernel_rfl) (by kernel_rfl) (fun _ _ _ h => h) (Or.inl ⟨by kernel_rfl, ?_⟩) (by assumption) ?_
  rotate_left
  · intro w hSw
    (try dsimp only at hSw)
    go_simp
    try (with_reducible rfl)
  (try simp only [Act.put, List.getElem_toArray, List.getElem_cons_succ, List.getElem_cons_zero, List.setIfInBounds_toArray, List.set_cons_zero, List.set_cons_succ])
  refine wpAnyH_take (i := 4) (v := ?_) rfl (by kernel_rfl) (by kernel_rfl) (by kernel_rfl) (fun _ _ _ h => h) (Or.inl ⟨by kernel_rfl, ?_⟩) (by assumption) ?_
  rotate_left
  · intro w hSw
    (try dsimp only at hSw)
    go_simp
    try (with_reducible rfl)
  (try simp only [Act.put, List.getElem_toArray, List.getElem_cons_succ, List.getElem_cons_zero, List.setIfInBounds_toArray, List.set_cons_zero, List.set_cons_succ])
  refine wpAnyH_ready (rs := [5]) (by kernel_rfl) (by simp) ?_
  refine AllReadyH.cons rfl (fun K hK => ?_) AllReadyH.nil
  go_simp
  refine (HF.out _ _ _ _).mono ?_
  rintro e w7 ⟨rfl, hb7_⟩
  go_wp2_with (fail)
  refine hK.out _ _ ?_ (fun hHeld => ?_)
  · exact ⟨hb.below (hHeld.2.2.trans hb7_) hb.lt, ((hHeld.2.2.trans hb7_).cell (p := ⟨w.heap.size, 2, none⟩) hb.lt).trans row_, hHeld.2.2.trans hb7_⟩
  clear hK K
  (try simp only [Act.put, List.getElem_toArray, List.getElem_cons_succ, List.getElem_cons_zero, List.setIfInBounds_toArray, List.set_cons_zero, List.set_cons_succ])
  refine wpAnyH_done (by kernel_rfl) ?_ _
  have hb7 : Below w5.heap.size w5 w7 := hHeld.2.2
  clear hHeld row_
  have hb_ := Box.below hb hb7 hb.lt
  clear hb
  have hb := hb_
  clear hb_
  have hl_ := Box.below hl hb7 hl.lt
  clear hl
  have hl := hl_
  clear hl_
  have hx4_ := Box.below hx4 hb7 hx4.lt
  clear hx4
  have hx4 := hx4_
  clear hx4_
  have hx5_ := Box.below hx5 hb7 hx5.lt
  clear hx5
  have hx5 := hx5_
  clear hx5_
  have hU7 : Below w.heap.size w w7 := hU5.trans (hb7.mono hU5.size)
  have hz7 : w5.heap.size ≤ w7.heap.size := hb7.size
  clear hb7 hU5
  go_wp2_with (first | (refine wpList_load_row rfl 26 (.tmp 7) rfl (W.heap.size) rfl _ (lag q (.slice A1 q.tasks.length c1) (.slice A2 q.smalls.length c2) (.slice A3 q.timers.length c3)) (0, 0) _ hx4 Try.underlying26 rfl info_loop ?_) | (refine wpList_store_box rfl 26 (.tmp 4) (.tmp 42) rfl (w.heap.size + 1) (lag q (.slice A1 q.tasks.length c1) (.slice A2 q.smalls.length c2) (.slice A3 q.timers.length c3)) rfl rfl 26 _ hl info_loop rfl hone ?_; intro w9 hx9 hu9 hz9; clear hz9))
  refine bodyPost_ret (results_btt rfl (Back.mk' (w.heap.size + 1) 26 _ rfl hx9 Try.underlying26 rfl info_loop)) rfl ?_
  have hB9 : Below w.heap.size w w9 := hU7.trans (Upd.own (B := w.heap.size) hu9 (by omega) hU7.size)
  exact ⟨_, _, _, by rw [HP.out]; rfl, by rw [HP.out]; exact HO.out.below hB9, Step.same hB9⟩

set_option maxRecDepth 100000 in
set_option maxHeartbeats 4000000 in
theorem small_full (q : Loopy.Loop) (a : Loopy.Ask) (B : Nat) (T S R : Value) (w : World) (ho : Own w B q T S R) (hB : B ≤ w.heap.size) (hr : Loopy.Right q) (hf : Loopy.full q.smalls.length q = true) :
    Calls Try.prog 39 #[.agg (qac q T S R a), .bool true] w fun e w' => AskOut w B T S R (Loopy.post q a true) e w' := by
  have HP : Hid (Loopy.post q a true = (q, 0, 2)) := by
    show Loopy.post q a true = _
    unfold Loopy.post
    simp only [if_true, if_false, Bool.false_eq_true]
    rw [if_pos hf]
  have HF : Hid (∀ w T S R, Calls Try.prog 47 #[.agg (qac q T S R a), .int .i64 (q.smalls.length : Int)] w fun e w' => e = .returned (.bool true) ∧ Below w.heap.size w w') := fun w T S R => by
    have := full_any q.smalls.length q T S R a w
    rw [hf] at this
    exact this
  clear hf
  have hn0 := hr.nxt0
  have hn1 := hr.nxt1
  unfold Loopy.most at hn1
  have l1 := hr.l1
  have l2 := hr.l2
  obtain ⟨A1, c1, e1⟩ := own_slice ho.t
  obtain ⟨A2, c2, e2⟩ := own_slice ho.s
  obtain ⟨A3, c3, e3⟩ := own_slice ho.r
  subst e1 e2 e3
  have HO := Lib.hid ho
  have hml := Lib.hid (fun k (hm : mine (.slice A1 q.tasks.length c1) (.slice A2 q.smalls.length c2) (.slice A3 q.timers.length c3) k) => HO.out.mine_lt hm)
  have hone : (lag q (.slice A1 q.tasks.length c1) (.slice A2 q.smalls.length c2) (.slice A3 q.timers.length c3)).all (·.oneCell') = true := by simp [Value.oneCell']
  clear ho hr
  go_enter Try.func39, Try.ntmps39
  go_upto_region 1 with (fail)
  have hb : Box ((w.alloc (.cells (qac q (.slice A1 q.tasks.length c1) (.slice A2 q.smalls.length c2) (.slice A3 q.timers.length c3) a) 64)).alloc (.cells #[.int .i64 0, .int .i64 0, .slice none 0 0, .slice none 0 0, .slice none 0 0] 26)) (w.heap.size) 64 (qac q (.slice A1 q.tasks.length c1) (.slice A2 q.smalls.length c2) (.slice A3 q.timers.length c3) a) := (Box.new w 64 (qac q (.slice A1 q.tasks.length c1) (.slice A2 q.smalls.length c2) (.slice A3 q.timers.length c3) a)).alloc (.cells #[.int .i64 0, .int .i64 0, .slice none 0 0, .slice none 0 0, .slice none 0 0] 26)
  have hl : Box ((w.alloc (.cells (qac q (.slice A1 q.tasks.length c1) (.slice A2 q.smalls.length c2) (.slice A3 q.timers.length c3) a) 64)).alloc (.cells #[.int .i64 0, .int .i64 0, .slice none 0 0, .slice none 0 0, .slice none 0 0] 26)) (w.heap.size + 1) 26 (#[.int .i64 0, .int .i64 0, .slice none 0 0, .slice none 0 0, .slice none 0 0]) := new2 w (.cells (qac q (.slice A1 q.tasks.length c1) (.slice A2 q.smalls.length c2) (.slice A3 q.timers.length c3) a) 64) 26 #[.int .i64 0, .int .i64 0, .slice none 0 0, .slice none 0 0, .slice none 0 0]
  have hU0 : Below w.heap.size w ((w.alloc (.cells (qac q (.slice A1 q.tasks.length c1) (.slice A2 q.smalls.length c2) (.slice A3 q.timers.length c3) a) 64)).alloc (.cells #[.int .i64 0, .int .i64 0, .slice none 0 0, .slice none 0 0, .slice none 0 0] 26)) := (below1 w _).alloc (by simp) _
  generalize ((w.alloc (.cells (qac q (.slice A1 q.tasks.length c1) (.slice A2 q.smalls.length c2) (.slice A3 q.timers.length c3) a) 64)).alloc (.cells #[.int .i64 0, .int .i64 0, .slice none 0 0, .slice none 0 0, .slice none 0 0] 26)) = W at *
  have hzW := hl.lt
  go_upto_region 2 with (first | (refine wpList_load_mid rfl 26 (.tmp 10) rfl (w.heap.size) 0 rfl (lag q (.slice A1 q.tasks.length c1) (.slice A2 q.smalls.length c2) (.slice A3 q.timers.length c3)).toList _ (asked_range hb) Try.underlying26 rfl info_loop ?_) | (refine wpList_store_box rfl 26 (.tmp 7) (.tmp 11) rfl W.heap.size (lag q (.slice A1 q.tasks.length c1) (.slice A2 q.smalls.length c2) (.slice A3 q.timers.length c3)) rfl rfl 26 _ (Box.new W _ _) info_loop rfl hone ?_; intro w4 hx4 hu4 hz4; clear hz4))
  have hb_ := Box.alloc hb (.cells #[.int .i64 0, .int .i64 0, .slice none 0 0, .slice none 0 0, .slice none 0 0] 26)
  clear hb
  have hb := hb_
  clear hb_
  have hl_ := Box.alloc hl (.cells #[.int .i64 0, .int .i64 0, .slice none 0 0, .slice none 0 0, .slice none 0 0] 26)
  clear hl
  have hl := hl_
  clear hl_
  have hb_ := Box.grown hb hu4 (by intro h; injection h with h; omega)
  clear hb
  have hb := hb_
  clear hb_
  have hl_ := Box.grown hl hu4 (by intro h; injection h with h; omega)
  clear hl
  have hl := hl_
  clear hl_
  have hU4 : Below w.heap.size w w4 := (hU0.alloc hU0.size _).trans (hu4.own (by omega) (by simp; omega))
  have hz4 := hx4.lt
  clear hu4 hU0
  have q1 := hx4.cell 1
  have a6 := hb.cell 6
  have a8 := hb.cell 8
  have a9 := hb.cell 9
  have a10 := hb.cell 10
  have a11 := hb.cell 11
  simp at q1 a6 a8 a9 a10 a11
  go_upto_region 3 with (refine wpList_store_box rfl 39 (.tmp 9) (.tmp 26) rfl w4.heap.size (jc ⟨q.next, a.src, true, a.call, a.arg⟩) rfl rfl 39 _ (Box.new w4 _ _) info_job rfl (jc_one _) ?_; intro w5 hx5 hu5 hz5; clear hz5)
  clear q1 a6 a8 a9 a10 a11
  have hb_ := Box.alloc hb (.cells #[.int .i64 0, .int .i64 0, .bool false, .string ⟨#[]⟩, .int .i64 0, .int .i64 0, .string ⟨#[]⟩] 39)
  clear hb
  have hb := hb_
  clear hb_
  have hl_ := Box.alloc hl (.cells #[.int .i64 0, .int .i64 0, .bool false, .string ⟨#[]⟩, .int .i64 0, .int .i64 0, .string ⟨#[]⟩] 39)
  clear hl
  have hl := hl_
  clear hl_
  have hx4_ := Box.alloc hx4 (.cells #[.int .i64 0, .int .i64 0, .bool false, .string ⟨#[]⟩, .int .i64 0, .int .i64 0, .string ⟨#[]⟩] 39)
  clear hx4
  have hx4 := hx4_
  clear hx4_
  have hb_ := Box.grown hb hu5 (by intro h; injection h with h; omega)
  clear hb
  have hb := hb_
  clear hb_
  have hl_ := Box.grown hl hu5 (by intro h; injection h with h; omega)
  clear hl
  have hl := hl_
  clear hl_
  have hx4_ := Box.grown hx4 hu5 (by intro h; injection h with h; omega)
  clear hx4
  have hx4 := hx4_
  clear hx4_
  have hU5 : Below w.heap.size w w5 := (hU4.alloc hU4.size _).trans (hu5.own (by omega) (by simp; omega))
  have hz5 := hx5.lt
  clear hu5 hU4
  have f1 := hx5.frozen 1
  have j1 := hx5.cell 1
  simp at j1
  go_upto_region 7 with (fail)
  clear f1 j1
  have hb_ := Box.far hb (p := ⟨w4.heap.size, 1, none⟩) (by simp <;> omega) (.int .i64 0)
  clear hb
  have hb := hb_
  clear hb_
  have hl_ := Box.far hl (p := ⟨w4.heap.size, 1, none⟩) (by simp <;> omega) (.int .i64 0)
  clear hl
  have hl := hl_
  clear hl_
  have hx4_ := Box.far hx4 (p := ⟨w4.heap.size, 1, none⟩) (by simp <;> omega) (.int .i64 0)
  clear hx4
  have hx4 := hx4_
  clear hx4_
  have hx5_ := Box.set hx5 1 (.int .i64 0)
  clear hx5
  have hx5 := hx5_
  clear hx5_
  have hU6 : Below w.heap.size w (w5.setCell ⟨w4.heap.size, 1, none⟩ (.int .i64 0)) := hU5.setCell (by show _ ≤ w4.heap.size; omega) _
  have hz6 : (w5.setCell ⟨w4.heap.size, 1, none⟩ (.int .i64 0)).heap.size = w5.heap.size := by simp
  generalize (w5.setCell ⟨w4.heap.size, 1, none⟩ (.int .i64 0)) = w6 at *
  change Box w6 (w4.heap.size) 39 (jc ⟨q.next, 0, true, a.call, a.arg⟩) at hx5
  have HZ6 := Lib.hid hz6
  have hz6' : w5.heap.size ≤ w6.heap.size := by rw [HZ6.out]; exact Nat.le_refl _
  clear hz6 hU5
  have hz5' : w4.heap.size < w6.heap.size := hx5.lt
  clear hz5
  have hz5 := hz5'
  clear hz5'
  have row_ := hb.cell 3
  simp at row_
  refine wp_region_held_drew (S := fun w' => Box w' (w.heap.size) 64 (qac q (.slice A1 q.tasks.length c1) (.slice A2 q.smalls.length c2) (.slice A3 q.timers.length c3) a) ∧ w'.cell? ⟨w.heap.size, 3, none⟩ = some (.slice A2 q.smalls.length c2) ∧ Below w6.heap.size w6 w') (by kernel_rfl) ⟨hb, row_, Below.drew (Below.refl _ w6)⟩ (fun hHeld => ?_)
  refine wpAnyH_take (i := 0) (v := _) rfl (by kernel_rfl) (by kernel_rfl) (by kernel_rfl) (fun _ _ _ h => h) (yields_load_box (by kernel_rfl) 64 (.tmp 2) rfl (w.heap.size) 64 (qac q (.slice A1 q.tasks.length c1) (.slice A2 q.smalls.length c2) (.slice A3 q.timers.length c3) a) _ rfl (fun _ h => h.1) Try.underlying64 rfl info_asked) (by assumption) ?_
  (try simp only [Act.put, List.getElem_toArray, List.getElem_cons_succ, List.getElem_cons_zero, List.setIfInBounds_toArray, List.set_cons_zero, List.set_cons_succ])
  refine wpAnyH_take (i := 1) (v := ?_) rfl (by kernel_rfl) (by kernel_rfl) (by kernel_rfl) (fun _ _ _ h => h) (Or.inl ⟨by kernel_rfl, ?_⟩) (by assumption) ?_
  rotate_left
  · intro w hSw
    (try dsimp only at hSw)
    go_simp
    try (with_reducible rfl)
  (try simp only [Act.put, List.getElem_toArray, List.getElem_cons_succ, List.getElem_cons_zero, List.setIfInBounds_toArray, List.set_cons_zero, List.set_cons_succ])
  refine wpAnyH_take (i := 2) (v := ?_) rfl (by kernel_rfl) (by kernel_rfl) (by kernel_rfl) (fun _ _ _ h => h) (Or.inl ⟨by kernel_rfl, ?_⟩) (by assumption) ?_
  rotate_left
  · intro w hSw
    (try dsimp only at hSw)
    go_simp
    try (with_reducible rfl)
  (try simp only [Act.put, List.getElem_toArray, List.getElem_cons_succ, List.getElem_cons_zero, List.setIfInBounds_toArray, List.set_cons_zero, List.set_cons_succ])
  refine wpAnyH_take (i := 3) (v := ?_) rfl (by kernel_rfl) (by kernel_rfl) (by kernel_rfl) (fun _ _ _ h => h) (Or.inl ⟨by kernel_rfl, ?_⟩) (by assumption) ?_
  rotate_left
  · intro w hSw
    (try dsimp only at hSw)
    go_simp
    try (with_reducible rfl)
  (try simp only [Act.put, List.getElem_toArray, List.getElem_cons_succ, List.getElem_cons_zero, List.setIfInBounds_toArray, List.set_cons_zero, List.set_cons_succ])
  refine wpAnyH_take (i := 4) (v := ?_) rfl (by kernel_rfl) (by kernel_rfl) (by kernel_rfl) (fun _ _ _ h => h) (Or.inl ⟨by kernel_rfl, ?_⟩) (by assumption) ?_
  rotate_left
  · intro w hSw
    (try dsimp only at hSw)
    go_simp
    try (with_reducible rfl)
  (try simp only [Act.put, List.getElem_toArray, List.getElem_cons_succ, List.getElem_cons_zero, List.setIfInBounds_toArray, List.set_cons_zero, List.set_cons_succ])
  refine wpAnyH_ready (rs := [5]) (by kernel_rfl) (by simp) ?_
  refine AllReadyH.cons rfl (fun K hK => ?_) AllReadyH.nil
  go_simp
  refine (HF.out _ _ _ _).mono ?_
  rintro e w7 ⟨rfl, hb7_⟩
  go_wp2_with (fail)
  refine hK.out _ _ ?_ (fun hHeld => ?_)
  · exact ⟨hb.below (hHeld.2.2.trans hb7_) hb.lt, ((hHeld.2.2.trans hb7_).cell (p := ⟨w.heap.size, 3, none⟩) hb.lt).trans row_, hHeld.2.2.trans hb7_⟩
  clear hK K
  (try simp only [Act.put, List.getElem_toArray, List.getElem_cons_succ, List.getElem_cons_zero, List.setIfInBounds_toArray, List.set_cons_zero, List.set_cons_succ])
  refine wpAnyH_done (by kernel_rfl) ?_ _
  have hb7 : Below w6.heap.size w6 w7 := hHeld.2.2
  clear hHeld row_
  have hb_ := Box.below hb hb7 hb.lt
  clear hb
  have hb := hb_
  clear hb_
  have hl_ := Box.below hl hb7 hl.lt
  clear hl
  have hl := hl_
  clear hl_
  have hx4_ := Box.below hx4 hb7 hx4.lt
  clear hx4
  have hx4 := hx4_
  clear hx4_
  have hx5_ := Box.below hx5 hb7 hx5.lt
  clear hx5
  have hx5 := hx5_
  clear hx5_
  have hU7 : Below w.heap.size w w7 := hU6.trans (hb7.mono hU6.size)
  have hz7 : w6.heap.size ≤ w7.heap.size := hb7.size
  clear hb7 hU6
  go_wp2_with (first | (refine wpList_load_row rfl 26 (.tmp 7) rfl (W.heap.size) rfl _ (lag q (.slice A1 q.tasks.length c1) (.slice A2 q.smalls.length c2) (.slice A3 q.timers.length c3)) (0, 0) _ hx4 Try.underlying26 rfl info_loop ?_) | (refine wpList_store_box rfl 26 (.tmp 4) (.tmp 42) rfl (w.heap.size + 1) (lag q (.slice A1 q.tasks.length c1) (.slice A2 q.smalls.length c2) (.slice A3 q.timers.length c3)) rfl rfl 26 _ hl info_loop rfl hone ?_; intro w9 hx9 hu9 hz9; clear hz9))
  refine bodyPost_ret (results_btt rfl (Back.mk' (w.heap.size + 1) 26 _ rfl hx9 Try.underlying26 rfl info_loop)) rfl ?_
  have hB9 : Below w.heap.size w w9 := hU7.trans (Upd.own (B := w.heap.size) hu9 (by omega) hU7.size)
  exact ⟨_, _, _, by rw [HP.out]; rfl, by rw [HP.out]; exact HO.out.below hB9, Step.same hB9⟩

end Go.Proofs.Ytpjbblbehbepbaa
