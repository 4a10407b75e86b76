/-
  A job is asked for. Conditions: the loop's rows are its own; the loop is right.
-/
import Derived.Test.YtpjbblbehbepbaaLpR
namespace Go.Proofs.Ytpjbblbehbepbaa
set_option linter.unusedSimpArgs false
set_option linter.unusedVariables false
open Go.RowKit

set_option maxRecDepth 100000 in
set_option maxHeartbeats 4000000 in
theorem small_ok (q : Loopy.Loop) (a : Loopy.Ask) (B : Nat) (T S R : Value) (w : World) (ho : Own w B q T S R) (hB : B ≤ w.heap.size) (hr : Loopy.Right q) (hf : Loopy.full q.smalls.length q = false) :
    Calls Try.prog 39 #[.agg (qac q T S R a), .bool true] w fun e w' => AskOut w B T S R (Loopy.post q a true) e w' := by
  have HP : Hid (Loopy.post q a true = ({ q with smalls := q.smalls ++ [⟨q.next, 0, true, a.call, a.arg⟩], next := q.next + 1 }, q.next, 0)) := by
    show Loopy.post q a true = _
    unfold Loopy.post
    simp only [if_true, if_false, Bool.false_eq_true]
    rw [if_neg (by rw [hf]; decide)]
  have HF : Hid (∀ w T S R, Calls Try.prog 47 #[.agg (qac q T S R a), .int .i64 (q.smalls.length : Int)] w fun e w' => e = .returned (.bool false) ∧ Below w.heap.size w w') := fun w T S R => by
    have := full_any q.smalls.length q T S R a w
    rw [hf] at this
    exact this
  have hlen : q.smalls.length < 100 := by
    unfold Loopy.full at hf
    simp only [Bool.or_eq_false_iff, decide_eq_false_iff_not] at hf
    omega
  have hnx : q.next < 1000000000 := by
    unfold Loopy.full at hf
    simp only [Bool.or_eq_false_iff, decide_eq_false_iff_not] at hf
    have := hr.nxt1
    unfold Loopy.most at hf this
    omega
  clear hf
  have hn0 := hr.nxt0
  have hn1 := hr.nxt1
  unfold Loopy.most at hn1
  have l1 := hr.l1
  have l2 := hr.l2
  obtain ⟨A1, c1, e1⟩ := own_slice ho.t
  obtain ⟨A2, c2, e2⟩ := own_slice ho.s
  obtain ⟨A3, c3, e3⟩ := own_slice ho.r
  subst e1 e2 e3
  have HO := Lib.hid ho
  have hml := Lib.hid (fun k (hm : mine (.slice A1 q.tasks.length c1) (.slice A2 q.smalls.length c2) (.slice A3 q.timers.length c3) k) => HO.out.mine_lt hm)
  have hone : (lag q (.slice A1 q.tasks.length c1) (.slice A2 q.smalls.length c2) (.slice A3 q.timers.length c3)).all (·.oneCell') = true := by simp [Value.oneCell']
  clear ho hr
  go_enter Try.func39, Try.ntmps39
  go_upto_region 1 with (fail)
  have hb : Box ((w.alloc (.cells (qac q (.slice A1 q.tasks.length c1) (.slice A2 q.smalls.length c2) (.slice A3 q.timers.length c3) a) 64)).alloc (.cells #[.int .i64 0, .int .i64 0, .slice none 0 0, .slice none 0 0, .slice none 0 0] 26)) (w.heap.size) 64 (qac q (.slice A1 q.tasks.length c1) (.slice A2 q.smalls.length c2) (.slice A3 q.timers.length c3) a) := (Box.new w 64 (qac q (.slice A1 q.tasks.length c1) (.slice A2 q.smalls.length c2) (.slice A3 q.timers.length c3) a)).alloc (.cells #[.int .i64 0, .int .i64 0, .slice none 0 0, .slice none 0 0, .slice none 0 0] 26)
  have hl : Box ((w.alloc (.cells (qac q (.slice A1 q.tasks.length c1) (.slice A2 q.smalls.length c2) (.slice A3 q.timers.length c3) a) 64)).alloc (.cells #[.int .i64 0, .int .i64 0, .slice none 0 0, .slice none 0 0, .slice none 0 0] 26)) (w.heap.size + 1) 26 (#[.int .i64 0, .int .i64 0, .slice none 0 0, .slice none 0 0, .slice none 0 0]) := new2 w (.cells (qac q (.slice A1 q.tasks.length c1) (.slice A2 q.smalls.length c2) (.slice A3 q.timers.length c3) a) 64) 26 #[.int .i64 0, .int .i64 0, .slice none 0 0, .slice none 0 0, .slice none 0 0]
  have hU0 : Below w.heap.size w ((w.alloc (.cells (qac q (.slice A1 q.tasks.length c1) (.slice A2 q.smalls.length c2) (.slice A3 q.timers.length c3) a) 64)).alloc (.cells #[.int .i64 0, .int .i64 0, .slice none 0 0, .slice none 0 0, .slice none 0 0] 26)) := (below1 w _).alloc (by simp) _
  generalize ((w.alloc (.cells (qac q (.slice A1 q.tasks.length c1) (.slice A2 q.smalls.length c2) (.slice A3 q.timers.length c3) a) 64)).alloc (.cells #[.int .i64 0, .int .i64 0, .slice none 0 0, .slice none 0 0, .slice none 0 0] 26)) = W at *
  have hzW := hl.lt
  go_upto_region 2 with (first | (refine wpList_load_mid rfl 26 (.tmp 10) rfl (w.heap.size) 0 rfl (lag q (.slice A1 q.tasks.length c1) (.slice A2 q.smalls.length c2) (.slice A3 q.timers.length c3)).toList _ (asked_range hb) Try.underlying26 rfl info_loop ?_) | (refine wpList_store_box rfl 26 (.tmp 7) (.tmp 11) rfl W.heap.size (lag q (.slice A1 q.tasks.length c1) (.slice A2 q.smalls.length c2) (.slice A3 q.timers.length c3)) rfl rfl 26 _ (Box.new W _ _) info_loop rfl hone ?_; intro w4 hx4 hu4 hz4; clear hz4))
  have hb_ := Box.alloc hb (.cells #[.int .i64 0, .int .i64 0, .slice none 0 0, .slice none 0 0, .slice none 0 0] 26)
  clear hb
  have hb := hb_
  clear hb_
  have hl_ := Box.alloc hl (.cells #[.int .i64 0, .int .i64 0, .slice none 0 0, .slice none 0 0, .slice none 0 0] 26)
  clear hl
  have hl := hl_
  clear hl_
  have hb_ := Box.grown hb hu4 (by intro h; injection h with h; omega)
  clear hb
  have hb := hb_
  clear hb_
  have hl_ := Box.grown hl hu4 (by intro h; injection h with h; omega)
  clear hl
  have hl := hl_
  clear hl_
  have hU4 : Below w.heap.size w w4 := (hU0.alloc hU0.size _).trans (hu4.own (by omega) (by simp; omega))
  have hz4 := hx4.lt
  clear hu4 hU0
  have q1 := hx4.cell 1
  have a6 := hb.cell 6
  have a8 := hb.cell 8
  have a9 := hb.cell 9
  have a10 := hb.cell 10
  have a11 := hb.cell 11
  simp at q1 a6 a8 a9 a10 a11
  go_upto_region 3 with (refine wpList_store_box rfl 39 (.tmp 9) (.tmp 26) rfl w4.heap.size (jc ⟨q.next, a.src, true, a.call, a.arg⟩) rfl rfl 39 _ (Box.new w4 _ _) info_job rfl (jc_one _) ?_; intro w5 hx5 hu5 hz5; clear hz5)
  clear q1 a6 a8 a9 a10 a11
  have hb_ := Box.alloc hb (.cells #[.int .i64 0, .int .i64 0, .bool false, .string ⟨#[]⟩, .int .i64 0, .int .i64 0, .string ⟨#[]⟩] 39)
  clear hb
  have hb := hb_
  clear hb_
  have hl_ := Box.alloc hl (.cells #[.int .i64 0, .int .i64 0, .bool false, .string ⟨#[]⟩, .int .i64 0, .int .i64 0, .string ⟨#[]⟩] 39)
  clear hl
  have hl := hl_
  clear hl_
  have hx4_ := Box.alloc hx4 (.cells #[.int .i64 0, .int .i64 0, .bool false, .string ⟨#[]⟩, .int .i64 0, .int .i64 0, .string ⟨#[]⟩] 39)
  clear hx4
  have hx4 := hx4_
  clear hx4_
  have hb_ := Box.grown hb hu5 (by intro h; injection h with h; omega)
  clear hb
  have hb := hb_
  clear hb_
  have hl_ := Box.grown hl hu5 (by intro h; injection h with h; omega)
  clear hl
  have hl := hl_
  clear hl_
  have hx4_ := Box.grown hx4 hu5 (by intro h; injection h with h; omega)
  clear hx4
  have hx4 := hx4_
  clear hx4_
  have hU5 : Below w.heap.size w w5 := (hU4.alloc hU4.size _).trans (hu5.own (by omega) (by simp; omega))
  have hz5 := hx5.lt
  clear hu5 hU4
  have f1 := hx5.frozen 1
  have j1 := hx5.cell 1
  simp at j1
  go_upto_region 7 with (fail)
  clear f1 j1
  have hb_ := Box.far hb (p := ⟨w4.heap.size, 1, none⟩) (by simp <;> omega) (.int .i64 0)
  clear hb
  have hb := hb_
  clear hb_
  have hl_ := Box.far hl (p := ⟨w4.heap.size, 1, none⟩) (by simp <;> omega) (.int .i64 0)
  clear hl
  have hl := hl_
  clear hl_
  have hx4_ := Box.far hx4 (p := ⟨w4.heap.size, 1, none⟩) (by simp <;> omega) (.int .i64 0)
  clear hx4
  have hx4 := hx4_
  clear hx4_
  have hx5_ := Box.set hx5 1 (.int .i64 0)
  clear hx5
  have hx5 := hx5_
  clear hx5_
  have hU6 : Below w.heap.size w (w5.setCell ⟨w4.heap.size, 1, none⟩ (.int .i64 0)) := hU5.setCell (by show _ ≤ w4.heap.size; omega) _
  have hz6 : (w5.setCell ⟨w4.heap.size, 1, none⟩ (.int .i64 0)).heap.size = w5.heap.size := by simp
  generalize (w5.setCell ⟨w4.heap.size, 1, none⟩ (.int .i64 0)) = w6 at *
  change Box w6 (w4.heap.size) 39 (jc ⟨q.next, 0, true, a.call, a.arg⟩) at hx5
  have HZ6 := Lib.hid hz6
  have hz6' : w5.heap.size ≤ w6.heap.size := by rw [HZ6.out]; exact Nat.le_refl _
  clear hz6 hU5
  have hz5' : w4.heap.size < w6.heap.size := hx5.lt
  clear hz5
  have hz5 := hz5'
  clear hz5'
  have row_ := hb.cell 3
  simp at row_
  refine wp_region_held_drew (S := fun w' => Box w' (w.heap.size) 64 (qac q (.slice A1 q.tasks.length c1) (.slice A2 q.smalls.length c2) (.slice A3 q.timers.length c3) a) ∧ w'.cell? ⟨w.heap.size, 3, none⟩ = some (.slice A2 q.smalls.length c2) ∧ Below w6.heap.size w6 w') (by kernel_rfl) ⟨hb, row_, Below.drew (Below.refl _ w6)⟩ (fun hHeld => ?_)
  refine wpAnyH_take (i := 0) (v := _) rfl (by kernel_rfl) (by kernel_rfl) (by kernel_rfl) (fun _ _ _ h => h) (yields_load_box (by kernel_rfl) 64 (.tmp 2) rfl (w.heap.size) 64 (qac q (.slice A1 q.tasks.length c1) (.slice A2 q.smalls.length c2) (.slice A3 q.timers.length c3) a) _ rfl (fun _ h => h.1) Try.underlying64 rfl info_asked) (by assumption) ?_
  (try simp only [Act.put, List.getElem_toArray, List.getElem_cons_succ, List.getElem_cons_zero, List.setIfInBounds_toArray, List.set_cons_zero, List.set_cons_succ])
  refine wpAnyH_take (i := 1) (v := ?_) rfl (by kernel_rfl) (by kernel_rfl) (by kernel_rfl) (fun _ _ _ h => h) (Or.inl ⟨by kernel_rfl, ?_⟩) (by assumption) ?_
  rotate_left
  · intro w hSw
    (try dsimp only at hSw)
    go_simp
    try (with_reducible rfl)
  (try simp only [Act.put, List.getElem_toArray, List.getElem_cons_succ, List.getElem_cons_zero, List.setIfInBounds_toArray, List.set_cons_zero, List.set_cons_succ])
  refine wpAnyH_take (i := 2) (v := ?_) rfl (by kernel_rfl) (by kernel_rfl) (by kernel_rfl) (fun _ _ _ h => h) (Or.inl ⟨by kernel_rfl, ?_⟩) (by assumption) ?_
  rotate_left
  · intro w hSw
    (try dsimp only at hSw)
    go_simp
    try (with_reducible rfl)
  (try simp only [Act.put, List.getElem_toArray, List.getElem_cons_succ, List.getElem_cons_zero, List.setIfInBounds_toArray, List.set_cons_zero, List.set_cons_succ])
  refine wpAnyH_take (i := 3) (v := ?_) rfl (by kernel_rfl) (by kernel_rfl) (by kernel_rfl) (fun _ _ _ h => h) (Or.inl ⟨by kernel_rfl, ?_⟩) (by assumption) ?_
  rotate_left
  · intro w hSw
    (try dsimp only at hSw)
    go_simp
    try (with_reducible rfl)
  (try simp only [Act.put, List.getElem_toArray, List.getElem_cons_succ, List.getElem_cons_zero, List.setIfInBounds_toArray, List.set_cons_zero, List.set_cons_succ])
  refine wpAnyH_take (i := 4) (v := ?_) rfl (by kernel_rfl) (by kernel_rfl) (by kernel_rfl) (fun _ _ _ h => h) (Or.inl ⟨by kernel_rfl, ?_⟩) (by assumption) ?_
  rotate_left
  · intro w hSw
    (try dsimp only at hSw)
    go_simp
    try (with_reducible rfl)
  (try simp only [Act.put, List.getElem_toArray, List.getElem_cons_succ, List.getElem_cons_zero, List.setIfInBounds_toArray, List.set_cons_zero, List.set_cons_succ])
  refine wpAnyH_ready (rs := [5]) (by kernel_rfl) (by simp) ?_
  refine AllReadyH.cons rfl (fun K hK => ?_) AllReadyH.nil
  go_simp
  refine (HF.out _ _ _ _).mono ?_
  rintro e w7 ⟨rfl, hb7_⟩
  go_wp2_with (fail)
  refine hK.out _ _ ?_ (fun hHeld => ?_)
  · exact ⟨hb.below (hHeld.2.2.trans hb7_) hb.lt, ((hHeld.2.2.trans hb7_).cell (p := ⟨w.heap.size, 3, none⟩) hb.lt).trans row_, hHeld.2.2.trans hb7_⟩
  clear hK K
  (try simp only [Act.put, List.getElem_toArray, List.getElem_cons_succ, List.getElem_cons_zero, List.setIfInBounds_toArray, List.set_cons_zero, List.set_cons_succ])
  refine wpAnyH_done (by kernel_rfl) ?_ _
  have hb7 : Below w6.heap.size w6 w7 := hHeld.2.2
  clear hHeld row_
  have hb_ := Box.below hb hb7 hb.lt
  clear hb
  have hb := hb_
  clear hb_
  have hl_ := Box.below hl hb7 hl.lt
  clear hl
  have hl := hl_
  clear hl_
  have hx4_ := Box.below hx4 hb7 hx4.lt
  clear hx4
  have hx4 := hx4_
  clear hx4_
  have hx5_ := Box.below hx5 hb7 hx5.lt
  clear hx5
  have hx5 := hx5_
  clear hx5_
  have hU7 : Below w.heap.size w w7 := hU6.trans (hb7.mono hU6.size)
  have hz7 : w6.heap.size ≤ w7.heap.size := hb7.size
  clear hb7 hU6
  have hO7 := Lib.hid (HO.out.below hU7)
  obtain ⟨i0, hi0, hz0, hz1, hz2⟩ := info_parts parts_job
  have hj1 : Hid (∀ u ∈ (jc ⟨q.next, 0, true, a.call, a.arg⟩).toList, u.oneCell' = true) := by intro u hu; exact flat_one (f := jc) jc_one [⟨q.next, 0, true, a.call, a.arg⟩] u (by simpa [flat] using hu)
  have hBz7 : B ≤ w7.heap.size + 1 := by have := hU7.size; omega
  have row_ := hb.cell 3
  have frow := hb.frozen 3
  have j0 := hx5.cell 0
  have j1 := hx5.cell 1
  have j2 := hx5.cell 2
  have j3 := hx5.cell 3
  have j4 := hx5.cell 4
  have j5 := hx5.cell 5
  have j6 := hx5.cell 6
  simp at row_ j0 j1 j2 j3 j4 j5 j6
  have hbne : w.heap.size < w7.heap.size := hb.lt
  go_wp2_with (fail)
  go_region_law (refine step_append_lies _ rfl (.tmp 46) (.tmp 48) 23 rfl B 39 i0 _ 7 72 Try.underlying23 hi0 hz0 hz1 hz2 rfl (by decide) (.slice A2 q.smalls.length c2) q.smalls.length (flat jc q.smalls) (by simp [Act.eval, Act.put]) (by exact hO7.out.s.alloc _) ⟨w7.heap.size, 0, none⟩ 1 1 (jc ⟨q.next, 0, true, a.call, a.arg⟩).toList (by simp [Act.eval, Act.put]) rfl (by exact World.news_of_block (Box.new w7 _ (jc ⟨q.next, 0, true, a.call, a.arg⟩))) hj1.out (by omega) (by unfold maxLen; omega) (by omega) (by simpa using hBz7) (w7.heap.size + 1) (by simp) ?_; intro g8 cap8 w8 hown8 hgr8 hor8 hlt8; have hb8 : Box w8 w.heap.size 64 (qac q (.slice A1 q.tasks.length c1) (.slice A2 q.smalls.length c2) (.slice A3 q.timers.length c3) a) := (Box.drew (Box.alloc hb (.cells (jc ⟨q.next, 0, true, a.call, a.arg⟩) 39))).grown hgr8 (fun h => by have := hml.out w.heap.size (.inr (.inl h.symm)); omega); have row8 := hb8.cell 3; have frow8 := hb8.frozen 3; simp at row8)
  all_goals
    clear row_ frow j0 j1 j2 j3 j4 j5 j6 hx4
    have hl_ := (Box.drew (Box.alloc hl (.cells (jc ⟨q.next, 0, true, a.call, a.arg⟩) 39))).grown hgr8 (fun h => by have := hml.out _ (.inr (.inl h.symm)); omega)
    clear hl
    have hl := hl_
    clear hl_
    have hx5_ := (Box.drew (Box.alloc hx5 (.cells (jc ⟨q.next, 0, true, a.call, a.arg⟩) 39))).grown hgr8 (fun h => by have := hml.out _ (.inr (.inl h.symm)); omega)
    clear hx5
    have hx5 := hx5_
    clear hx5_
    have hK8 : Kp w w8 (mine (.slice A1 q.tasks.length c1) (.slice A2 q.smalls.length c2) (.slice A3 q.timers.length c3)) := ((Kp.below hU7).alloc (.cells (jc ⟨q.next, 0, true, a.call, a.arg⟩) 39)).drew.grown hgr8 (fun k e => .inl (.inr (.inl e)))
    have hg8 : ((.slice A2 q.smalls.length c2 : Value)).ownBlock = some g8 ∨ w.heap.size < g8 := hor8.imp id (fun h => by omega)
    have hlg8 : (.slice A2 q.smalls.length c2 : Value).ownBlock = some g8 ∨ g8 = w7.heap.size + 1 := hor8
    have hg8n : g8 ≠ w.heap.size := by
      rcases hg8 with h | h
      · have := hml.out _ (.inr (.inl h)); omega
      · omega
    have hO8 : Own w8 B ({ q with smalls := q.smalls ++ [⟨q.next, 0, true, a.call, a.arg⟩], next := q.next + 1 } : Loopy.Loop) (.slice A1 q.tasks.length c1) (.slice (some ⟨g8, 0, none⟩) (q.smalls.length + 1) cap8) (.slice A3 q.timers.length c3) := by
      have h7 := hO7.out
      have hal := fun k (hm : mine (.slice A1 q.tasks.length c1) (.slice A2 q.smalls.length c2) (.slice A3 q.timers.length c3) k) => hml.out k hm
      have hnew : w8.ownsRow B 39 7 (.slice (some ⟨g8, 0, none⟩) (q.smalls.length + 1) cap8) (q.smalls ++ [(⟨q.next, 0, true, a.call, a.arg⟩ : Loopy.Job)]).length (flat jc (q.smalls ++ [(⟨q.next, 0, true, a.call, a.arg⟩ : Loopy.Job)])) := by
        rw [List.length_append, flat_append]
        simpa [flat] using hown8
      have hap : ∀ v : Value, Apart (.slice A2 q.smalls.length c2) v → (∀ k, v.ownBlock = some k → k < w.heap.size) → Apart (.slice (some ⟨g8, 0, none⟩) (q.smalls.length + 1) cap8) v := fun v ha hv k hk hk2 => by
        simp [Value.ownBlock] at hk
        subst hk
        rcases hg8 with h | h
        · exact ha _ h hk2
        · have := hv _ hk2; omega
      exact ⟨own_grown (h7.t.alloc (.cells (jc ⟨q.next, 0, true, a.call, a.arg⟩) 39)).drew hgr8 h7.ts.ne, hnew, own_grown (h7.r.alloc (.cells (jc ⟨q.next, 0, true, a.call, a.arg⟩) 39)).drew hgr8 h7.sr.symm.ne, (hap _ h7.ts.symm (fun k h => hal k (.inl h))).symm, h7.tr, hap _ h7.sr (fun k h => hal k (.inr (.inr h)))⟩
    have hfr : ∀ k, mine (.slice A1 q.tasks.length c1) (.slice (some ⟨g8, 0, none⟩) (q.smalls.length + 1) cap8) (.slice A3 q.timers.length c3) k → mine (.slice A1 q.tasks.length c1) (.slice A2 q.smalls.length c2) (.slice A3 q.timers.length c3) k ∨ w.heap.size < k := by
      have h8 : ∀ k, (.slice (some ⟨g8, 0, none⟩) (q.smalls.length + 1) cap8 : Value).ownBlock = some k → mine (.slice A1 q.tasks.length c1) (.slice A2 q.smalls.length c2) (.slice A3 q.timers.length c3) k ∨ w.heap.size < k := fun k hk => by
        simp [Value.ownBlock] at hk
        subst hk
        exact hg8.imp (fun h => .inr (.inl h)) id
      rintro k (h | h | h)
      · exact .inl (.inl h)
      · exact h8 k h
      · exact .inl (.inr (.inr h))
    have hmy : ∀ k, mine (.slice A1 q.tasks.length c1) (.slice (some ⟨g8, 0, none⟩) (q.smalls.length + 1) cap8) (.slice A3 q.timers.length c3) k → k ≠ w.heap.size := fun k hk e => by
      rcases hfr k hk with h | h
      · have := hml.out k h; omega
      · omega
    have hn8 := hgr8.size
    simp at hn8
    have r1 := hb8.cell 1
    have fr1 := hb8.frozen 1
    simp at r1
    go_upto_region 11 with (fail)
    clear r1 fr1 row8 frow8
    have hl_ := Box.far hl (p := ⟨w.heap.size, 3, none⟩) (by simp <;> omega) (.slice (some ⟨g8, 0, none⟩) (q.smalls.length + 1) cap8)
    clear hl
    have hl := hl_
    clear hl_
    have hx5_ := Box.far hx5 (p := ⟨w.heap.size, 3, none⟩) (by simp <;> omega) (.slice (some ⟨g8, 0, none⟩) (q.smalls.length + 1) cap8)
    clear hx5
    have hx5 := hx5_
    clear hx5_
    have hb8_ := Box.set hb8 3 (.slice (some ⟨g8, 0, none⟩) (q.smalls.length + 1) cap8)
    clear hb8
    have hb8 := hb8_
    clear hb8_
    have hl_ := Box.far hl (p := ⟨w.heap.size, 1, none⟩) (by simp <;> omega) (.int .i64 (q.next + 1))
    clear hl
    have hl := hl_
    clear hl_
    have hx5_ := Box.far hx5 (p := ⟨w.heap.size, 1, none⟩) (by simp <;> omega) (.int .i64 (q.next + 1))
    clear hx5
    have hx5 := hx5_
    clear hx5_
    have hb8_ := Box.set hb8 1 (.int .i64 (q.next + 1))
    clear hb8
    have hb8 := hb8_
    clear hb8_
    have hU9 : Upd w8 ((w8.setCell ⟨w.heap.size, 3, none⟩ (.slice (some ⟨g8, 0, none⟩) (q.smalls.length + 1) cap8)).setCell ⟨w.heap.size, 1, none⟩ (.int .i64 (q.next + 1))) w.heap.size := ((Upd.refl w8 w.heap.size).set (p := ⟨w.heap.size, 3, none⟩) (.inl rfl) (.slice (some ⟨g8, 0, none⟩) (q.smalls.length + 1) cap8)).set (p := ⟨w.heap.size, 1, none⟩) (.inl rfl) (.int .i64 (q.next + 1))
    have hz9 : ((w8.setCell ⟨w.heap.size, 3, none⟩ (.slice (some ⟨g8, 0, none⟩) (q.smalls.length + 1) cap8)).setCell ⟨w.heap.size, 1, none⟩ (.int .i64 (q.next + 1))).heap.size = w8.heap.size := by simp
    generalize ((w8.setCell ⟨w.heap.size, 3, none⟩ (.slice (some ⟨g8, 0, none⟩) (q.smalls.length + 1) cap8)).setCell ⟨w.heap.size, 1, none⟩ (.int .i64 (q.next + 1))) = w9 at *
    change Box w9 (w.heap.size) 64 (qac ({ q with smalls := q.smalls ++ [⟨q.next, 0, true, a.call, a.arg⟩], next := q.next + 1 } : Loopy.Loop) (.slice A1 q.tasks.length c1) (.slice (some ⟨g8, 0, none⟩) (q.smalls.length + 1) cap8) (.slice A3 q.timers.length c3) a) at hb8
    have hO9 := hO8.past hU9 (fun h => hmy _ h rfl)
    have hK9 := hK8.upd hU9 (.inr (Nat.le_refl _))
    have hj0 := hx5.cell 0
    simp at hj0
    have hzz : w.heap.size + 1 < w9.heap.size := hl.lt
    have hone2 : (lag ({ q with smalls := q.smalls ++ [⟨q.next, 0, true, a.call, a.arg⟩], next := q.next + 1 } : Loopy.Loop) (.slice A1 q.tasks.length c1) (.slice (some ⟨g8, 0, none⟩) (q.smalls.length + 1) cap8) (.slice A3 q.timers.length c3)).all (·.oneCell') = true := by simp [Value.oneCell']
    have HK9 := Lib.hid hK9
    have HO9 := Lib.hid hO9
    have HFR := Lib.hid hfr
    have HZ9 := Lib.hid hz9
    clear hz9 hO9 hK9 hfr hmy hO8 hK8 hU9 hgr8 hown8 hor8
    refine wp_region_held_drew (S := fun w' => Box w' (w.heap.size) 64 (qac ({ q with smalls := q.smalls ++ [⟨q.next, 0, true, a.call, a.arg⟩], next := q.next + 1 } : Loopy.Loop) (.slice A1 q.tasks.length c1) (.slice (some ⟨g8, 0, none⟩) (q.smalls.length + 1) cap8) (.slice A3 q.timers.length c3) a) ∧ w'.cell? ⟨w4.heap.size, 0, none⟩ = some (.int .i64 q.next)) (by kernel_rfl) ⟨hb8, hj0⟩ (fun hHeld => ?_)
    refine wpAnyH_take (i := 0) (v := ?_) rfl (by kernel_rfl) (by kernel_rfl) (by kernel_rfl) (fun _ _ _ h => h) (Or.inl ⟨by kernel_rfl, ?_⟩) (by assumption) ?_
    rotate_left
    · intro w hSw
      (try dsimp only at hSw)
      go_simp
      try (with_reducible rfl)
    (try simp only [Act.put, List.getElem_toArray, List.getElem_cons_zero, List.setIfInBounds_toArray, List.set_cons_zero, List.set_cons_succ])
    refine wpAnyH_take (i := 2) (v := ?_) rfl (by kernel_rfl) (by kernel_rfl) (by kernel_rfl) (fun _ _ _ h => h) (Or.inl ⟨by kernel_rfl, ?_⟩) (by assumption) ?_
    rotate_left
    · intro w hSw
      (try dsimp only at hSw)
      go_simp
      try (with_reducible rfl)
    (try simp only [Act.put, List.getElem_toArray, List.getElem_cons_succ, List.getElem_cons_zero, List.setIfInBounds_toArray, List.set_cons_zero, List.set_cons_succ])
    refine wpAnyH_take (i := 1) (v := _) rfl (by kernel_rfl) (by kernel_rfl) (by kernel_rfl) (fun _ _ _ h => h) (yieldsIf_load_mid (by kernel_rfl) 26 (.tmp 57) rfl (w.heap.size) 0 rfl ((lag ({ q with smalls := q.smalls ++ [⟨q.next, 0, true, a.call, a.arg⟩], next := q.next + 1 } : Loopy.Loop) (.slice A1 q.tasks.length c1) (.slice (some ⟨g8, 0, none⟩) (q.smalls.length + 1) cap8) (.slice A3 q.timers.length c3)).toList) _ (fun _ h => asked_range h.1) Try.underlying26 rfl info_loop) (by assumption) ?_
    (try simp only [Act.put, List.getElem_toArray, List.getElem_cons_succ, List.getElem_cons_zero, List.setIfInBounds_toArray, List.set_cons_zero, List.set_cons_succ])
    refine wpAnyH_take (i := 3) (v := ?_) rfl (by kernel_rfl) (by kernel_rfl) (by kernel_rfl) (fun _ _ _ h => h) (Or.inl ⟨by kernel_rfl, ?_⟩) (by assumption) ?_
    rotate_left
    · intro w hSw
      (try dsimp only at hSw)
      go_simp
      try (with_reducible rfl)
    (try simp only [Act.put, List.getElem_toArray, List.getElem_cons_succ, List.getElem_cons_zero, List.setIfInBounds_toArray, List.set_cons_zero, List.set_cons_succ])
    refine wpAnyH_ready (rs := [4]) (by kernel_rfl) (by simp) ?_
    refine AllReadyH.cons rfl (fun K hK => ?_) AllReadyH.nil
    refine step_store_box rfl 26 (.tmp 4) (.tmp 58) rfl (w.heap.size + 1) (lag ({ q with smalls := q.smalls ++ [⟨q.next, 0, true, a.call, a.arg⟩], next := q.next + 1 } : Loopy.Loop) (.slice A1 q.tasks.length c1) (.slice (some ⟨g8, 0, none⟩) (q.smalls.length + 1) cap8) (.slice A3 q.timers.length c3)) rfl rfl 26 _ (Box.drew hl) info_loop rfl hone2 ?_; intro w10 hx10 hu10 hz10
    refine hK.out _ _ ⟨Box.grown (Box.drew hb8) hu10 (by intro h; injection h with h; omega), (World.cell?_of_block (hu10.block _ (by show _ < w9.heap.size; exact hx5.lt) (by simp; omega))).trans hj0⟩ (fun hHeld => ?_)
    clear hK K
    (try simp only [Act.put, List.getElem_toArray, List.getElem_cons_succ, List.getElem_cons_zero, List.setIfInBounds_toArray, List.set_cons_zero, List.set_cons_succ])
    refine wpAnyH_take (i := 5) (v := ?_) rfl (by kernel_rfl) (by kernel_rfl) (by kernel_rfl) (fun _ _ _ h => h) (Or.inl ⟨by kernel_rfl, ?_⟩) (by assumption) ?_
    rotate_left
    · intro w hSw
      (try dsimp only at hSw)
      go_simp
      try (with_reducible rfl)
    (try simp only [Act.put, List.getElem_toArray, List.getElem_cons_succ, List.getElem_cons_zero, List.setIfInBounds_toArray, List.set_cons_zero, List.set_cons_succ])
    refine wpAnyH_take (i := 6) (v := ?_) rfl (by kernel_rfl) (by kernel_rfl) (by kernel_rfl) (fun _ _ _ h => h) (Or.inl ⟨by kernel_rfl, ?_⟩) (by assumption) ?_
    rotate_left
    · intro w hSw
      (try dsimp only at hSw)
      go_simp
      try (with_reducible rfl)
    (try simp only [Act.put, List.getElem_toArray, List.getElem_cons_succ, List.getElem_cons_zero, List.setIfInBounds_toArray, List.set_cons_zero, List.set_cons_succ])
    refine wpAnyH_done (by kernel_rfl) ?_ _
    go_wp2
    refine bodyPost_ret (results_btt rfl (Back.mk' (w.heap.size + 1) 26 _ rfl hx10 Try.underlying26 rfl info_loop)) rfl ?_
    have hO9d : Own w9.drew B ({ q with smalls := q.smalls ++ [⟨q.next, 0, true, a.call, a.arg⟩], next := q.next + 1 } : Loopy.Loop) (.slice A1 q.tasks.length c1) (.slice (some ⟨g8, 0, none⟩) (q.smalls.length + 1) cap8) (.slice A3 q.timers.length c3) := ⟨HO9.out.t, HO9.out.s, HO9.out.r, HO9.out.ts, HO9.out.tr, HO9.out.sr⟩
    have hn1 : ¬ mine (.slice A1 q.tasks.length c1) (.slice (some ⟨g8, 0, none⟩) (q.smalls.length + 1) cap8) (.slice A3 q.timers.length c3) (w.heap.size + 1) := fun hm => by
      rcases hm with h | h | h
      all_goals (first | (have := (hO7.out.t.lt _ h); have := hml.out _ (.inl h); omega) | (have := hml.out _ (.inr (.inr h)); omega) | (simp [Value.ownBlock] at h; rcases hg8 with e | e; (have := hml.out _ (.inr (.inl e)); omega); (rcases hlg8 with e2 | e2; (have := hml.out _ (.inr (.inl e2)); omega); omega)))
    exact ⟨_, _, _, by rw [HP.out]; rfl, by rw [HP.out]; exact hO9d.past hu10 hn1, Step.of_kp (HK9.out.drew.upd hu10 (.inr (by omega))) (fun k hk => (HFR.out k hk).imp id Nat.le_of_lt)⟩

end Go.Proofs.Ytpjbblbehbepbaa
