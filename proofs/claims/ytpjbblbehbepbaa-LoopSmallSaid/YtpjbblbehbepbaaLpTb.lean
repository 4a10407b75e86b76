/-
  A timer is asked for. Conditions: the loop's rows are its own; the loop is right.
-/
import Derived.Test.YtpjbblbehbepbaaLpR
namespace Go.Proofs.Ytpjbblbehbepbaa
set_option linter.unusedSimpArgs false
set_option linter.unusedVariables false
open Go.RowKit

set_option maxRecDepth 100000 in
set_option maxHeartbeats 4000000 in
theorem after_ok (q : Loopy.Loop) (a : Loopy.Ask) (B : Nat) (T S R : Value) (w : World) (ho : Own w B q T S R) (hB : B ≤ w.heap.size) (hr : Loopy.Right q) (hw : Valu.within a.n 0 1000000 = true) (hl_ : ¬ 1000000000 < q.now + a.n) (hf : Loopy.full q.timers.length q = false) :
    Calls Try.prog 40 #[.agg (qac q T S R a), .bool false] w fun e w' => AskOut w B T S R (Loopy.timer q a false) e w' := by
  have HP : Hid (Loopy.timer q a false = (({ q with timers := Loopy.lay q.timers ⟨q.next, q.now + a.n, 0, 0, a.call⟩, next := q.next + 1 } : Loopy.Loop), q.next, 0)) := by
    show Loopy.timer q a false = _
    unfold Loopy.timer Loopy.most
    simp only [if_true, if_false, Bool.false_eq_true]
    rw [if_neg (by rw [hw]; decide), if_neg hl_, if_neg (by rw [hf]; decide)]
  have HF : Hid (∀ w T S R, Calls Try.prog 47 #[.agg (qac q T S R a), .int .i64 (q.timers.length : Int)] w fun e w' => e = .returned (.bool false) ∧ Below w.heap.size w w') := fun w T S R => by
    have := full_any q.timers.length q T S R a w
    rw [hf] at this
    exact this
  have hlen : q.timers.length < 100 := by
    unfold Loopy.full at hf
    simp only [Bool.or_eq_false_iff, decide_eq_false_iff_not] at hf
    omega
  have hnx : q.next < 1000000000 := by
    unfold Loopy.full at hf
    simp only [Bool.or_eq_false_iff, decide_eq_false_iff_not] at hf
    have := hr.nxt1
    unfold Loopy.most at hf this
    omega
  clear hf
  obtain ⟨hnl, hnh⟩ := Valu.within_iff.1 hw
  have HWI := Lib.hid (fun w => within_is _ _ _ _ hw w)
  clear hw
  have hn0 := hr.nxt0
  have hn1 := hr.nxt1
  have hw0 := hr.now0
  have hw1 := hr.now1
  unfold Loopy.most at hn1 hw1
  have l3 := hr.l3
  have HSR := Lib.hid hr.srt
  obtain ⟨A1, c1, e1⟩ := own_slice ho.t
  obtain ⟨A2, c2, e2⟩ := own_slice ho.s
  obtain ⟨A3, c3, e3⟩ := own_slice ho.r
  subst e1 e2 e3
  have HO := Lib.hid ho
  have hml := Lib.hid (fun k (hm : mine (.slice A1 q.tasks.length c1) (.slice A2 q.smalls.length c2) (.slice A3 q.timers.length c3) k) => HO.out.mine_lt hm)
  have hone : (lag q (.slice A1 q.tasks.length c1) (.slice A2 q.smalls.length c2) (.slice A3 q.timers.length c3)).all (·.oneCell') = true := by simp [Value.oneCell']
  clear ho hr
  go_enter Try.func40, Try.ntmps40
  go_upto_region 1 with (fail)
  have hb : Box ((w.alloc (.cells (qac q (.slice A1 q.tasks.length c1) (.slice A2 q.smalls.length c2) (.slice A3 q.timers.length c3) a) 64)).alloc (.cells #[.int .i64 0, .int .i64 0, .slice none 0 0, .slice none 0 0, .slice none 0 0] 26)) (w.heap.size) 64 (qac q (.slice A1 q.tasks.length c1) (.slice A2 q.smalls.length c2) (.slice A3 q.timers.length c3) a) := (Box.new w 64 (qac q (.slice A1 q.tasks.length c1) (.slice A2 q.smalls.length c2) (.slice A3 q.timers.length c3) a)).alloc (.cells #[.int .i64 0, .int .i64 0, .slice none 0 0, .slice none 0 0, .slice none 0 0] 26)
  have hl : Box ((w.alloc (.cells (qac q (.slice A1 q.tasks.length c1) (.slice A2 q.smalls.length c2) (.slice A3 q.timers.length c3) a) 64)).alloc (.cells #[.int .i64 0, .int .i64 0, .slice none 0 0, .slice none 0 0, .slice none 0 0] 26)) (w.heap.size + 1) 26 (#[.int .i64 0, .int .i64 0, .slice none 0 0, .slice none 0 0, .slice none 0 0]) := new2 w (.cells (qac q (.slice A1 q.tasks.length c1) (.slice A2 q.smalls.length c2) (.slice A3 q.timers.length c3) a) 64) 26 #[.int .i64 0, .int .i64 0, .slice none 0 0, .slice none 0 0, .slice none 0 0]
  have hU0 : Below w.heap.size w ((w.alloc (.cells (qac q (.slice A1 q.tasks.length c1) (.slice A2 q.smalls.length c2) (.slice A3 q.timers.length c3) a) 64)).alloc (.cells #[.int .i64 0, .int .i64 0, .slice none 0 0, .slice none 0 0, .slice none 0 0] 26)) := (below1 w _).alloc (by simp) _
  generalize ((w.alloc (.cells (qac q (.slice A1 q.tasks.length c1) (.slice A2 q.smalls.length c2) (.slice A3 q.timers.length c3) a) 64)).alloc (.cells #[.int .i64 0, .int .i64 0, .slice none 0 0, .slice none 0 0, .slice none 0 0] 26)) = W at *
  have hzW := hl.lt
  have a1 := hb.cell 1
  have a8 := hb.cell 8
  simp at a1 a8
  go_upto_region 3 with (refine wpList_store_box rfl 49 (.tmp 7) (.tmp 15) rfl W.heap.size (tc ⟨q.next, 0, 0, 0, a.call⟩) rfl rfl 49 _ (Box.new W _ _) info_timer rfl (tc_one _) ?_; intro w4 hx4 hu4 hz4; clear hz4)
  clear a1 a8
  have hb_ := Box.alloc hb (.cells #[.int .i64 0, .int .i64 0, .int .i64 0, .int .i64 0, .string ⟨#[]⟩] 49)
  clear hb
  have hb := hb_
  clear hb_
  have hl_ := Box.alloc hl (.cells #[.int .i64 0, .int .i64 0, .int .i64 0, .int .i64 0, .string ⟨#[]⟩] 49)
  clear hl
  have hl := hl_
  clear hl_
  have hb_ := Box.grown hb hu4 (by intro h; injection h with h; omega)
  clear hb
  have hb := hb_
  clear hb_
  have hl_ := Box.grown hl hu4 (by intro h; injection h with h; omega)
  clear hl
  have hl := hl_
  clear hl_
  have hU4 : Below w.heap.size w w4 := (hU0.alloc hU0.size _).trans (hu4.own (by omega) (by simp; omega))
  have hz4 := hx4.lt
  clear hu4 hU0
  have a7 := hb.cell 7
  have a0 := hb.cell 0
  simp at a7 a0
  go_wp2_with (fail)
  refine (HWI.out _).mono ?_
  rintro e w5 ⟨rfl, rfl⟩
  have a4 := hb.cell 4
  simp at a4
  go_wp2_with (refine wpList_load_row rfl 64 (.tmp 2) rfl (w.heap.size) rfl _ (qac q (.slice A1 q.tasks.length c1) (.slice A2 q.smalls.length c2) (.slice A3 q.timers.length c3) a) (0, 0) _ hb Try.underlying64 rfl info_asked ?_)
  refine (HF.out _ _ _ _).mono ?_
  rintro e w7 ⟨rfl, hb7⟩
  clear a4 a7 a0
  have hb_ := Box.below hb hb7 hb.lt
  clear hb
  have hb := hb_
  clear hb_
  have hl_ := Box.below hl hb7 hl.lt
  clear hl
  have hl := hl_
  clear hl_
  have hx4_ := Box.below hx4 hb7 hx4.lt
  clear hx4
  have hx4 := hx4_
  clear hx4_
  have hU7 : Below w.heap.size w w7 := hU4.trans (hb7.mono hU4.size)
  have hz7 : w4.heap.size ≤ w7.heap.size := hb7.size
  clear hb7 hU4
  have b0 := hb.cell 0
  have b7 := hb.cell 7
  have ft1 := hx4.frozen 1
  have t1 := hx4.cell 1
  simp at b0 b7 t1
  go_upto_region 10 with (fail)
  clear b0 b7 ft1 t1
  have hb_ := Box.far hb (p := ⟨W.heap.size, 1, none⟩) (by simp <;> omega) (.int .i64 (q.now + a.n))
  clear hb
  have hb := hb_
  clear hb_
  have hl_ := Box.far hl (p := ⟨W.heap.size, 1, none⟩) (by simp <;> omega) (.int .i64 (q.now + a.n))
  clear hl
  have hl := hl_
  clear hl_
  have hx4_ := Box.set hx4 1 (.int .i64 (q.now + a.n))
  clear hx4
  have hx4 := hx4_
  clear hx4_
  have hU8 : Below w.heap.size w (w7.setCell ⟨W.heap.size, 1, none⟩ (.int .i64 (q.now + a.n))) := hU7.setCell (by show _ ≤ W.heap.size; omega) _
  have hz8 : (w7.setCell ⟨W.heap.size, 1, none⟩ (.int .i64 (q.now + a.n))).heap.size = w7.heap.size := by simp
  generalize (w7.setCell ⟨W.heap.size, 1, none⟩ (.int .i64 (q.now + a.n))) = w8 at *
  change Box w8 (W.heap.size) 49 (tc ⟨q.next, q.now + a.n, 0, 0, a.call⟩) at hx4
  have hO8 := Lib.hid (HO.out.below hU8)
  have hz9 := hx4.lt
  have a4 := hb.cell 4
  simp at a4
  clear hz8 hU7 hz7
  go_wp2_with (refine wpList_load_row rfl 49 (.tmp 7) rfl W.heap.size rfl _ (tc ⟨q.next, q.now + a.n, 0, 0, a.call⟩) (0, 0) _ hx4 Try.underlying49 rfl info_timer ?_)
  refine (lay_any q.timers ⟨q.next, q.now + a.n, 0, 0, a.call⟩ B _ w8 hO8.out.r (by have := hU8.size; omega) HSR.out (by omega)).mono ?_
  rintro e w9 ⟨g8, k8, rfl, hown8, hor8, hlt8, hgr8⟩
  clear a4
  have hg8 : ((.slice A3 q.timers.length c3 : Value)).ownBlock = some g8 ∨ w.heap.size < g8 := hor8.imp id (fun h => by omega)
  have hg8n : g8 ≠ w.heap.size := by
    rcases hg8 with h | h
    · have := hml.out _ (.inr (.inr h)); omega
    · omega
  have hlg8 : (.slice A3 q.timers.length c3 : Value).ownBlock = some g8 ∨ w8.heap.size ≤ g8 := hor8
  have hb_ := Box.grown hb hgr8 (fun h => by have := hml.out _ (.inr (.inr h.symm)); omega)
  clear hb
  have hb := hb_
  clear hb_
  have hl_ := Box.grown hl hgr8 (fun h => by have := hml.out _ (.inr (.inr h.symm)); omega)
  clear hl
  have hl := hl_
  clear hl_
  have hx4_ := Box.grown hx4 hgr8 (fun h => by have := hml.out _ (.inr (.inr h.symm)); omega)
  clear hx4
  have hx4 := hx4_
  clear hx4_
  have hK8 : Kp w w9 (mine (.slice A1 q.tasks.length c1) (.slice A2 q.smalls.length c2) (.slice A3 q.timers.length c3)) := (Kp.below hU8).grown hgr8 (fun k e => .inl (.inr (.inr e)))
  have hO9 : Own w9 B ({ q with timers := Loopy.lay q.timers ⟨q.next, q.now + a.n, 0, 0, a.call⟩, next := q.next + 1 } : Loopy.Loop) (.slice A1 q.tasks.length c1) (.slice A2 q.smalls.length c2) (.slice (some ⟨g8, 0, none⟩) (q.timers.length + 1) k8) := by
    have h7 := hO8.out
    have hnew : w9.ownsRow B 49 5 (.slice (some ⟨g8, 0, none⟩) (q.timers.length + 1) k8) (Loopy.lay q.timers ⟨q.next, q.now + a.n, 0, 0, a.call⟩).length (flat tc (Loopy.lay q.timers ⟨q.next, q.now + a.n, 0, 0, a.call⟩)) := by
      rw [Loopy.lay_len]
      exact hown8
    have hap : ∀ v : Value, Apart v (.slice A3 q.timers.length c3) → (∀ k, v.ownBlock = some k → k < w.heap.size) → Apart v (.slice (some ⟨g8, 0, none⟩) (q.timers.length + 1) k8) := fun v ha hv k hk2 hk => by
      simp [Value.ownBlock] at hk
      subst hk
      rcases hg8 with h | h
      · exact ha _ hk2 h
      · have := hv _ hk2; omega
    exact ⟨own_grown h7.t hgr8 h7.tr.ne, own_grown h7.s hgr8 h7.sr.ne, hnew, h7.ts, hap _ h7.tr (fun k h => hml.out k (.inl h)), hap _ h7.sr (fun k h => hml.out k (.inr (.inl h)))⟩
  have hfr : ∀ k, mine (.slice A1 q.tasks.length c1) (.slice A2 q.smalls.length c2) (.slice (some ⟨g8, 0, none⟩) (q.timers.length + 1) k8) k → mine (.slice A1 q.tasks.length c1) (.slice A2 q.smalls.length c2) (.slice A3 q.timers.length c3) k ∨ w.heap.size < k := by
    rintro k (h | h | h)
    · exact .inl (.inl h)
    · exact .inl (.inr (.inl h))
    · simp [Value.ownBlock] at h
      subst h
      exact hg8.imp (fun h => .inr (.inr h)) id
  have hmy : ∀ k, mine (.slice A1 q.tasks.length c1) (.slice A2 q.smalls.length c2) (.slice (some ⟨g8, 0, none⟩) (q.timers.length + 1) k8) k → k ≠ w.heap.size := fun k hk e => by
    rcases hfr k hk with h | h
    · have := hml.out k h; omega
    · omega
  have hn8 := hgr8.size
  have r1 := hb.cell 1
  have fr1 := hb.frozen 1
  have r4 := hb.cell 4
  have fr4 := hb.frozen 4
  simp at r1 r4
  go_upto_region 12 with (fail)
  clear r1 fr1 r4 fr4
  have hb_ := Box.set hb 4 (.slice (some ⟨g8, 0, none⟩) (q.timers.length + 1) k8)
  clear hb
  have hb := hb_
  clear hb_
  have hl_ := Box.far hl (p := ⟨w.heap.size, 4, none⟩) (by simp <;> omega) (.slice (some ⟨g8, 0, none⟩) (q.timers.length + 1) k8)
  clear hl
  have hl := hl_
  clear hl_
  have hx4_ := Box.far hx4 (p := ⟨w.heap.size, 4, none⟩) (by simp <;> omega) (.slice (some ⟨g8, 0, none⟩) (q.timers.length + 1) k8)
  clear hx4
  have hx4 := hx4_
  clear hx4_
  have hb_ := Box.set hb 1 (.int .i64 (q.next + 1))
  clear hb
  have hb := hb_
  clear hb_
  have hl_ := Box.far hl (p := ⟨w.heap.size, 1, none⟩) (by simp <;> omega) (.int .i64 (q.next + 1))
  clear hl
  have hl := hl_
  clear hl_
  have hx4_ := Box.far hx4 (p := ⟨w.heap.size, 1, none⟩) (by simp <;> omega) (.int .i64 (q.next + 1))
  clear hx4
  have hx4 := hx4_
  clear hx4_
  have hU10 : Upd w9 ((w9.setCell ⟨w.heap.size, 4, none⟩ (.slice (some ⟨g8, 0, none⟩) (q.timers.length + 1) k8)).setCell ⟨w.heap.size, 1, none⟩ (.int .i64 (q.next + 1))) w.heap.size := ((Upd.refl w9 w.heap.size).set (p := ⟨w.heap.size, 4, none⟩) (.inl rfl) (.slice (some ⟨g8, 0, none⟩) (q.timers.length + 1) k8)).set (p := ⟨w.heap.size, 1, none⟩) (.inl rfl) (.int .i64 (q.next + 1))
  generalize ((w9.setCell ⟨w.heap.size, 4, none⟩ (.slice (some ⟨g8, 0, none⟩) (q.timers.length + 1) k8)).setCell ⟨w.heap.size, 1, none⟩ (.int .i64 (q.next + 1))) = w10 at *
  change Box w10 (w.heap.size) 64 (qac ({ q with timers := Loopy.lay q.timers ⟨q.next, q.now + a.n, 0, 0, a.call⟩, next := q.next + 1 } : Loopy.Loop) (.slice A1 q.tasks.length c1) (.slice A2 q.smalls.length c2) (.slice (some ⟨g8, 0, none⟩) (q.timers.length + 1) k8) a) at hb
  have hO10 := hO9.past hU10 (fun h => hmy _ h rfl)
  have hK10 := hK8.upd hU10 (.inr (Nat.le_refl _))
  have hj0 := hx4.cell 0
  simp at hj0
  have hzz : w.heap.size + 1 < w10.heap.size := hl.lt
  have hone2 : (lag ({ q with timers := Loopy.lay q.timers ⟨q.next, q.now + a.n, 0, 0, a.call⟩, next := q.next + 1 } : Loopy.Loop) (.slice A1 q.tasks.length c1) (.slice A2 q.smalls.length c2) (.slice (some ⟨g8, 0, none⟩) (q.timers.length + 1) k8)).all (·.oneCell') = true := by simp [Value.oneCell']
  have HK9 := Lib.hid hK10
  have HO9 := Lib.hid hO10
  have HFR := Lib.hid hfr
  clear hO10 hK10 hfr hmy hO9 hK8 hU10 hgr8 hown8 hor8
  refine wp_region_held_drew (S := fun w' => Box w' (w.heap.size) 64 (qac ({ q with timers := Loopy.lay q.timers ⟨q.next, q.now + a.n, 0, 0, a.call⟩, next := q.next + 1 } : Loopy.Loop) (.slice A1 q.tasks.length c1) (.slice A2 q.smalls.length c2) (.slice (some ⟨g8, 0, none⟩) (q.timers.length + 1) k8) a) ∧ w'.cell? ⟨W.heap.size, 0, none⟩ = some (.int .i64 q.next)) (by kernel_rfl) ⟨hb, hj0⟩ (fun hHeld => ?_)
  refine wpAnyH_take (i := 0) (v := ?_) rfl (by kernel_rfl) (by kernel_rfl) (by kernel_rfl) (fun _ _ _ h => h) (Or.inl ⟨by kernel_rfl, ?_⟩) (by assumption) ?_
  rotate_left
  · intro w hSw
    (try dsimp only at hSw)
    go_simp
    try (with_reducible rfl)
  (try simp only [Act.put, List.getElem_toArray, List.getElem_cons_zero, List.setIfInBounds_toArray, List.set_cons_zero, List.set_cons_succ])
  refine wpAnyH_take (i := 2) (v := ?_) rfl (by kernel_rfl) (by kernel_rfl) (by kernel_rfl) (fun _ _ _ h => h) (Or.inl ⟨by kernel_rfl, ?_⟩) (by assumption) ?_
  rotate_left
  · intro w hSw
    (try dsimp only at hSw)
    go_simp
    try (with_reducible rfl)
  (try simp only [Act.put, List.getElem_toArray, List.getElem_cons_succ, List.getElem_cons_zero, List.setIfInBounds_toArray, List.set_cons_zero, List.set_cons_succ])
  refine wpAnyH_take (i := 1) (v := _) rfl (by kernel_rfl) (by kernel_rfl) (by kernel_rfl) (fun _ _ _ h => h) (yieldsIf_load_mid (by kernel_rfl) 26 (.tmp 68) rfl (w.heap.size) 0 rfl ((lag ({ q with timers := Loopy.lay q.timers ⟨q.next, q.now + a.n, 0, 0, a.call⟩, next := q.next + 1 } : Loopy.Loop) (.slice A1 q.tasks.length c1) (.slice A2 q.smalls.length c2) (.slice (some ⟨g8, 0, none⟩) (q.timers.length + 1) k8)).toList) _ (fun _ h => asked_range h.1) Try.underlying26 rfl info_loop) (by assumption) ?_
  (try simp only [Act.put, List.getElem_toArray, List.getElem_cons_succ, List.getElem_cons_zero, List.setIfInBounds_toArray, List.set_cons_zero, List.set_cons_succ])
  refine wpAnyH_take (i := 3) (v := ?_) rfl (by kernel_rfl) (by kernel_rfl) (by kernel_rfl) (fun _ _ _ h => h) (Or.inl ⟨by kernel_rfl, ?_⟩) (by assumption) ?_
  rotate_left
  · intro w hSw
    (try dsimp only at hSw)
    go_simp
    try (with_reducible rfl)
  (try simp only [Act.put, List.getElem_toArray, List.getElem_cons_succ, List.getElem_cons_zero, List.setIfInBounds_toArray, List.set_cons_zero, List.set_cons_succ])
  refine wpAnyH_ready (rs := [4]) (by kernel_rfl) (by simp) ?_
  refine AllReadyH.cons rfl (fun K hK => ?_) AllReadyH.nil
  refine step_store_box rfl 26 (.tmp 4) (.tmp 69) rfl (w.heap.size + 1) (lag ({ q with timers := Loopy.lay q.timers ⟨q.next, q.now + a.n, 0, 0, a.call⟩, next := q.next + 1 } : Loopy.Loop) (.slice A1 q.tasks.length c1) (.slice A2 q.smalls.length c2) (.slice (some ⟨g8, 0, none⟩) (q.timers.length + 1) k8)) rfl rfl 26 _ (Box.drew hl) info_loop rfl hone2 ?_; intro w11 hx11 hu11 hz11
  refine hK.out _ _ ⟨Box.grown (Box.drew hb) hu11 (by intro h; injection h with h; omega), (World.cell?_of_block (hu11.block _ (by show _ < w10.heap.size; exact hx4.lt) (by simp; omega))).trans hj0⟩ (fun hHeld => ?_)
  clear hK K
  (try simp only [Act.put, List.getElem_toArray, List.getElem_cons_succ, List.getElem_cons_zero, List.setIfInBounds_toArray, List.set_cons_zero, List.set_cons_succ])
  refine wpAnyH_take (i := 5) (v := ?_) rfl (by kernel_rfl) (by kernel_rfl) (by kernel_rfl) (fun _ _ _ h => h) (Or.inl ⟨by kernel_rfl, ?_⟩) (by assumption) ?_
  rotate_left
  · intro w hSw
    (try dsimp only at hSw)
    go_simp
    try (with_reducible rfl)
  (try simp only [Act.put, List.getElem_toArray, List.getElem_cons_succ, List.getElem_cons_zero, List.setIfInBounds_toArray, List.set_cons_zero, List.set_cons_succ])
  refine wpAnyH_take (i := 6) (v := ?_) rfl (by kernel_rfl) (by kernel_rfl) (by kernel_rfl) (fun _ _ _ h => h) (Or.inl ⟨by kernel_rfl, ?_⟩) (by assumption) ?_
  rotate_left
  · intro w hSw
    (try dsimp only at hSw)
    go_simp
    try (with_reducible rfl)
  (try simp only [Act.put, List.getElem_toArray, List.getElem_cons_succ, List.getElem_cons_zero, List.setIfInBounds_toArray, List.set_cons_zero, List.set_cons_succ])
  refine wpAnyH_done (by kernel_rfl) ?_ _
  go_wp2
  refine bodyPost_ret (results_btt rfl (Back.mk' (w.heap.size + 1) 26 _ rfl hx11 Try.underlying26 rfl info_loop)) rfl ?_
  have hO9d : Own w10.drew B ({ q with timers := Loopy.lay q.timers ⟨q.next, q.now + a.n, 0, 0, a.call⟩, next := q.next + 1 } : Loopy.Loop) (.slice A1 q.tasks.length c1) (.slice A2 q.smalls.length c2) (.slice (some ⟨g8, 0, none⟩) (q.timers.length + 1) k8) := ⟨HO9.out.t, HO9.out.s, HO9.out.r, HO9.out.ts, HO9.out.tr, HO9.out.sr⟩
  have hn1 : ¬ mine (.slice A1 q.tasks.length c1) (.slice A2 q.smalls.length c2) (.slice (some ⟨g8, 0, none⟩) (q.timers.length + 1) k8) (w.heap.size + 1) := fun hm => by
    rcases hm with h | h | h
    · have := hml.out _ (.inl h); omega
    · have := hml.out _ (.inr (.inl h)); omega
    · simp [Value.ownBlock] at h
      rcases hlg8 with e2 | e2
      · have := hml.out _ (.inr (.inr e2)); omega
      · omega
  exact ⟨_, _, _, by rw [HP.out]; rfl, by rw [HP.out]; exact hO9d.past hu11 hn1, Step.of_kp (HK9.out.drew.upd hu11 (.inr (by omega))) (fun k hk => (HFR.out k hk).imp id Nat.le_of_lt)⟩

end Go.Proofs.Ytpjbblbehbepbaa
