/-
  What comes next. Conditions: the loop's rows are its own; the loop is right.
-/
import Derived.Test.YtpjbblbehbepbaaLpO
namespace Go.Proofs.Ytpjbblbehbepbaa
set_option linter.unusedSimpArgs false
set_option linter.unusedVariables false
open Go.RowKit

set_option maxRecDepth 100000 in
set_option maxHeartbeats 4000000 in
theorem next_small_d (now nxt til : Int) (j : Loopy.Job) (s : List Loopy.Job)(t : Loopy.Timer) (r : List Loopy.Timer) (B : Nat) (T S R : Value) (w : World) (ho : Own w B ⟨now, nxt, [], j :: s, t :: r⟩ T S R) (hB : B ≤ w.heap.size) (l1 : (⟨now, nxt, [], j :: s, t :: r⟩ : Loopy.Loop).tasks.length ≤ 1000) (l2 : (⟨now, nxt, [], j :: s, t :: r⟩ : Loopy.Loop).smalls.length ≤ 1000) (l3 : (⟨now, nxt, [], j :: s, t :: r⟩ : Loopy.Loop).timers.length ≤ 1000) (h1 : now < t.due) (h2 : til < t.due) :
    Calls Try.prog 25 #[.agg (lag ⟨now, nxt, [], j :: s, t :: r⟩ T S R), .int .i64 til] w fun e w' => NextOut w B T S R (Loopy.next ⟨now, nxt, [], j :: s, t :: r⟩ til) e w' := by
  have h3 : ¬ t.due ≤ now := by omega
  have h4 : decide (t.due ≤ now) = false := by simpa using h3
  have h5 : ¬ t.due ≤ til := by omega
  have h6 : decide (t.due ≤ til) = false := by simpa using h5
  have HNX : Hid (Loopy.next ⟨now, nxt, [], j :: s, t :: r⟩ til = ((⟨now, nxt, [], s, t :: r⟩, some j) : Loopy.Loop × Option Loopy.Job)) := rfl
  have HO := Lib.hid ho
  obtain ⟨A1, c1, e1⟩ := own_slice ho.t
  subst e1
  obtain ⟨g2, c2, RR2, e2, hg2, hbox2, hc2, hd2, hs2⟩ := own_box ho.s (by simp)
  subst e2
  have hgl2 := hbox2.lt
  clear hs2 hc2
  obtain ⟨g3, c3, RR3, e3, hg3, hbox3, hc3, hd3, hs3⟩ := own_box ho.r (by simp)
  subst e3
  have hgl3 := hbox3.lt
  clear hs3 hc3
  have hd0 : w.cell? ⟨g3, 1, none⟩ = some (.int .i64 t.due) := by
    rw [hbox3.cell, List.getElem?_toArray, flat_cons, List.append_assoc, List.getElem?_append_left (by simp)]
    rfl
  have hl1 := l1
  have hl2 := l2
  have hl3 := l3
  simp only [List.length_cons, List.length_nil] at hl1 hl2 hl3
  clear ho l1 l2 l3
  go_enter Try.func25, Try.ntmps25
  go_upto_region 1 with (fail)
  have hq : Box (((w.alloc (.cells (lag ⟨now, nxt, [], j :: s, t :: r⟩ (.slice A1 0 c1) (.slice (some ⟨g2, 0, none⟩) (s.length + 1) c2) (.slice (some ⟨g3, 0, none⟩) (r.length + 1) c3)) 26)).alloc (.cells #[.int .i64 0, .int .i64 0, .slice none 0 0, .slice none 0 0, .slice none 0 0] 26)).alloc (.cells #[.int .i64 0, .int .i64 0, .bool false, .string ⟨#[]⟩, .int .i64 0, .int .i64 0, .string ⟨#[]⟩] 39)) (w.heap.size) 26 (lag ⟨now, nxt, [], j :: s, t :: r⟩ (.slice A1 0 c1) (.slice (some ⟨g2, 0, none⟩) (s.length + 1) c2) (.slice (some ⟨g3, 0, none⟩) (r.length + 1) c3)) := (((Box.new w 26 (lag ⟨now, nxt, [], j :: s, t :: r⟩ (.slice A1 0 c1) (.slice (some ⟨g2, 0, none⟩) (s.length + 1) c2) (.slice (some ⟨g3, 0, none⟩) (r.length + 1) c3))).alloc (.cells #[.int .i64 0, .int .i64 0, .slice none 0 0, .slice none 0 0, .slice none 0 0] 26)).alloc (.cells #[.int .i64 0, .int .i64 0, .bool false, .string ⟨#[]⟩, .int .i64 0, .int .i64 0, .string ⟨#[]⟩] 39))
  have hl : Box (((w.alloc (.cells (lag ⟨now, nxt, [], j :: s, t :: r⟩ (.slice A1 0 c1) (.slice (some ⟨g2, 0, none⟩) (s.length + 1) c2) (.slice (some ⟨g3, 0, none⟩) (r.length + 1) c3)) 26)).alloc (.cells #[.int .i64 0, .int .i64 0, .slice none 0 0, .slice none 0 0, .slice none 0 0] 26)).alloc (.cells #[.int .i64 0, .int .i64 0, .bool false, .string ⟨#[]⟩, .int .i64 0, .int .i64 0, .string ⟨#[]⟩] 39)) (w.heap.size + 1) 26 (#[.int .i64 0, .int .i64 0, .slice none 0 0, .slice none 0 0, .slice none 0 0]) := (new2 w (.cells (lag ⟨now, nxt, [], j :: s, t :: r⟩ (.slice A1 0 c1) (.slice (some ⟨g2, 0, none⟩) (s.length + 1) c2) (.slice (some ⟨g3, 0, none⟩) (r.length + 1) c3)) 26) 26 #[.int .i64 0, .int .i64 0, .slice none 0 0, .slice none 0 0, .slice none 0 0]).alloc (.cells #[.int .i64 0, .int .i64 0, .bool false, .string ⟨#[]⟩, .int .i64 0, .int .i64 0, .string ⟨#[]⟩] 39)
  have hj : Box (((w.alloc (.cells (lag ⟨now, nxt, [], j :: s, t :: r⟩ (.slice A1 0 c1) (.slice (some ⟨g2, 0, none⟩) (s.length + 1) c2) (.slice (some ⟨g3, 0, none⟩) (r.length + 1) c3)) 26)).alloc (.cells #[.int .i64 0, .int .i64 0, .slice none 0 0, .slice none 0 0, .slice none 0 0] 26)).alloc (.cells #[.int .i64 0, .int .i64 0, .bool false, .string ⟨#[]⟩, .int .i64 0, .int .i64 0, .string ⟨#[]⟩] 39)) (w.heap.size + 1 + 1) 39 (#[.int .i64 0, .int .i64 0, .bool false, .string ⟨#[]⟩, .int .i64 0, .int .i64 0, .string ⟨#[]⟩]) := new3 w (.cells (lag ⟨now, nxt, [], j :: s, t :: r⟩ (.slice A1 0 c1) (.slice (some ⟨g2, 0, none⟩) (s.length + 1) c2) (.slice (some ⟨g3, 0, none⟩) (r.length + 1) c3)) 26) (.cells #[.int .i64 0, .int .i64 0, .slice none 0 0, .slice none 0 0, .slice none 0 0] 26) 39 #[.int .i64 0, .int .i64 0, .bool false, .string ⟨#[]⟩, .int .i64 0, .int .i64 0, .string ⟨#[]⟩]
  have hU0 : Below w.heap.size w (((w.alloc (.cells (lag ⟨now, nxt, [], j :: s, t :: r⟩ (.slice A1 0 c1) (.slice (some ⟨g2, 0, none⟩) (s.length + 1) c2) (.slice (some ⟨g3, 0, none⟩) (r.length + 1) c3)) 26)).alloc (.cells #[.int .i64 0, .int .i64 0, .slice none 0 0, .slice none 0 0, .slice none 0 0] 26)).alloc (.cells #[.int .i64 0, .int .i64 0, .bool false, .string ⟨#[]⟩, .int .i64 0, .int .i64 0, .string ⟨#[]⟩] 39)) := ((below1 w _).alloc (by simp) _).alloc (by simp <;> omega) _
  have hd1 : (((w.alloc (.cells (lag ⟨now, nxt, [], j :: s, t :: r⟩ (.slice A1 0 c1) (.slice (some ⟨g2, 0, none⟩) (s.length + 1) c2) (.slice (some ⟨g3, 0, none⟩) (r.length + 1) c3)) 26)).alloc (.cells #[.int .i64 0, .int .i64 0, .slice none 0 0, .slice none 0 0, .slice none 0 0] 26)).alloc (.cells #[.int .i64 0, .int .i64 0, .bool false, .string ⟨#[]⟩, .int .i64 0, .int .i64 0, .string ⟨#[]⟩] 39)).cell? ⟨g3, 1, none⟩ = some (.int .i64 t.due) := (hU0.cell (p := ⟨g3, 1, none⟩) hgl3).trans hd0
  clear hd0
  generalize (((w.alloc (.cells (lag ⟨now, nxt, [], j :: s, t :: r⟩ (.slice A1 0 c1) (.slice (some ⟨g2, 0, none⟩) (s.length + 1) c2) (.slice (some ⟨g3, 0, none⟩) (r.length + 1) c3)) 26)).alloc (.cells #[.int .i64 0, .int .i64 0, .slice none 0 0, .slice none 0 0, .slice none 0 0] 26)).alloc (.cells #[.int .i64 0, .int .i64 0, .bool false, .string ⟨#[]⟩, .int .i64 0, .int .i64 0, .string ⟨#[]⟩] 39)) = W at *
  have hzW := hj.lt
  have q0 := hq.cell 0
  have q2 := hq.cell 2
  have q3 := hq.cell 3
  have q4 := hq.cell 4
  simp at q0 q2 q3 q4
  go_quiet (fail)
  clear q0 q2 q3 q4
  clear hd1
  rename_i nq
  have hq_ := Box.drewN hq nq
  clear hq
  have hq := hq_
  clear hq_
  have hl_ := Box.drewN hl nq
  clear hl
  have hl := hl_
  clear hl_
  have hj_ := Box.drewN hj nq
  clear hj
  have hj := hj_
  clear hj_
  have hUV : Below w.heap.size w (W.drewN nq) := below_drewN hU0 nq
  have hzV : w.heap.size + 1 + 1 < (W.drewN nq).heap.size := hj.lt
  generalize W.drewN nq = V at *
  clear hU0 hzW
  have hO := Lib.hid (HO.out.below hUV)
  have hrV : Hid (V.rangeAt g2 0 (jc j).toList) := fun i u hu => by
    rw [hUV.cell (p := ⟨g2, 0 + i, none⟩) hgl2, Nat.zero_add, hbox2.cell, List.getElem?_toArray, flat_cons, List.append_assoc, List.getElem?_append_left (List.getElem?_eq_some_iff.1 hu).1]
    exact hu
  have q2 := hq.cell 2
  have q3 := hq.cell 3
  have q4 := hq.cell 4
  simp at q2 q3 q4
  go_wp2_with (first | (refine wpList_load_mid rfl 39 (.tmp 48) rfl g2 0 rfl (jc j).toList _ hrV.out Try.underlying39 rfl info_job ?_) | (refine wpList_store_box rfl 39 (.tmp 8) (.tmp 49) rfl V.heap.size (jc j) rfl rfl 39 _ (Box.new V _ _) info_job rfl (jc_one j) ?_; intro w4 hx4 hu4 hz4; have hq4 := (Box.alloc hq (.cells #[.int .i64 0, .int .i64 0, .bool false, .string ⟨#[]⟩, .int .i64 0, .int .i64 0, .string ⟨#[]⟩] 39)).grown hu4 (by intro h; injection h with h; omega); have p3 := hq4.cell 3; simp at p3; clear hz4 hq4))
  clear q2 q3 q4 p3
  have hz4 := hx4.lt
  have hq_ := Box.alloc hq (.cells #[.int .i64 0, .int .i64 0, .bool false, .string ⟨#[]⟩, .int .i64 0, .int .i64 0, .string ⟨#[]⟩] 39)
  clear hq
  have hq := hq_
  clear hq_
  have hl_ := Box.alloc hl (.cells #[.int .i64 0, .int .i64 0, .bool false, .string ⟨#[]⟩, .int .i64 0, .int .i64 0, .string ⟨#[]⟩] 39)
  clear hl
  have hl := hl_
  clear hl_
  have hj_ := Box.alloc hj (.cells #[.int .i64 0, .int .i64 0, .bool false, .string ⟨#[]⟩, .int .i64 0, .int .i64 0, .string ⟨#[]⟩] 39)
  clear hj
  have hj := hj_
  clear hj_
  have hq_ := Box.grown hq hu4 (by intro h; injection h with h; omega)
  clear hq
  have hq := hq_
  clear hq_
  have hl_ := Box.grown hl hu4 (by intro h; injection h with h; omega)
  clear hl
  have hl := hl_
  clear hl_
  have hj_ := Box.grown hj hu4 (by intro h; injection h with h; omega)
  clear hj
  have hj := hj_
  clear hj_
  have hB4 : Below w.heap.size w w4 := (hUV.alloc hUV.size _).trans (hu4.own (by omega) (by simp; omega))
  have hO4 := Lib.hid (HO.out.below hB4)
  clear hu4
  refine (delete_first_job j s B _ w4 hO4.out.s (by omega)).mono ?_
  rintro e w5 ⟨v5, rfl, hown5, hvb5, hgr5_⟩
  have hgr5 : Upd w4 w5 g2 := hgr5_
  clear hgr5_
  obtain ⟨A5, k5, rfl⟩ := own_slice hown5
  obtain ⟨cur5, hg5, hA5⟩ := own_block hown5 hvb5
  subst hA5
  have hU5 : Upd w w5 g2 := (Upd.below hB4 g2).trans hgr5
  have hq_ := Box.grown hq hgr5 (by intro h; injection h with h; omega)
  clear hq
  have hq := hq_
  clear hq_
  have hl_ := Box.grown hl hgr5 (by intro h; injection h with h; omega)
  clear hl
  have hl := hl_
  clear hl_
  have hj_ := Box.grown hj hgr5 (by intro h; injection h with h; omega)
  clear hj
  have hj := hj_
  clear hj_
  have hx4_ := Box.grown hx4 hgr5 (by intro h; injection h with h; omega)
  clear hx4
  have hx4 := hx4_
  clear hx4_
  have hz5 := hx4.lt
  have HOwn5 := Lib.hid hown5
  have HBox5 := Lib.hid hg5
  clear hown5 hgr5 hvb5
  have fq := hq.frozen 3
  have q4 := hq.cell 3
  simp at q4
  go_upto_region 5 with (fail)
  clear fq q4
  have hq_ := Box.set hq 3 (.slice (some ⟨g2, 0, none⟩) s.length k5)
  clear hq
  have hq := hq_
  clear hq_
  have hl_ := Box.far hl (p := ⟨w.heap.size, 3, none⟩) (by simp <;> omega) (.slice (some ⟨g2, 0, none⟩) s.length k5)
  clear hl
  have hl := hl_
  clear hl_
  have hj_ := Box.far hj (p := ⟨w.heap.size, 3, none⟩) (by simp <;> omega) (.slice (some ⟨g2, 0, none⟩) s.length k5)
  clear hj
  have hj := hj_
  clear hj_
  have hx4_ := Box.far hx4 (p := ⟨w.heap.size, 3, none⟩) (by simp <;> omega) (.slice (some ⟨g2, 0, none⟩) s.length k5)
  clear hx4
  have hx4 := hx4_
  clear hx4_
  have hg5_ := Box.far hg5 (p := ⟨w.heap.size, 3, none⟩) (by simp <;> omega) (.slice (some ⟨g2, 0, none⟩) s.length k5)
  clear hg5
  have hg5 := hg5_
  clear hg5_
  have hU6 : Upd w (w5.setCell ⟨w.heap.size, 3, none⟩ (.slice (some ⟨g2, 0, none⟩) s.length k5)) g2 := hU5.set (p := ⟨w.heap.size, 3, none⟩) (.inr (Nat.le_refl _)) (.slice (some ⟨g2, 0, none⟩) s.length k5)
  have hz6 : (w5.setCell ⟨w.heap.size, 3, none⟩ (.slice (some ⟨g2, 0, none⟩) s.length k5)).heap.size = w5.heap.size := by simp
  generalize (w5.setCell ⟨w.heap.size, 3, none⟩ (.slice (some ⟨g2, 0, none⟩) s.length k5)) = w6 at *
  change Box w6 (w.heap.size) 26 (lag ⟨now, nxt, [], s, t :: r⟩ (.slice A1 0 c1) (.slice (some ⟨g2, 0, none⟩) s.length k5) (.slice (some ⟨g3, 0, none⟩) (r.length + 1) c3)) at hq
  have HZ6 := Lib.hid hz6
  have hz6' : w5.heap.size ≤ w6.heap.size := by rw [HZ6.out]; exact Nat.le_refl _
  clear hz6 hU5
  have HUU := Lib.hid hU6
  have hone : (lag ⟨now, nxt, [], s, t :: r⟩ (.slice A1 0 c1) (.slice (some ⟨g2, 0, none⟩) s.length k5) (.slice (some ⟨g3, 0, none⟩) (r.length + 1) c3)).all (·.oneCell') = true := by simp [Value.oneCell']
  refine wp_region_held_drew (S := fun w' => Box w' (w.heap.size) 26 (lag ⟨now, nxt, [], s, t :: r⟩ (.slice A1 0 c1) (.slice (some ⟨g2, 0, none⟩) s.length k5) (.slice (some ⟨g3, 0, none⟩) (r.length + 1) c3)) ∧ Box w' (V.heap.size) 39 (jc j)) (by kernel_rfl) ⟨hq, hx4⟩ (fun hHeld => ?_)
  refine wpAnyH_take (i := 0) (v := _) rfl (by kernel_rfl) (by kernel_rfl) (by kernel_rfl) (fun _ _ _ h => h) (yields_load_box (by kernel_rfl) 26 (.tmp 2) rfl (w.heap.size) 26 (lag ⟨now, nxt, [], s, t :: r⟩ (.slice A1 0 c1) (.slice (some ⟨g2, 0, none⟩) s.length k5) (.slice (some ⟨g3, 0, none⟩) (r.length + 1) c3)) _ rfl (fun _ h => h.1) Try.underlying26 rfl info_loop) (by assumption) ?_
  (try simp only [Act.put, List.getElem_toArray, List.getElem_cons_succ, List.getElem_cons_zero, List.setIfInBounds_toArray, List.set_cons_zero, List.set_cons_succ])
  refine wpAnyH_take (i := 1) (v := _) rfl (by kernel_rfl) (by kernel_rfl) (by kernel_rfl) (fun _ _ _ h => h) (yields_load_box (by kernel_rfl) 39 (.tmp 8) rfl (V.heap.size) 39 (jc j) _ rfl (fun _ h => h.2) Try.underlying39 rfl info_job) (by assumption) ?_
  (try simp only [Act.put, List.getElem_toArray, List.getElem_cons_succ, List.getElem_cons_zero, List.setIfInBounds_toArray, List.set_cons_zero, List.set_cons_succ])
  refine wpAnyH_ready (rs := [2]) (by kernel_rfl) (by simp) ?_
  refine AllReadyH.cons rfl (fun K hK => ?_) AllReadyH.nil
  refine step_store_box rfl 26 (.tmp 4) (.tmp 54) rfl (w.heap.size + 1) (lag ⟨now, nxt, [], s, t :: r⟩ (.slice A1 0 c1) (.slice (some ⟨g2, 0, none⟩) s.length k5) (.slice (some ⟨g3, 0, none⟩) (r.length + 1) c3)) rfl rfl 26 _ (Box.drew hl) info_loop rfl hone ?_; intro w9 hx9 hu9 hz9
  refine hK.out _ _ ⟨Box.grown (Box.drew hq) hu9 (by intro h; injection h with h; omega), Box.grown (Box.drew hx4) hu9 (by intro h; injection h with h; omega)⟩ (fun hHeld => ?_)
  clear hK K
  (try simp only [Act.put, List.getElem_toArray, List.getElem_cons_succ, List.getElem_cons_zero, List.setIfInBounds_toArray, List.set_cons_zero, List.set_cons_succ])
  refine wpAnyH_ready (rs := [3]) (by kernel_rfl) (by simp) ?_
  refine AllReadyH.cons rfl (fun K hK => ?_) AllReadyH.nil
  refine step_store_box rfl 39 (.tmp 5) (.tmp 55) rfl (w.heap.size + 1 + 1) (jc j) rfl rfl 39 _ (Box.grown (Box.drew hj) hu9 (by intro h; injection h with h; omega)) info_job rfl (jc_one _) ?_; intro w10 hx10 hu10 hz10
  refine hK.out _ _ ⟨Box.grown (Box.grown (Box.drew hq) hu9 (by intro h; injection h with h; omega)) hu10 (by intro h; injection h with h; omega), Box.grown (Box.grown (Box.drew hx4) hu9 (by intro h; injection h with h; omega)) hu10 (by intro h; injection h with h; omega)⟩ (fun hHeld => ?_)
  clear hK K
  (try simp only [Act.put, List.getElem_toArray, List.getElem_cons_succ, List.getElem_cons_zero, List.setIfInBounds_toArray, List.set_cons_zero, List.set_cons_succ])
  refine wpAnyH_take (i := 4) (v := ?tv4) rfl (by kernel_rfl) (by kernel_rfl) (by kernel_rfl) (fun _ _ _ h => h) (Or.inl ⟨by kernel_rfl, ?ty4⟩) (by assumption) ?tr4
  case ty4 =>
    intro w hSw
    (try dsimp only at hSw)
    go_simp
    try (with_reducible rfl)
  (try simp only [Act.put, List.getElem_toArray, List.getElem_cons_succ, List.getElem_cons_zero, List.setIfInBounds_toArray, List.set_cons_zero, List.set_cons_succ])
  refine wpAnyH_done (by kernel_rfl) ?_ _
  go_wp2
  refine bodyPost_ret (results_bbt rfl (Back.mk' (w.heap.size + 1) 26 _ rfl (Box.grown hx9 hu10 (by intro h; injection h with h; omega)) Try.underlying26 rfl info_loop) (Back.mk' (w.heap.size + 1 + 1) 39 _ rfl hx10 Try.underlying39 rfl info_job)) rfl ?_
  have hU10 : Upd w w10 g2 := (HUU.out.drew.far hu9 (by omega)).far hu10 (by omega)
  have hb10 := Box.grown (Box.grown (Box.drew hg5) hu9 (by intro h; injection h with h; omega)) hu10 (by intro h; injection h with h; omega)
  refine ⟨_, _, _, by rw [HNX.out]; rfl, ?_, Step.of_upd (.inr (.inl rfl)) hU10 ?_⟩
  · rw [HNX.out]
    exact ⟨own_keep HO.out.t hU10 HO.out.ts rfl, own_of_box HOwn5.out rfl HBox5.out hb10, own_keep HO.out.r hU10 HO.out.sr.symm rfl, HO.out.ts, HO.out.tr, HO.out.sr⟩
  · rintro k (a | a | a)
    · exact .inl (.inl a)
    · exact .inl (.inr (.inl a))
    · exact .inl (.inr (.inr a))

set_option maxRecDepth 100000 in
set_option maxHeartbeats 4000000 in
theorem next_small_e (now nxt til : Int) (j : Loopy.Job) (s : List Loopy.Job)(t : Loopy.Timer) (r : List Loopy.Timer)(i : Loopy.Job) (u : List Loopy.Job) (B : Nat) (T S R : Value) (w : World) (ho : Own w B ⟨now, nxt, i :: u, j :: s, t :: r⟩ T S R) (hB : B ≤ w.heap.size) (l1 : (⟨now, nxt, i :: u, j :: s, t :: r⟩ : Loopy.Loop).tasks.length ≤ 1000) (l2 : (⟨now, nxt, i :: u, j :: s, t :: r⟩ : Loopy.Loop).smalls.length ≤ 1000) (l3 : (⟨now, nxt, i :: u, j :: s, t :: r⟩ : Loopy.Loop).timers.length ≤ 1000) (h1 : now < t.due) :
    Calls Try.prog 25 #[.agg (lag ⟨now, nxt, i :: u, j :: s, t :: r⟩ T S R), .int .i64 til] w fun e w' => NextOut w B T S R (Loopy.next ⟨now, nxt, i :: u, j :: s, t :: r⟩ til) e w' := by
  have h3 : ¬ t.due ≤ now := by omega
  have h4 : decide (t.due ≤ now) = false := by simpa using h3
  have h7 : ((u.length : Int) + 1 == 0) = false := by simp; omega
  have HNX : Hid (Loopy.next ⟨now, nxt, i :: u, j :: s, t :: r⟩ til = ((⟨now, nxt, i :: u, s, t :: r⟩, some j) : Loopy.Loop × Option Loopy.Job)) := rfl
  have HO := Lib.hid ho
  obtain ⟨g1, c1, RR1, e1, hg1, hbox1, hc1, hd1, hs1⟩ := own_box ho.t (by simp)
  subst e1
  have hgl1 := hbox1.lt
  clear hs1 hc1
  obtain ⟨g2, c2, RR2, e2, hg2, hbox2, hc2, hd2, hs2⟩ := own_box ho.s (by simp)
  subst e2
  have hgl2 := hbox2.lt
  clear hs2 hc2
  obtain ⟨g3, c3, RR3, e3, hg3, hbox3, hc3, hd3, hs3⟩ := own_box ho.r (by simp)
  subst e3
  have hgl3 := hbox3.lt
  clear hs3 hc3
  have hd0 : w.cell? ⟨g3, 1, none⟩ = some (.int .i64 t.due) := by
    rw [hbox3.cell, List.getElem?_toArray, flat_cons, List.append_assoc, List.getElem?_append_left (by simp)]
    rfl
  have hl1 := l1
  have hl2 := l2
  have hl3 := l3
  simp only [List.length_cons, List.length_nil] at hl1 hl2 hl3
  clear ho l1 l2 l3
  go_enter Try.func25, Try.ntmps25
  go_upto_region 1 with (fail)
  have hq : Box (((w.alloc (.cells (lag ⟨now, nxt, i :: u, j :: s, t :: r⟩ (.slice (some ⟨g1, 0, none⟩) (u.length + 1) c1) (.slice (some ⟨g2, 0, none⟩) (s.length + 1) c2) (.slice (some ⟨g3, 0, none⟩) (r.length + 1) c3)) 26)).alloc (.cells #[.int .i64 0, .int .i64 0, .slice none 0 0, .slice none 0 0, .slice none 0 0] 26)).alloc (.cells #[.int .i64 0, .int .i64 0, .bool false, .string ⟨#[]⟩, .int .i64 0, .int .i64 0, .string ⟨#[]⟩] 39)) (w.heap.size) 26 (lag ⟨now, nxt, i :: u, j :: s, t :: r⟩ (.slice (some ⟨g1, 0, none⟩) (u.length + 1) c1) (.slice (some ⟨g2, 0, none⟩) (s.length + 1) c2) (.slice (some ⟨g3, 0, none⟩) (r.length + 1) c3)) := (((Box.new w 26 (lag ⟨now, nxt, i :: u, j :: s, t :: r⟩ (.slice (some ⟨g1, 0, none⟩) (u.length + 1) c1) (.slice (some ⟨g2, 0, none⟩) (s.length + 1) c2) (.slice (some ⟨g3, 0, none⟩) (r.length + 1) c3))).alloc (.cells #[.int .i64 0, .int .i64 0, .slice none 0 0, .slice none 0 0, .slice none 0 0] 26)).alloc (.cells #[.int .i64 0, .int .i64 0, .bool false, .string ⟨#[]⟩, .int .i64 0, .int .i64 0, .string ⟨#[]⟩] 39))
  have hl : Box (((w.alloc (.cells (lag ⟨now, nxt, i :: u, j :: s, t :: r⟩ (.slice (some ⟨g1, 0, none⟩) (u.length + 1) c1) (.slice (some ⟨g2, 0, none⟩) (s.length + 1) c2) (.slice (some ⟨g3, 0, none⟩) (r.length + 1) c3)) 26)).alloc (.cells #[.int .i64 0, .int .i64 0, .slice none 0 0, .slice none 0 0, .slice none 0 0] 26)).alloc (.cells #[.int .i64 0, .int .i64 0, .bool false, .string ⟨#[]⟩, .int .i64 0, .int .i64 0, .string ⟨#[]⟩] 39)) (w.heap.size + 1) 26 (#[.int .i64 0, .int .i64 0, .slice none 0 0, .slice none 0 0, .slice none 0 0]) := (new2 w (.cells (lag ⟨now, nxt, i :: u, j :: s, t :: r⟩ (.slice (some ⟨g1, 0, none⟩) (u.length + 1) c1) (.slice (some ⟨g2, 0, none⟩) (s.length + 1) c2) (.slice (some ⟨g3, 0, none⟩) (r.length + 1) c3)) 26) 26 #[.int .i64 0, .int .i64 0, .slice none 0 0, .slice none 0 0, .slice none 0 0]).alloc (.cells #[.int .i64 0, .int .i64 0, .bool false, .string ⟨#[]⟩, .int .i64 0, .int .i64 0, .string ⟨#[]⟩] 39)
  have hj : Box (((w.alloc (.cells (lag ⟨now, nxt, i :: u, j :: s, t :: r⟩ (.slice (some ⟨g1, 0, none⟩) (u.length + 1) c1) (.slice (some ⟨g2, 0, none⟩) (s.length + 1) c2) (.slice (some ⟨g3, 0, none⟩) (r.length + 1) c3)) 26)).alloc (.cells #[.int .i64 0, .int .i64 0, .slice none 0 0, .slice none 0 0, .slice none 0 0] 26)).alloc (.cells #[.int .i64 0, .int .i64 0, .bool false, .string ⟨#[]⟩, .int .i64 0, .int .i64 0, .string ⟨#[]⟩] 39)) (w.heap.size + 1 + 1) 39 (#[.int .i64 0, .int .i64 0, .bool false, .string ⟨#[]⟩, .int .i64 0, .int .i64 0, .string ⟨#[]⟩]) := new3 w (.cells (lag ⟨now, nxt, i :: u, j :: s, t :: r⟩ (.slice (some ⟨g1, 0, none⟩) (u.length + 1) c1) (.slice (some ⟨g2, 0, none⟩) (s.length + 1) c2) (.slice (some ⟨g3, 0, none⟩) (r.length + 1) c3)) 26) (.cells #[.int .i64 0, .int .i64 0, .slice none 0 0, .slice none 0 0, .slice none 0 0] 26) 39 #[.int .i64 0, .int .i64 0, .bool false, .string ⟨#[]⟩, .int .i64 0, .int .i64 0, .string ⟨#[]⟩]
  have hU0 : Below w.heap.size w (((w.alloc (.cells (lag ⟨now, nxt, i :: u, j :: s, t :: r⟩ (.slice (some ⟨g1, 0, none⟩) (u.length + 1) c1) (.slice (some ⟨g2, 0, none⟩) (s.length + 1) c2) (.slice (some ⟨g3, 0, none⟩) (r.length + 1) c3)) 26)).alloc (.cells #[.int .i64 0, .int .i64 0, .slice none 0 0, .slice none 0 0, .slice none 0 0] 26)).alloc (.cells #[.int .i64 0, .int .i64 0, .bool false, .string ⟨#[]⟩, .int .i64 0, .int .i64 0, .string ⟨#[]⟩] 39)) := ((below1 w _).alloc (by simp) _).alloc (by simp <;> omega) _
  have hd1 : (((w.alloc (.cells (lag ⟨now, nxt, i :: u, j :: s, t :: r⟩ (.slice (some ⟨g1, 0, none⟩) (u.length + 1) c1) (.slice (some ⟨g2, 0, none⟩) (s.length + 1) c2) (.slice (some ⟨g3, 0, none⟩) (r.length + 1) c3)) 26)).alloc (.cells #[.int .i64 0, .int .i64 0, .slice none 0 0, .slice none 0 0, .slice none 0 0] 26)).alloc (.cells #[.int .i64 0, .int .i64 0, .bool false, .string ⟨#[]⟩, .int .i64 0, .int .i64 0, .string ⟨#[]⟩] 39)).cell? ⟨g3, 1, none⟩ = some (.int .i64 t.due) := (hU0.cell (p := ⟨g3, 1, none⟩) hgl3).trans hd0
  clear hd0
  generalize (((w.alloc (.cells (lag ⟨now, nxt, i :: u, j :: s, t :: r⟩ (.slice (some ⟨g1, 0, none⟩) (u.length + 1) c1) (.slice (some ⟨g2, 0, none⟩) (s.length + 1) c2) (.slice (some ⟨g3, 0, none⟩) (r.length + 1) c3)) 26)).alloc (.cells #[.int .i64 0, .int .i64 0, .slice none 0 0, .slice none 0 0, .slice none 0 0] 26)).alloc (.cells #[.int .i64 0, .int .i64 0, .bool false, .string ⟨#[]⟩, .int .i64 0, .int .i64 0, .string ⟨#[]⟩] 39)) = W at *
  have hzW := hj.lt
  have q0 := hq.cell 0
  have q2 := hq.cell 2
  have q3 := hq.cell 3
  have q4 := hq.cell 4
  simp at q0 q2 q3 q4
  go_quiet (fail)
  clear q0 q2 q3 q4
  clear hd1
  rename_i nq
  have hq_ := Box.drewN hq nq
  clear hq
  have hq := hq_
  clear hq_
  have hl_ := Box.drewN hl nq
  clear hl
  have hl := hl_
  clear hl_
  have hj_ := Box.drewN hj nq
  clear hj
  have hj := hj_
  clear hj_
  have hUV : Below w.heap.size w (W.drewN nq) := below_drewN hU0 nq
  have hzV : w.heap.size + 1 + 1 < (W.drewN nq).heap.size := hj.lt
  generalize W.drewN nq = V at *
  clear hU0 hzW
  have hO := Lib.hid (HO.out.below hUV)
  have hrV : Hid (V.rangeAt g2 0 (jc j).toList) := fun i u hu => by
    rw [hUV.cell (p := ⟨g2, 0 + i, none⟩) hgl2, Nat.zero_add, hbox2.cell, List.getElem?_toArray, flat_cons, List.append_assoc, List.getElem?_append_left (List.getElem?_eq_some_iff.1 hu).1]
    exact hu
  have q2 := hq.cell 2
  have q3 := hq.cell 3
  have q4 := hq.cell 4
  simp at q2 q3 q4
  go_wp2_with (first | (refine wpList_load_mid rfl 39 (.tmp 48) rfl g2 0 rfl (jc j).toList _ hrV.out Try.underlying39 rfl info_job ?_) | (refine wpList_store_box rfl 39 (.tmp 8) (.tmp 49) rfl V.heap.size (jc j) rfl rfl 39 _ (Box.new V _ _) info_job rfl (jc_one j) ?_; intro w4 hx4 hu4 hz4; have hq4 := (Box.alloc hq (.cells #[.int .i64 0, .int .i64 0, .bool false, .string ⟨#[]⟩, .int .i64 0, .int .i64 0, .string ⟨#[]⟩] 39)).grown hu4 (by intro h; injection h with h; omega); have p3 := hq4.cell 3; simp at p3; clear hz4 hq4))
  clear q2 q3 q4 p3
  have hz4 := hx4.lt
  have hq_ := Box.alloc hq (.cells #[.int .i64 0, .int .i64 0, .bool false, .string ⟨#[]⟩, .int .i64 0, .int .i64 0, .string ⟨#[]⟩] 39)
  clear hq
  have hq := hq_
  clear hq_
  have hl_ := Box.alloc hl (.cells #[.int .i64 0, .int .i64 0, .bool false, .string ⟨#[]⟩, .int .i64 0, .int .i64 0, .string ⟨#[]⟩] 39)
  clear hl
  have hl := hl_
  clear hl_
  have hj_ := Box.alloc hj (.cells #[.int .i64 0, .int .i64 0, .bool false, .string ⟨#[]⟩, .int .i64 0, .int .i64 0, .string ⟨#[]⟩] 39)
  clear hj
  have hj := hj_
  clear hj_
  have hq_ := Box.grown hq hu4 (by intro h; injection h with h; omega)
  clear hq
  have hq := hq_
  clear hq_
  have hl_ := Box.grown hl hu4 (by intro h; injection h with h; omega)
  clear hl
  have hl := hl_
  clear hl_
  have hj_ := Box.grown hj hu4 (by intro h; injection h with h; omega)
  clear hj
  have hj := hj_
  clear hj_
  have hB4 : Below w.heap.size w w4 := (hUV.alloc hUV.size _).trans (hu4.own (by omega) (by simp; omega))
  have hO4 := Lib.hid (HO.out.below hB4)
  clear hu4
  refine (delete_first_job j s B _ w4 hO4.out.s (by omega)).mono ?_
  rintro e w5 ⟨v5, rfl, hown5, hvb5, hgr5_⟩
  have hgr5 : Upd w4 w5 g2 := hgr5_
  clear hgr5_
  obtain ⟨A5, k5, rfl⟩ := own_slice hown5
  obtain ⟨cur5, hg5, hA5⟩ := own_block hown5 hvb5
  subst hA5
  have hU5 : Upd w w5 g2 := (Upd.below hB4 g2).trans hgr5
  have hq_ := Box.grown hq hgr5 (by intro h; injection h with h; omega)
  clear hq
  have hq := hq_
  clear hq_
  have hl_ := Box.grown hl hgr5 (by intro h; injection h with h; omega)
  clear hl
  have hl := hl_
  clear hl_
  have hj_ := Box.grown hj hgr5 (by intro h; injection h with h; omega)
  clear hj
  have hj := hj_
  clear hj_
  have hx4_ := Box.grown hx4 hgr5 (by intro h; injection h with h; omega)
  clear hx4
  have hx4 := hx4_
  clear hx4_
  have hz5 := hx4.lt
  have HOwn5 := Lib.hid hown5
  have HBox5 := Lib.hid hg5
  clear hown5 hgr5 hvb5
  have fq := hq.frozen 3
  have q4 := hq.cell 3
  simp at q4
  go_upto_region 5 with (fail)
  clear fq q4
  have hq_ := Box.set hq 3 (.slice (some ⟨g2, 0, none⟩) s.length k5)
  clear hq
  have hq := hq_
  clear hq_
  have hl_ := Box.far hl (p := ⟨w.heap.size, 3, none⟩) (by simp <;> omega) (.slice (some ⟨g2, 0, none⟩) s.length k5)
  clear hl
  have hl := hl_
  clear hl_
  have hj_ := Box.far hj (p := ⟨w.heap.size, 3, none⟩) (by simp <;> omega) (.slice (some ⟨g2, 0, none⟩) s.length k5)
  clear hj
  have hj := hj_
  clear hj_
  have hx4_ := Box.far hx4 (p := ⟨w.heap.size, 3, none⟩) (by simp <;> omega) (.slice (some ⟨g2, 0, none⟩) s.length k5)
  clear hx4
  have hx4 := hx4_
  clear hx4_
  have hg5_ := Box.far hg5 (p := ⟨w.heap.size, 3, none⟩) (by simp <;> omega) (.slice (some ⟨g2, 0, none⟩) s.length k5)
  clear hg5
  have hg5 := hg5_
  clear hg5_
  have hU6 : Upd w (w5.setCell ⟨w.heap.size, 3, none⟩ (.slice (some ⟨g2, 0, none⟩) s.length k5)) g2 := hU5.set (p := ⟨w.heap.size, 3, none⟩) (.inr (Nat.le_refl _)) (.slice (some ⟨g2, 0, none⟩) s.length k5)
  have hz6 : (w5.setCell ⟨w.heap.size, 3, none⟩ (.slice (some ⟨g2, 0, none⟩) s.length k5)).heap.size = w5.heap.size := by simp
  generalize (w5.setCell ⟨w.heap.size, 3, none⟩ (.slice (some ⟨g2, 0, none⟩) s.length k5)) = w6 at *
  change Box w6 (w.heap.size) 26 (lag ⟨now, nxt, i :: u, s, t :: r⟩ (.slice (some ⟨g1, 0, none⟩) (u.length + 1) c1) (.slice (some ⟨g2, 0, none⟩) s.length k5) (.slice (some ⟨g3, 0, none⟩) (r.length + 1) c3)) at hq
  have HZ6 := Lib.hid hz6
  have hz6' : w5.heap.size ≤ w6.heap.size := by rw [HZ6.out]; exact Nat.le_refl _
  clear hz6 hU5
  have HUU := Lib.hid hU6
  have hone : (lag ⟨now, nxt, i :: u, s, t :: r⟩ (.slice (some ⟨g1, 0, none⟩) (u.length + 1) c1) (.slice (some ⟨g2, 0, none⟩) s.length k5) (.slice (some ⟨g3, 0, none⟩) (r.length + 1) c3)).all (·.oneCell') = true := by simp [Value.oneCell']
  refine wp_region_held_drew (S := fun w' => Box w' (w.heap.size) 26 (lag ⟨now, nxt, i :: u, s, t :: r⟩ (.slice (some ⟨g1, 0, none⟩) (u.length + 1) c1) (.slice (some ⟨g2, 0, none⟩) s.length k5) (.slice (some ⟨g3, 0, none⟩) (r.length + 1) c3)) ∧ Box w' (V.heap.size) 39 (jc j)) (by kernel_rfl) ⟨hq, hx4⟩ (fun hHeld => ?_)
  refine wpAnyH_take (i := 0) (v := _) rfl (by kernel_rfl) (by kernel_rfl) (by kernel_rfl) (fun _ _ _ h => h) (yields_load_box (by kernel_rfl) 26 (.tmp 2) rfl (w.heap.size) 26 (lag ⟨now, nxt, i :: u, s, t :: r⟩ (.slice (some ⟨g1, 0, none⟩) (u.length + 1) c1) (.slice (some ⟨g2, 0, none⟩) s.length k5) (.slice (some ⟨g3, 0, none⟩) (r.length + 1) c3)) _ rfl (fun _ h => h.1) Try.underlying26 rfl info_loop) (by assumption) ?_
  (try simp only [Act.put, List.getElem_toArray, List.getElem_cons_succ, List.getElem_cons_zero, List.setIfInBounds_toArray, List.set_cons_zero, List.set_cons_succ])
  refine wpAnyH_take (i := 1) (v := _) rfl (by kernel_rfl) (by kernel_rfl) (by kernel_rfl) (fun _ _ _ h => h) (yields_load_box (by kernel_rfl) 39 (.tmp 8) rfl (V.heap.size) 39 (jc j) _ rfl (fun _ h => h.2) Try.underlying39 rfl info_job) (by assumption) ?_
  (try simp only [Act.put, List.getElem_toArray, List.getElem_cons_succ, List.getElem_cons_zero, List.setIfInBounds_toArray, List.set_cons_zero, List.set_cons_succ])
  refine wpAnyH_ready (rs := [2]) (by kernel_rfl) (by simp) ?_
  refine AllReadyH.cons rfl (fun K hK => ?_) AllReadyH.nil
  refine step_store_box rfl 26 (.tmp 4) (.tmp 54) rfl (w.heap.size + 1) (lag ⟨now, nxt, i :: u, s, t :: r⟩ (.slice (some ⟨g1, 0, none⟩) (u.length + 1) c1) (.slice (some ⟨g2, 0, none⟩) s.length k5) (.slice (some ⟨g3, 0, none⟩) (r.length + 1) c3)) rfl rfl 26 _ (Box.drew hl) info_loop rfl hone ?_; intro w9 hx9 hu9 hz9
  refine hK.out _ _ ⟨Box.grown (Box.drew hq) hu9 (by intro h; injection h with h; omega), Box.grown (Box.drew hx4) hu9 (by intro h; injection h with h; omega)⟩ (fun hHeld => ?_)
  clear hK K
  (try simp only [Act.put, List.getElem_toArray, List.getElem_cons_succ, List.getElem_cons_zero, List.setIfInBounds_toArray, List.set_cons_zero, List.set_cons_succ])
  refine wpAnyH_ready (rs := [3]) (by kernel_rfl) (by simp) ?_
  refine AllReadyH.cons rfl (fun K hK => ?_) AllReadyH.nil
  refine step_store_box rfl 39 (.tmp 5) (.tmp 55) rfl (w.heap.size + 1 + 1) (jc j) rfl rfl 39 _ (Box.grown (Box.drew hj) hu9 (by intro h; injection h with h; omega)) info_job rfl (jc_one _) ?_; intro w10 hx10 hu10 hz10
  refine hK.out _ _ ⟨Box.grown (Box.grown (Box.drew hq) hu9 (by intro h; injection h with h; omega)) hu10 (by intro h; injection h with h; omega), Box.grown (Box.grown (Box.drew hx4) hu9 (by intro h; injection h with h; omega)) hu10 (by intro h; injection h with h; omega)⟩ (fun hHeld => ?_)
  clear hK K
  (try simp only [Act.put, List.getElem_toArray, List.getElem_cons_succ, List.getElem_cons_zero, List.setIfInBounds_toArray, List.set_cons_zero, List.set_cons_succ])
  refine wpAnyH_take (i := 4) (v := ?tv5) rfl (by kernel_rfl) (by kernel_rfl) (by kernel_rfl) (fun _ _ _ h => h) (Or.inl ⟨by kernel_rfl, ?ty5⟩) (by assumption) ?tr5
  case ty5 =>
    intro w hSw
    (try dsimp only at hSw)
    go_simp
    try (with_reducible rfl)
  (try simp only [Act.put, List.getElem_toArray, List.getElem_cons_succ, List.getElem_cons_zero, List.setIfInBounds_toArray, List.set_cons_zero, List.set_cons_succ])
  refine wpAnyH_done (by kernel_rfl) ?_ _
  go_wp2
  refine bodyPost_ret (results_bbt rfl (Back.mk' (w.heap.size + 1) 26 _ rfl (Box.grown hx9 hu10 (by intro h; injection h with h; omega)) Try.underlying26 rfl info_loop) (Back.mk' (w.heap.size + 1 + 1) 39 _ rfl hx10 Try.underlying39 rfl info_job)) rfl ?_
  have hU10 : Upd w w10 g2 := (HUU.out.drew.far hu9 (by omega)).far hu10 (by omega)
  have hb10 := Box.grown (Box.grown (Box.drew hg5) hu9 (by intro h; injection h with h; omega)) hu10 (by intro h; injection h with h; omega)
  refine ⟨_, _, _, by rw [HNX.out]; rfl, ?_, Step.of_upd (.inr (.inl rfl)) hU10 ?_⟩
  · rw [HNX.out]
    exact ⟨own_keep HO.out.t hU10 HO.out.ts rfl, own_of_box HOwn5.out rfl HBox5.out hb10, own_keep HO.out.r hU10 HO.out.sr.symm rfl, HO.out.ts, HO.out.tr, HO.out.sr⟩
  · rintro k (a | a | a)
    · exact .inl (.inl a)
    · exact .inl (.inr (.inl a))
    · exact .inl (.inr (.inr a))

end Go.Proofs.Ytpjbblbehbepbaa
