/-
  The first timer fires. Conditions: the loop's rows are its own; the loop is right.
-/
import Derived.Test.YtpjbblbehbepbaaLpM
import Derived.Test.YtpjbblbehbepbaaRes
import Derived.Deep.Cut
import Derived.Test.YtpjbblbehbepbaaLoopC
namespace Go.Proofs.Ytpjbblbehbepbaa
set_option linter.unusedSimpArgs false
set_option linter.unusedVariables false
open Go.RowKit

/-- the loop, and the job that was taken. -/
def FireOut (w : World) (B : Nat) (T S R : Value) (q : Loopy.Loop) (j : Loopy.Job) (e : Ending) (w' : World) : Prop := ∃ T' S' R', e = .returned (.tuple #[.agg (lag q T' S' R'), jag j]) ∧ Own w' B q T' S' R' ∧ Step w w' T S R T' S' R'
theorem delete_first_timer (x : Loopy.Timer) (l : List Loopy.Timer) (base : Nat) (v : Value) (w : World) (hown : w.ownsRow base 49 5 v (l.length + 1) (flat tc (x :: l))) (hl : l.length + 1 ≤ 1000000) :
    Calls Try.prog 42 #[v, .int .i64 0, .int .i64 1] w fun e w' => RowOut w base 49 5 l.length v.ownBlock (flat tc l) e w' :=
  delete_timer (x :: l) 0 (by simp) base v w hown hl
theorem delete_first_job (x : Loopy.Job) (l : List Loopy.Job) (base : Nat) (v : Value) (w : World) (hown : w.ownsRow base 39 7 v (l.length + 1) (flat jc (x :: l))) (hl : l.length + 1 ≤ 1000000) :
    Calls Try.prog 35 #[v, .int .i64 0, .int .i64 1] w fun e w' => RowOut w base 39 7 l.length v.ownBlock (flat jc l) e w' :=
  delete_job (x :: l) 0 (by simp) base v w hown hl
theorem own_same {w w1 : World} {base e k n : Nat} {v : Value} {xs : List Value} (h : w.ownsRow base e k v n xs) (hh : ∀ g, v.ownBlock = some g → w1.heap[g]? = w.heap[g]?) : w1.ownsRow base e k v n xs := by
  refine ⟨h.1, ?_⟩
  rcases h.2 with hn | ⟨g, cap, cur, rfl, h1, h2, h3⟩
  · exact .inl hn
  · exact .inr ⟨g, cap, cur, rfl, h1, (hh g rfl).trans h2, h3⟩
theorem own_block {w : World} {base e k n g : Nat} {cap : Nat} {A : Option Addr} {xs : List Value} (h : w.ownsRow base e k (.slice A n cap) n xs) (hg : (Value.slice A n cap).ownBlock = some g) : ∃ cur, Box w g e cur ∧ A = some ⟨g, 0, none⟩ := by
  rcases h.2 with ⟨e1, _⟩ | ⟨g', cap', cur, e1, _, h2, _⟩
  · injection e1 with e1; subst e1; simp [Value.ownBlock] at hg
  · injection e1 with e1 _ _; subst e1; simp [Value.ownBlock] at hg; subst hg; exact ⟨cur, h2, rfl⟩
theorem own_end_pre : True := trivial
theorem own_of_box {w w1 : World} {base e k n g : Nat} {v : Value} {xs : List Value} {cur : Array Value} (h : w.ownsRow base e k v n xs) (hv : v.ownBlock = some g) (hb : Box w g e cur) (hb1 : Box w1 g e cur) : w1.ownsRow base e k v n xs :=
  own_same h fun g' hg' => by rw [hv] at hg'; injection hg' with hg'; subst hg'; exact hb1.trans hb.symm
theorem Own.past {w w1 : World} {B g : Nat} {q : Loopy.Loop} {T S R : Value} (h : Own w B q T S R) (hu : Upd w w1 g) (hg : ¬ mine T S R g) : Own w1 B q T S R :=
  have a : ∀ v : Value, (∀ k, v.ownBlock = some k → mine T S R k) → v.ownBlock = none ∨ v.ownBlock ≠ some g := fun v hv => by
    cases e : v.ownBlock with
    | none => exact .inl rfl
    | some k => exact .inr (fun e' => by injection e' with e'; exact hg (e' ▸ hv k e))
  ⟨own_grown h.t hu (a T fun _ h => .inl h), own_grown h.s hu (a S fun _ h => .inr (.inl h)), own_grown h.r hu (a R fun _ h => .inr (.inr h)), h.ts, h.tr, h.sr⟩
theorem own_end {w w1 : World} {B g g' n c n' c' : Nat} {q q' : Loopy.Loop} {T S : Value} (h : Own w B q T S (.slice (some ⟨g, 0, none⟩) n c)) (hU : Upd w w1 g)
    (hR : w1.ownsRow B 49 5 (.slice (some ⟨g', 0, none⟩) n' c') q'.timers.length (flat tc q'.timers)) (hg : g' = g ∨ w.heap.size ≤ g') (ht : q'.tasks = q.tasks) (hs : q'.smalls = q.smalls) :
    Own w1 B q' T S (.slice (some ⟨g', 0, none⟩) n' c') := by
  refine ⟨by rw [ht]; exact own_grown h.t hU h.tr.ne, by rw [hs]; exact own_grown h.s hU h.sr.ne, hR, h.ts, ?_, ?_⟩
  · intro k hT hR'
    simp [Value.ownBlock] at hR'
    rcases hg with e | e
    · exact h.tr k hT (by simp [Value.ownBlock]; omega)
    · have := (h.t.lt k hT).2; omega
  · intro k hT hR'
    simp [Value.ownBlock] at hR'
    rcases hg with e | e
    · exact h.sr k hT (by simp [Value.ownBlock]; omega)
    · have := (h.s.lt k hT).2; omega

set_option maxRecDepth 100000 in
set_option maxHeartbeats 4000000 in
theorem fire_any (q : Loopy.Loop) (t : Loopy.Timer) (r : List Loopy.Timer) (ht : q.timers = t :: r) (B : Nat) (T S R : Value) (w : World) (ho : Own w B q T S R) (hB : B ≤ w.heap.size) (hl : q.timers.length ≤ 1000)
    (hr : Loopy.Right q) :
    Calls Try.prog 36 #[.agg (lag q T S R)] w fun e w' => FireOut w B T S R (Loopy.fire q t r).1 (Loopy.fire q t r).2 e w' := by
  obtain ⟨now, nxt, tasks, smalls, timers⟩ := q
  simp only at ht
  subst ht
  have hso := hr.srt
  simp only [List.pairwise_cons] at hso
  have htk := Loopy.timerOk_iff.1 (hr.tmr t (by simp))
  unfold Loopy.most at htk
  obtain ⟨⟨td0, td1⟩, ⟨te0, te1⟩, tt0, tt1⟩ := htk
  have tn0 := hr.now0
  simp only at td0 tn0
  have td2 : 0 ≤ t.due := by omega
  obtain ⟨A1, k1, e1⟩ := own_slice ho.t
  obtain ⟨A2, k2, e2⟩ := own_slice ho.s
  obtain ⟨g, cap, RR, e3, hg, hbox, hc1, hc2, hsz⟩ := own_box ho.r (by simp)
  subst e1 e2 e3
  have HO := Lib.hid ho
  have hgl := hbox.lt
  have HS := Lib.hid hso.2
  have hrg : w.rangeAt g 0 (tc t).toList := fun i u hu => by
    rw [Nat.zero_add, hbox.cell, List.getElem?_toArray, flat_cons, List.append_assoc, List.getElem?_append_left (List.getElem?_eq_some_iff.1 hu).1]
    exact hu
  have hln : r.length + 1 ≤ 1000 := by simpa using hl
  obtain ⟨M, hM⟩ : ∃ M, max now t.due = M := ⟨_, rfl⟩
  have HM := Lib.hid hM
  clear ho hso hsz hc1 hl hr
  go_enter Try.func36, Try.ntmps36
  go_upto_region 1 with (fail)
  have hq : Box (((w.alloc (.cells (lag ⟨now, nxt, tasks, smalls, t :: r⟩ (.slice A1 tasks.length k1) (.slice A2 smalls.length k2) (.slice (some ⟨g, 0, none⟩) (r.length + 1) cap)) 26)).alloc (.cells #[.int .i64 0, .int .i64 0, .slice none 0 0, .slice none 0 0, .slice none 0 0] 26)).alloc (.cells #[.int .i64 0, .int .i64 0, .bool false, .string ⟨#[]⟩, .int .i64 0, .int .i64 0, .string ⟨#[]⟩] 39)) (w.heap.size) 26 (lag ⟨now, nxt, tasks, smalls, t :: r⟩ (.slice A1 tasks.length k1) (.slice A2 smalls.length k2) (.slice (some ⟨g, 0, none⟩) (r.length + 1) cap)) := (((Box.new w 26 (lag ⟨now, nxt, tasks, smalls, t :: r⟩ (.slice A1 tasks.length k1) (.slice A2 smalls.length k2) (.slice (some ⟨g, 0, none⟩) (r.length + 1) cap))).alloc (.cells #[.int .i64 0, .int .i64 0, .slice none 0 0, .slice none 0 0, .slice none 0 0] 26)).alloc (.cells #[.int .i64 0, .int .i64 0, .bool false, .string ⟨#[]⟩, .int .i64 0, .int .i64 0, .string ⟨#[]⟩] 39))
  have hl : Box (((w.alloc (.cells (lag ⟨now, nxt, tasks, smalls, t :: r⟩ (.slice A1 tasks.length k1) (.slice A2 smalls.length k2) (.slice (some ⟨g, 0, none⟩) (r.length + 1) cap)) 26)).alloc (.cells #[.int .i64 0, .int .i64 0, .slice none 0 0, .slice none 0 0, .slice none 0 0] 26)).alloc (.cells #[.int .i64 0, .int .i64 0, .bool false, .string ⟨#[]⟩, .int .i64 0, .int .i64 0, .string ⟨#[]⟩] 39)) (w.heap.size + 1) 26 (#[.int .i64 0, .int .i64 0, .slice none 0 0, .slice none 0 0, .slice none 0 0]) := (new2 w (.cells (lag ⟨now, nxt, tasks, smalls, t :: r⟩ (.slice A1 tasks.length k1) (.slice A2 smalls.length k2) (.slice (some ⟨g, 0, none⟩) (r.length + 1) cap)) 26) 26 #[.int .i64 0, .int .i64 0, .slice none 0 0, .slice none 0 0, .slice none 0 0]).alloc (.cells #[.int .i64 0, .int .i64 0, .bool false, .string ⟨#[]⟩, .int .i64 0, .int .i64 0, .string ⟨#[]⟩] 39)
  have hj : Box (((w.alloc (.cells (lag ⟨now, nxt, tasks, smalls, t :: r⟩ (.slice A1 tasks.length k1) (.slice A2 smalls.length k2) (.slice (some ⟨g, 0, none⟩) (r.length + 1) cap)) 26)).alloc (.cells #[.int .i64 0, .int .i64 0, .slice none 0 0, .slice none 0 0, .slice none 0 0] 26)).alloc (.cells #[.int .i64 0, .int .i64 0, .bool false, .string ⟨#[]⟩, .int .i64 0, .int .i64 0, .string ⟨#[]⟩] 39)) (w.heap.size + 1 + 1) 39 (#[.int .i64 0, .int .i64 0, .bool false, .string ⟨#[]⟩, .int .i64 0, .int .i64 0, .string ⟨#[]⟩]) := new3 w (.cells (lag ⟨now, nxt, tasks, smalls, t :: r⟩ (.slice A1 tasks.length k1) (.slice A2 smalls.length k2) (.slice (some ⟨g, 0, none⟩) (r.length + 1) cap)) 26) (.cells #[.int .i64 0, .int .i64 0, .slice none 0 0, .slice none 0 0, .slice none 0 0] 26) 39 #[.int .i64 0, .int .i64 0, .bool false, .string ⟨#[]⟩, .int .i64 0, .int .i64 0, .string ⟨#[]⟩]
  have hU0 : Below w.heap.size w (((w.alloc (.cells (lag ⟨now, nxt, tasks, smalls, t :: r⟩ (.slice A1 tasks.length k1) (.slice A2 smalls.length k2) (.slice (some ⟨g, 0, none⟩) (r.length + 1) cap)) 26)).alloc (.cells #[.int .i64 0, .int .i64 0, .slice none 0 0, .slice none 0 0, .slice none 0 0] 26)).alloc (.cells #[.int .i64 0, .int .i64 0, .bool false, .string ⟨#[]⟩, .int .i64 0, .int .i64 0, .string ⟨#[]⟩] 39)) := ((below1 w _).alloc (by simp) _).alloc (by simp <;> omega) _
  generalize (((w.alloc (.cells (lag ⟨now, nxt, tasks, smalls, t :: r⟩ (.slice A1 tasks.length k1) (.slice A2 smalls.length k2) (.slice (some ⟨g, 0, none⟩) (r.length + 1) cap)) 26)).alloc (.cells #[.int .i64 0, .int .i64 0, .slice none 0 0, .slice none 0 0, .slice none 0 0] 26)).alloc (.cells #[.int .i64 0, .int .i64 0, .bool false, .string ⟨#[]⟩, .int .i64 0, .int .i64 0, .string ⟨#[]⟩] 39)) = W at *
  have hrW : Hid (W.rangeAt g 0 (tc t).toList) := fun i u hu => by
    rw [hU0.cell (p := ⟨g, 0 + i, none⟩) hgl]
    exact hrg i u hu
  have hbW := hbox.below hU0 hgl
  have hzW := hj.lt
  have q4 := hq.cell 4
  simp at q4
  clear hrg
  go_wp2_with (first | (refine wpList_load_mid rfl 49 (.tmp 8) rfl g 0 rfl (tc t).toList _ hrW.out Try.underlying49 rfl info_timer ?_) | (refine wpList_store_box rfl 49 (.tmp 4) (.tmp 9) rfl W.heap.size (tc t) rfl rfl 49 _ (Box.new W _ _) info_timer rfl (tc_one t) ?_; intro w4 hx4 hu4 hz4; have hq4 := (Box.alloc hq (.cells #[.int .i64 0, .int .i64 0, .int .i64 0, .int .i64 0, .string ⟨#[]⟩] 49)).grown hu4 (by intro h; injection h with h; omega); have q4 := hq4.cell 4; simp at q4; clear hz4 hq4))
  clear q4
  have hz4 := hx4.lt
  have hq_ := Box.alloc hq (.cells #[.int .i64 0, .int .i64 0, .int .i64 0, .int .i64 0, .string ⟨#[]⟩] 49)
  clear hq
  have hq := hq_
  clear hq_
  have hl_ := Box.alloc hl (.cells #[.int .i64 0, .int .i64 0, .int .i64 0, .int .i64 0, .string ⟨#[]⟩] 49)
  clear hl
  have hl := hl_
  clear hl_
  have hj_ := Box.alloc hj (.cells #[.int .i64 0, .int .i64 0, .int .i64 0, .int .i64 0, .string ⟨#[]⟩] 49)
  clear hj
  have hj := hj_
  clear hj_
  have hbW_ := Box.alloc hbW (.cells #[.int .i64 0, .int .i64 0, .int .i64 0, .int .i64 0, .string ⟨#[]⟩] 49)
  clear hbW
  have hbW := hbW_
  clear hbW_
  have hq_ := Box.grown hq hu4 (by intro h; injection h with h; omega)
  clear hq
  have hq := hq_
  clear hq_
  have hl_ := Box.grown hl hu4 (by intro h; injection h with h; omega)
  clear hl
  have hl := hl_
  clear hl_
  have hj_ := Box.grown hj hu4 (by intro h; injection h with h; omega)
  clear hj
  have hj := hj_
  clear hj_
  have hbW_ := Box.grown hbW hu4 (by intro h; injection h with h; omega)
  clear hbW
  have hbW := hbW_
  clear hbW_
  have hB4 : Below w.heap.size w w4 := (hU0.alloc hU0.size _).trans (hu4.own (by omega) (by simp; omega))
  have hO4 := Lib.hid (HO.out.below hB4)
  clear hu4
  refine (delete_first_timer t r B _ w4 hO4.out.r (by omega)).mono ?_
  rintro e w5 ⟨v5, rfl, hown5, hvb5, hgr5_⟩
  have hgr5 : Upd w4 w5 g := hgr5_
  clear hgr5_
  obtain ⟨A5, k5, rfl⟩ := own_slice hown5
  obtain ⟨cur5, hg5, hA5⟩ := own_block hown5 hvb5
  subst hA5
  have hU5 : Upd w w5 g := (Upd.below hB4 g).trans hgr5
  clear hbW
  have hq_ := Box.grown hq hgr5 (by intro h; injection h with h; omega)
  clear hq
  have hq := hq_
  clear hq_
  have hl_ := Box.grown hl hgr5 (by intro h; injection h with h; omega)
  clear hl
  have hl := hl_
  clear hl_
  have hj_ := Box.grown hj hgr5 (by intro h; injection h with h; omega)
  clear hj
  have hj := hj_
  clear hj_
  have hx4_ := Box.grown hx4 hgr5 (by intro h; injection h with h; omega)
  clear hx4
  have hx4 := hx4_
  clear hx4_
  have hz5 := hx4.lt
  have HOwn5 := Lib.hid hown5
  have HBox5 := Lib.hid hg5
  clear hown5 hgr5 hvb5
  have q0 := hq.cell 0
  have t1 := hx4.cell 1
  have fq0 := hq.frozen 0
  have fq4 := hq.frozen 4
  have q4 := hq.cell 4
  simp at q0 t1 q4
  go_upto_region 4 with (refine wpList_max2 rfl (.tmp 15) (.tmp 17) _ rfl _ _ M rfl rfl HM.out ?_)
  clear q0 t1 fq0 fq4 q4
  have hq_ := Box.set hq 4 (.slice (some ⟨g, 0, none⟩) r.length k5)
  clear hq
  have hq := hq_
  clear hq_
  have hl_ := Box.far hl (p := ⟨w.heap.size, 4, none⟩) (by simp <;> omega) (.slice (some ⟨g, 0, none⟩) r.length k5)
  clear hl
  have hl := hl_
  clear hl_
  have hj_ := Box.far hj (p := ⟨w.heap.size, 4, none⟩) (by simp <;> omega) (.slice (some ⟨g, 0, none⟩) r.length k5)
  clear hj
  have hj := hj_
  clear hj_
  have hx4_ := Box.far hx4 (p := ⟨w.heap.size, 4, none⟩) (by simp <;> omega) (.slice (some ⟨g, 0, none⟩) r.length k5)
  clear hx4
  have hx4 := hx4_
  clear hx4_
  have hg5_ := Box.far hg5 (p := ⟨w.heap.size, 4, none⟩) (by simp <;> omega) (.slice (some ⟨g, 0, none⟩) r.length k5)
  clear hg5
  have hg5 := hg5_
  clear hg5_
  have hq_ := Box.set hq 0 (.int .i64 M)
  clear hq
  have hq := hq_
  clear hq_
  have hl_ := Box.far hl (p := ⟨w.heap.size, 0, none⟩) (by simp <;> omega) (.int .i64 M)
  clear hl
  have hl := hl_
  clear hl_
  have hj_ := Box.far hj (p := ⟨w.heap.size, 0, none⟩) (by simp <;> omega) (.int .i64 M)
  clear hj
  have hj := hj_
  clear hj_
  have hx4_ := Box.far hx4 (p := ⟨w.heap.size, 0, none⟩) (by simp <;> omega) (.int .i64 M)
  clear hx4
  have hx4 := hx4_
  clear hx4_
  have hg5_ := Box.far hg5 (p := ⟨w.heap.size, 0, none⟩) (by simp <;> omega) (.int .i64 M)
  clear hg5
  have hg5 := hg5_
  clear hg5_
  have hU6 : Upd w ((w5.setCell ⟨w.heap.size, 4, none⟩ (.slice (some ⟨g, 0, none⟩) r.length k5)).setCell ⟨w.heap.size, 0, none⟩ (.int .i64 M)) g := (hU5.set (p := ⟨w.heap.size, 4, none⟩) (.inr (Nat.le_refl _)) (.slice (some ⟨g, 0, none⟩) r.length k5)).set (p := ⟨w.heap.size, 0, none⟩) (.inr (Nat.le_refl _)) (.int .i64 M)
  have hz6 : ((w5.setCell ⟨w.heap.size, 4, none⟩ (.slice (some ⟨g, 0, none⟩) r.length k5)).setCell ⟨w.heap.size, 0, none⟩ (.int .i64 M)).heap.size = w5.heap.size := by simp
  generalize ((w5.setCell ⟨w.heap.size, 4, none⟩ (.slice (some ⟨g, 0, none⟩) r.length k5)).setCell ⟨w.heap.size, 0, none⟩ (.int .i64 M)) = w6 at *
  change Box w6 (w.heap.size) 26 (lag ⟨M, nxt, tasks, smalls, r⟩ (.slice A1 tasks.length k1) (.slice A2 smalls.length k2) (.slice (some ⟨g, 0, none⟩) r.length k5)) at hq
  have t0 := hx4.cell 0
  have t3 := hx4.cell 3
  have t4 := hx4.cell 4
  have t1 := hx4.cell 1
  have t2 := hx4.cell 2
  have HZ6 := Lib.hid hz6
  clear hU5
  simp at t0 t1 t2 t3 t4
  have hz6' : w5.heap.size ≤ w6.heap.size := by rw [HZ6.out]; exact Nat.le_refl _
  clear hz6
  go_upto_region 5 with (refine wpList_store_box rfl 39 (.tmp 5) (.tmp 27) rfl w6.heap.size (jc ⟨t.id, 3, false, t.call, Valu.num t.turn⟩) rfl rfl 39 _ (Box.new w6 _ _) info_job rfl (jc_one ⟨t.id, 3, false, t.call, Valu.num t.turn⟩) ?_; intro w7 hx7 hu7 hz7; clear hz7)
  clear t0 t1 t2 t3 t4
  have hq_ := Box.alloc hq (.cells #[.int .i64 0, .int .i64 0, .bool false, .string ⟨#[]⟩, .int .i64 0, .int .i64 0, .string ⟨#[]⟩] 39)
  clear hq
  have hq := hq_
  clear hq_
  have hl_ := Box.alloc hl (.cells #[.int .i64 0, .int .i64 0, .bool false, .string ⟨#[]⟩, .int .i64 0, .int .i64 0, .string ⟨#[]⟩] 39)
  clear hl
  have hl := hl_
  clear hl_
  have hj_ := Box.alloc hj (.cells #[.int .i64 0, .int .i64 0, .bool false, .string ⟨#[]⟩, .int .i64 0, .int .i64 0, .string ⟨#[]⟩] 39)
  clear hj
  have hj := hj_
  clear hj_
  have hx4_ := Box.alloc hx4 (.cells #[.int .i64 0, .int .i64 0, .bool false, .string ⟨#[]⟩, .int .i64 0, .int .i64 0, .string ⟨#[]⟩] 39)
  clear hx4
  have hx4 := hx4_
  clear hx4_
  have hg5_ := Box.alloc hg5 (.cells #[.int .i64 0, .int .i64 0, .bool false, .string ⟨#[]⟩, .int .i64 0, .int .i64 0, .string ⟨#[]⟩] 39)
  clear hg5
  have hg5 := hg5_
  clear hg5_
  have hq_ := Box.grown hq hu7 (by intro h; injection h with h; omega)
  clear hq
  have hq := hq_
  clear hq_
  have hl_ := Box.grown hl hu7 (by intro h; injection h with h; omega)
  clear hl
  have hl := hl_
  clear hl_
  have hj_ := Box.grown hj hu7 (by intro h; injection h with h; omega)
  clear hj
  have hj := hj_
  clear hj_
  have hx4_ := Box.grown hx4 hu7 (by intro h; injection h with h; omega)
  clear hx4
  have hx4 := hx4_
  clear hx4_
  have hg5_ := Box.grown hg5 hu7 (by intro h; injection h with h; omega)
  clear hg5
  have hg5 := hg5_
  clear hg5_
  have hU7 : Upd w w7 g := (hU6.alloc _).far hu7 (by have := hU6.size; omega)
  clear hu7 hU6
  have hz7 := hx7.lt
  have hown7 := Lib.hid (own_of_box HOwn5.out rfl HBox5.out hg5)
  have t0 := hx4.cell 0
  have t1 := hx4.cell 1
  have t2 := hx4.cell 2
  have t3 := hx4.cell 3
  have t4 := hx4.cell 4
  simp at t0 t1 t2 t3 t4
  by_cases hc1 : 0 < t.every
  · by_cases hc2 : t.due + t.every ≤ 1000000000
    · by_cases hc3 : t.turn < 1000000000
      · have HFIRE : Hid (Loopy.fire ⟨now, nxt, tasks, smalls, t :: r⟩ t r = (⟨M, nxt, tasks, smalls, Loopy.lay r { t with due := t.due + t.every, turn := t.turn + 1 }⟩, ⟨t.id, 3, false, t.call, Valu.num t.turn⟩)) := by
          show Loopy.fire ⟨now, nxt, tasks, smalls, t :: r⟩ t r = _
          unfold Loopy.fire Loopy.most
          simp only
          rw [if_pos ⟨by omega, by omega, by omega⟩, HM.out]
        have ft1 := hx4.frozen 1
        have ft3 := hx4.frozen 3
        have q4 := hq.cell 4
        simp at q4
        go_upto_region 7 with (fail)
        clear ft1 ft3 q4 t0 t1 t2 t3 t4
        have hq_ := Box.far hq (p := ⟨W.heap.size, 1, none⟩) (by simp <;> omega) (.int .i64 (t.due + t.every))
        clear hq
        have hq := hq_
        clear hq_
        have hl_ := Box.far hl (p := ⟨W.heap.size, 1, none⟩) (by simp <;> omega) (.int .i64 (t.due + t.every))
        clear hl
        have hl := hl_
        clear hl_
        have hj_ := Box.far hj (p := ⟨W.heap.size, 1, none⟩) (by simp <;> omega) (.int .i64 (t.due + t.every))
        clear hj
        have hj := hj_
        clear hj_
        have hx4_ := Box.set hx4 1 (.int .i64 (t.due + t.every))
        clear hx4
        have hx4 := hx4_
        clear hx4_
        have hg5_ := Box.far hg5 (p := ⟨W.heap.size, 1, none⟩) (by simp <;> omega) (.int .i64 (t.due + t.every))
        clear hg5
        have hg5 := hg5_
        clear hg5_
        have hx7_ := Box.far hx7 (p := ⟨W.heap.size, 1, none⟩) (by simp <;> omega) (.int .i64 (t.due + t.every))
        clear hx7
        have hx7 := hx7_
        clear hx7_
        have hq_ := Box.far hq (p := ⟨W.heap.size, 3, none⟩) (by simp <;> omega) (.int .i64 (t.turn + 1))
        clear hq
        have hq := hq_
        clear hq_
        have hl_ := Box.far hl (p := ⟨W.heap.size, 3, none⟩) (by simp <;> omega) (.int .i64 (t.turn + 1))
        clear hl
        have hl := hl_
        clear hl_
        have hj_ := Box.far hj (p := ⟨W.heap.size, 3, none⟩) (by simp <;> omega) (.int .i64 (t.turn + 1))
        clear hj
        have hj := hj_
        clear hj_
        have hx4_ := Box.set hx4 3 (.int .i64 (t.turn + 1))
        clear hx4
        have hx4 := hx4_
        clear hx4_
        have hg5_ := Box.far hg5 (p := ⟨W.heap.size, 3, none⟩) (by simp <;> omega) (.int .i64 (t.turn + 1))
        clear hg5
        have hg5 := hg5_
        clear hg5_
        have hx7_ := Box.far hx7 (p := ⟨W.heap.size, 3, none⟩) (by simp <;> omega) (.int .i64 (t.turn + 1))
        clear hx7
        have hx7 := hx7_
        clear hx7_
        have hU7b : Upd w ((w7.setCell ⟨W.heap.size, 1, none⟩ (.int .i64 (t.due + t.every))).setCell ⟨W.heap.size, 3, none⟩ (.int .i64 (t.turn + 1))) g := (hU7.set (p := ⟨W.heap.size, 1, none⟩) (.inr (by simp; omega)) (.int .i64 (t.due + t.every))).set (p := ⟨W.heap.size, 3, none⟩) (.inr (by simp; omega)) (.int .i64 (t.turn + 1))
        have hz7b : ((w7.setCell ⟨W.heap.size, 1, none⟩ (.int .i64 (t.due + t.every))).setCell ⟨W.heap.size, 3, none⟩ (.int .i64 (t.turn + 1))).heap.size = w7.heap.size := by simp
        generalize ((w7.setCell ⟨W.heap.size, 1, none⟩ (.int .i64 (t.due + t.every))).setCell ⟨W.heap.size, 3, none⟩ (.int .i64 (t.turn + 1))) = w7b at *
        change Box w7b (W.heap.size) 49 (tc { t with due := t.due + t.every, turn := t.turn + 1 }) at hx4
        have HZ7 := Lib.hid hz7b
        have hz7c : w7.heap.size ≤ w7b.heap.size := by rw [HZ7.out]; exact Nat.le_refl _
        clear hz7b hU7
        have hown7b := Lib.hid (own_of_box HOwn5.out rfl HBox5.out hg5)
        have q4 := hq.cell 4
        simp at q4
        go_wp2_with (refine wpList_load_row rfl 49 (.tmp 4) rfl W.heap.size rfl _ (tc { t with due := t.due + t.every, turn := t.turn + 1 }) (0, 0) _ hx4 Try.underlying49 rfl info_timer ?_)
        refine (lay_any r { t with due := t.due + t.every, turn := t.turn + 1 } B _ w7b hown7b.out (by omega) HS.out (by omega)).mono ?_
        rintro e w8 ⟨g8, k8, rfl, hown8, hor8, hlt8, hgr8_⟩
        have hgr8 : Upd w7b w8 g := hgr8_
        clear hgr8_ q4
        have hg8 : g8 = g ∨ w7b.heap.size ≤ g8 := by
          rcases hor8 with h | h
          · left; injection h with h; exact h.symm
          · exact .inr h
        obtain ⟨cur8, hb8, _⟩ := own_block hown8 rfl
        have hU8 : Upd w w8 g := hU7b.trans hgr8
        clear hU7b hor8 hg5
        have hq_ := Box.grown hq hgr8 (by intro h; injection h with h; omega)
        clear hq
        have hq := hq_
        clear hq_
        have hl_ := Box.grown hl hgr8 (by intro h; injection h with h; omega)
        clear hl
        have hl := hl_
        clear hl_
        have hj_ := Box.grown hj hgr8 (by intro h; injection h with h; omega)
        clear hj
        have hj := hj_
        clear hj_
        have hx4_ := Box.grown hx4 hgr8 (by intro h; injection h with h; omega)
        clear hx4
        have hx4 := hx4_
        clear hx4_
        have hx7_ := Box.grown hx7 hgr8 (by intro h; injection h with h; omega)
        clear hx7
        have hx7 := hx7_
        clear hx7_
        have hz8 := hgr8.size
        have hg8w : g8 = g ∨ w.heap.size ≤ g8 := by omega
        have fq4 := hq.frozen 4
        have q4 := hq.cell 4
        simp at q4
        clear hgr8
        go_upto_region 8 with (fail)
        clear fq4 q4
        have hb8ne : g8 ≠ w.heap.size := by omega
        have hq_ := Box.set hq 4 (.slice (some ⟨g8, 0, none⟩) (r.length + 1) k8)
        clear hq
        have hq := hq_
        clear hq_
        have hl_ := Box.far hl (p := ⟨w.heap.size, 4, none⟩) (by simp <;> omega) (.slice (some ⟨g8, 0, none⟩) (r.length + 1) k8)
        clear hl
        have hl := hl_
        clear hl_
        have hj_ := Box.far hj (p := ⟨w.heap.size, 4, none⟩) (by simp <;> omega) (.slice (some ⟨g8, 0, none⟩) (r.length + 1) k8)
        clear hj
        have hj := hj_
        clear hj_
        have hx4_ := Box.far hx4 (p := ⟨w.heap.size, 4, none⟩) (by simp <;> omega) (.slice (some ⟨g8, 0, none⟩) (r.length + 1) k8)
        clear hx4
        have hx4 := hx4_
        clear hx4_
        have hx7_ := Box.far hx7 (p := ⟨w.heap.size, 4, none⟩) (by simp <;> omega) (.slice (some ⟨g8, 0, none⟩) (r.length + 1) k8)
        clear hx7
        have hx7 := hx7_
        clear hx7_
        have hb8_ := Box.far hb8 (p := ⟨w.heap.size, 4, none⟩) (by simp <;> omega) (.slice (some ⟨g8, 0, none⟩) (r.length + 1) k8)
        clear hb8
        have hb8 := hb8_
        clear hb8_
        have hU8b : Upd w (w8.setCell ⟨w.heap.size, 4, none⟩ (.slice (some ⟨g8, 0, none⟩) (r.length + 1) k8)) g := hU8.set (p := ⟨w.heap.size, 4, none⟩) (.inr (Nat.le_refl _)) (.slice (some ⟨g8, 0, none⟩) (r.length + 1) k8)
        have hz8b : (w8.setCell ⟨w.heap.size, 4, none⟩ (.slice (some ⟨g8, 0, none⟩) (r.length + 1) k8)).heap.size = w8.heap.size := by simp
        have hown8b : (w8.setCell ⟨w.heap.size, 4, none⟩ (.slice (some ⟨g8, 0, none⟩) (r.length + 1) k8)).ownsRow B 49 5 (.slice (some ⟨g8, 0, none⟩) (r.length + 1) k8) (r.length + 1) (flat tc (Loopy.lay r { t with due := t.due + t.every, turn := t.turn + 1 })) := own_grown hown8 ((Upd.refl w8 w.heap.size).set (p := ⟨w.heap.size, 4, none⟩) (.inl rfl) (.slice (some ⟨g8, 0, none⟩) (r.length + 1) k8)) (.inr (by intro h; injection h with h; exact hb8ne h))
        generalize (w8.setCell ⟨w.heap.size, 4, none⟩ (.slice (some ⟨g8, 0, none⟩) (r.length + 1) k8)) = w8b at *
        change Box w8b (w.heap.size) 26 (lag ⟨M, nxt, tasks, smalls, Loopy.lay r { t with due := t.due + t.every, turn := t.turn + 1 }⟩ (.slice A1 tasks.length k1) (.slice A2 smalls.length k2) (.slice (some ⟨g8, 0, none⟩) (r.length + 1) k8)) at hq
        have HZ8 := Lib.hid hz8b
        have hz8c : w8.heap.size ≤ w8b.heap.size := by rw [HZ8.out]; exact Nat.le_refl _
        clear hz8b hU8 hown8
        have hll := Loopy.lay_len { t with due := t.due + t.every, turn := t.turn + 1 } r
        have HLL := Lib.hid hll
        clear hll
        have hone : (lag ⟨M, nxt, tasks, smalls, Loopy.lay r { t with due := t.due + t.every, turn := t.turn + 1 }⟩ (.slice A1 tasks.length k1) (.slice A2 smalls.length k2) (.slice (some ⟨g8, 0, none⟩) (r.length + 1) k8)).all (·.oneCell') = true := by simp [Value.oneCell']
        have hzz := hj.lt
        have HUU := Lib.hid hU8b
        have HROW := Lib.hid hown8b
        refine wp_region_held_drew (S := fun w' => Box w' (w.heap.size) 26 (lag ⟨M, nxt, tasks, smalls, Loopy.lay r { t with due := t.due + t.every, turn := t.turn + 1 }⟩ (.slice A1 tasks.length k1) (.slice A2 smalls.length k2) (.slice (some ⟨g8, 0, none⟩) (r.length + 1) k8)) ∧ Box w' (w6.heap.size) 39 (jc ⟨t.id, 3, false, t.call, Valu.num t.turn⟩)) (by kernel_rfl) ⟨hq, hx7⟩ (fun hHeld => ?_)
        refine wpAnyH_take (i := 0) (v := _) rfl (by kernel_rfl) (by kernel_rfl) (by kernel_rfl) (fun _ _ _ h => h) (yields_load_box (by kernel_rfl) 26 (.tmp 1) rfl (w.heap.size) 26 (lag ⟨M, nxt, tasks, smalls, Loopy.lay r { t with due := t.due + t.every, turn := t.turn + 1 }⟩ (.slice A1 tasks.length k1) (.slice A2 smalls.length k2) (.slice (some ⟨g8, 0, none⟩) (r.length + 1) k8)) _ rfl (fun _ h => h.1) Try.underlying26 rfl info_loop) (by assumption) ?_
        (try simp only [Act.put, List.getElem_toArray, List.getElem_cons_succ, List.getElem_cons_zero, List.setIfInBounds_toArray, List.set_cons_zero, List.set_cons_succ])
        refine wpAnyH_take (i := 1) (v := _) rfl (by kernel_rfl) (by kernel_rfl) (by kernel_rfl) (fun _ _ _ h => h) (yields_load_box (by kernel_rfl) 39 (.tmp 5) rfl (w6.heap.size) 39 (jc ⟨t.id, 3, false, t.call, Valu.num t.turn⟩) _ rfl (fun _ h => h.2) Try.underlying39 rfl info_job) (by assumption) ?_
        (try simp only [Act.put, List.getElem_toArray, List.getElem_cons_succ, List.getElem_cons_zero, List.setIfInBounds_toArray, List.set_cons_zero, List.set_cons_succ])
        refine wpAnyH_ready (rs := [2]) (by kernel_rfl) (by simp) ?_
        refine AllReadyH.cons rfl (fun K hK => ?_) AllReadyH.nil
        refine step_store_box rfl 26 (.tmp 2) (.tmp 59) rfl (w.heap.size + 1) (lag ⟨M, nxt, tasks, smalls, Loopy.lay r { t with due := t.due + t.every, turn := t.turn + 1 }⟩ (.slice A1 tasks.length k1) (.slice A2 smalls.length k2) (.slice (some ⟨g8, 0, none⟩) (r.length + 1) k8)) rfl rfl 26 _ (Box.drew hl) info_loop rfl hone ?_; intro w9 hx9 hu9 hz9
        refine hK.out _ _ ⟨Box.grown (Box.drew hq) hu9 (by intro h; injection h with h; omega), Box.grown (Box.drew hx7) hu9 (by intro h; injection h with h; omega)⟩ (fun hHeld => ?_)
        clear hK K
        (try simp only [Act.put, List.getElem_toArray, List.getElem_cons_succ, List.getElem_cons_zero, List.setIfInBounds_toArray, List.set_cons_zero, List.set_cons_succ])
        refine wpAnyH_ready (rs := [3]) (by kernel_rfl) (by simp) ?_
        refine AllReadyH.cons rfl (fun K hK => ?_) AllReadyH.nil
        refine step_store_box rfl 39 (.tmp 3) (.tmp 60) rfl (w.heap.size + 1 + 1) (jc ⟨t.id, 3, false, t.call, Valu.num t.turn⟩) rfl rfl 39 _ (Box.grown (Box.drew hj) hu9 (by intro h; injection h with h; omega)) info_job rfl (jc_one ⟨t.id, 3, false, t.call, Valu.num t.turn⟩) ?_; intro w10 hx10 hu10 hz10
        refine hK.out _ _ ⟨Box.grown (Box.grown (Box.drew hq) hu9 (by intro h; injection h with h; omega)) hu10 (by intro h; injection h with h; omega), Box.grown (Box.grown (Box.drew hx7) hu9 (by intro h; injection h with h; omega)) hu10 (by intro h; injection h with h; omega)⟩ (fun hHeld => ?_)
        clear hK K
        (try simp only [Act.put, List.getElem_toArray, List.getElem_cons_succ, List.getElem_cons_zero, List.setIfInBounds_toArray, List.set_cons_zero, List.set_cons_succ])
        refine wpAnyH_done (by kernel_rfl) ?_ _
        go_wp2
        refine bodyPost_ret (results_bb rfl (Back.mk' (w.heap.size + 1) 26 _ rfl (Box.grown hx9 hu10 (by intro h; injection h with h; omega)) Try.underlying26 rfl info_loop) (Back.mk' (w.heap.size + 1 + 1) 39 _ rfl hx10 Try.underlying39 rfl info_job)) rfl ?_
        have hU10 : Upd w w10 g := (HUU.out.drew.far hu9 (by omega)).far hu10 (by omega)
        have hb10 := Box.grown (Box.grown (Box.drew hb8) hu9 (by intro h; injection h with h; omega)) hu10 (by intro h; injection h with h; omega)
        exact ⟨_, _, _, by rw [HFIRE.out], by rw [HFIRE.out]; exact own_end HO.out hU10 (by show World.ownsRow _ _ _ _ _ (Loopy.lay r _).length _; rw [Loopy.lay_len]; exact own_of_box HROW.out rfl hb8 hb10) hg8w rfl rfl, Step.of_upd (.inr (.inr rfl)) hU10 (by rintro k (a | a | a); exact .inl (.inl a); exact .inl (.inr (.inl a)); simp [Value.ownBlock] at a; rcases (hg8w : _ ∨ w.heap.size ≤ _) with e | e; exact .inl (.inr (.inr (by simp [Value.ownBlock]; omega))); exact .inr (by omega))⟩
      · have hc4 : ¬ t.turn < 1000000000 := hc3
        have HFIRE : Hid (Loopy.fire ⟨now, nxt, tasks, smalls, t :: r⟩ t r = (⟨M, nxt, tasks, smalls, r⟩, ⟨t.id, 3, false, t.call, Valu.num t.turn⟩)) := by
          show Loopy.fire ⟨now, nxt, tasks, smalls, t :: r⟩ t r = _
          unfold Loopy.fire Loopy.most
          simp only
          rw [if_neg (by omega), HM.out]
        go_wp2_with (fail)
        have hone : (lag ⟨M, nxt, tasks, smalls, r⟩ (.slice A1 tasks.length k1) (.slice A2 smalls.length k2) (.slice (some ⟨g, 0, none⟩) r.length k5)).all (·.oneCell') = true := by simp [Value.oneCell']
        have hzz := hj.lt
        have HUU := Lib.hid hU7
        have HROW := Lib.hid hown7.out
        refine wp_region_held_drew (S := fun w' => Box w' (w.heap.size) 26 (lag ⟨M, nxt, tasks, smalls, r⟩ (.slice A1 tasks.length k1) (.slice A2 smalls.length k2) (.slice (some ⟨g, 0, none⟩) r.length k5)) ∧ Box w' (w6.heap.size) 39 (jc ⟨t.id, 3, false, t.call, Valu.num t.turn⟩)) (by kernel_rfl) ⟨hq, hx7⟩ (fun hHeld => ?_)
        refine wpAnyH_take (i := 0) (v := _) rfl (by kernel_rfl) (by kernel_rfl) (by kernel_rfl) (fun _ _ _ h => h) (yields_load_box (by kernel_rfl) 26 (.tmp 1) rfl (w.heap.size) 26 (lag ⟨M, nxt, tasks, smalls, r⟩ (.slice A1 tasks.length k1) (.slice A2 smalls.length k2) (.slice (some ⟨g, 0, none⟩) r.length k5)) _ rfl (fun _ h => h.1) Try.underlying26 rfl info_loop) (by assumption) ?_
        (try simp only [Act.put, List.getElem_toArray, List.getElem_cons_succ, List.getElem_cons_zero, List.setIfInBounds_toArray, List.set_cons_zero, List.set_cons_succ])
        refine wpAnyH_take (i := 1) (v := _) rfl (by kernel_rfl) (by kernel_rfl) (by kernel_rfl) (fun _ _ _ h => h) (yields_load_box (by kernel_rfl) 39 (.tmp 5) rfl (w6.heap.size) 39 (jc ⟨t.id, 3, false, t.call, Valu.num t.turn⟩) _ rfl (fun _ h => h.2) Try.underlying39 rfl info_job) (by assumption) ?_
        (try simp only [Act.put, List.getElem_toArray, List.getElem_cons_succ, List.getElem_cons_zero, List.setIfInBounds_toArray, List.set_cons_zero, List.set_cons_succ])
        refine wpAnyH_ready (rs := [2]) (by kernel_rfl) (by simp) ?_
        refine AllReadyH.cons rfl (fun K hK => ?_) AllReadyH.nil
        refine step_store_box rfl 26 (.tmp 2) (.tmp 59) rfl (w.heap.size + 1) (lag ⟨M, nxt, tasks, smalls, r⟩ (.slice A1 tasks.length k1) (.slice A2 smalls.length k2) (.slice (some ⟨g, 0, none⟩) r.length k5)) rfl rfl 26 _ (Box.drew hl) info_loop rfl hone ?_; intro w9 hx9 hu9 hz9
        refine hK.out _ _ ⟨Box.grown (Box.drew hq) hu9 (by intro h; injection h with h; omega), Box.grown (Box.drew hx7) hu9 (by intro h; injection h with h; omega)⟩ (fun hHeld => ?_)
        clear hK K
        (try simp only [Act.put, List.getElem_toArray, List.getElem_cons_succ, List.getElem_cons_zero, List.setIfInBounds_toArray, List.set_cons_zero, List.set_cons_succ])
        refine wpAnyH_ready (rs := [3]) (by kernel_rfl) (by simp) ?_
        refine AllReadyH.cons rfl (fun K hK => ?_) AllReadyH.nil
        refine step_store_box rfl 39 (.tmp 3) (.tmp 60) rfl (w.heap.size + 1 + 1) (jc ⟨t.id, 3, false, t.call, Valu.num t.turn⟩) rfl rfl 39 _ (Box.grown (Box.drew hj) hu9 (by intro h; injection h with h; omega)) info_job rfl (jc_one ⟨t.id, 3, false, t.call, Valu.num t.turn⟩) ?_; intro w10 hx10 hu10 hz10
        refine hK.out _ _ ⟨Box.grown (Box.grown (Box.drew hq) hu9 (by intro h; injection h with h; omega)) hu10 (by intro h; injection h with h; omega), Box.grown (Box.grown (Box.drew hx7) hu9 (by intro h; injection h with h; omega)) hu10 (by intro h; injection h with h; omega)⟩ (fun hHeld => ?_)
        clear hK K
        (try simp only [Act.put, List.getElem_toArray, List.getElem_cons_succ, List.getElem_cons_zero, List.setIfInBounds_toArray, List.set_cons_zero, List.set_cons_succ])
        refine wpAnyH_done (by kernel_rfl) ?_ _
        go_wp2
        refine bodyPost_ret (results_bb rfl (Back.mk' (w.heap.size + 1) 26 _ rfl (Box.grown hx9 hu10 (by intro h; injection h with h; omega)) Try.underlying26 rfl info_loop) (Back.mk' (w.heap.size + 1 + 1) 39 _ rfl hx10 Try.underlying39 rfl info_job)) rfl ?_
        have hU10 : Upd w w10 g := (HUU.out.drew.far hu9 (by omega)).far hu10 (by omega)
        have hb10 := Box.grown (Box.grown (Box.drew hg5) hu9 (by intro h; injection h with h; omega)) hu10 (by intro h; injection h with h; omega)
        exact ⟨_, _, _, by rw [HFIRE.out], by rw [HFIRE.out]; exact own_end HO.out hU10 (by exact own_of_box HROW.out rfl hg5 hb10) (Or.inl rfl : g = g ∨ w.heap.size ≤ g) rfl rfl, Step.of_upd (.inr (.inr rfl)) hU10 (by rintro k (a | a | a); exact .inl (.inl a); exact .inl (.inr (.inl a)); simp [Value.ownBlock] at a; rcases ((Or.inl rfl : g = g ∨ w.heap.size ≤ g) : _ ∨ w.heap.size ≤ _) with e | e; exact .inl (.inr (.inr (by simp [Value.ownBlock]; omega))); exact .inr (by omega))⟩
    · have hc4 : ¬ t.due + t.every ≤ 1000000000 := hc2
      have HFIRE : Hid (Loopy.fire ⟨now, nxt, tasks, smalls, t :: r⟩ t r = (⟨M, nxt, tasks, smalls, r⟩, ⟨t.id, 3, false, t.call, Valu.num t.turn⟩)) := by
        show Loopy.fire ⟨now, nxt, tasks, smalls, t :: r⟩ t r = _
        unfold Loopy.fire Loopy.most
        simp only
        rw [if_neg (by omega), HM.out]
      go_wp2_with (fail)
      have hone : (lag ⟨M, nxt, tasks, smalls, r⟩ (.slice A1 tasks.length k1) (.slice A2 smalls.length k2) (.slice (some ⟨g, 0, none⟩) r.length k5)).all (·.oneCell') = true := by simp [Value.oneCell']
      have hzz := hj.lt
      have HUU := Lib.hid hU7
      have HROW := Lib.hid hown7.out
      refine wp_region_held_drew (S := fun w' => Box w' (w.heap.size) 26 (lag ⟨M, nxt, tasks, smalls, r⟩ (.slice A1 tasks.length k1) (.slice A2 smalls.length k2) (.slice (some ⟨g, 0, none⟩) r.length k5)) ∧ Box w' (w6.heap.size) 39 (jc ⟨t.id, 3, false, t.call, Valu.num t.turn⟩)) (by kernel_rfl) ⟨hq, hx7⟩ (fun hHeld => ?_)
      refine wpAnyH_take (i := 0) (v := _) rfl (by kernel_rfl) (by kernel_rfl) (by kernel_rfl) (fun _ _ _ h => h) (yields_load_box (by kernel_rfl) 26 (.tmp 1) rfl (w.heap.size) 26 (lag ⟨M, nxt, tasks, smalls, r⟩ (.slice A1 tasks.length k1) (.slice A2 smalls.length k2) (.slice (some ⟨g, 0, none⟩) r.length k5)) _ rfl (fun _ h => h.1) Try.underlying26 rfl info_loop) (by assumption) ?_
      (try simp only [Act.put, List.getElem_toArray, List.getElem_cons_succ, List.getElem_cons_zero, List.setIfInBounds_toArray, List.set_cons_zero, List.set_cons_succ])
      refine wpAnyH_take (i := 1) (v := _) rfl (by kernel_rfl) (by kernel_rfl) (by kernel_rfl) (fun _ _ _ h => h) (yields_load_box (by kernel_rfl) 39 (.tmp 5) rfl (w6.heap.size) 39 (jc ⟨t.id, 3, false, t.call, Valu.num t.turn⟩) _ rfl (fun _ h => h.2) Try.underlying39 rfl info_job) (by assumption) ?_
      (try simp only [Act.put, List.getElem_toArray, List.getElem_cons_succ, List.getElem_cons_zero, List.setIfInBounds_toArray, List.set_cons_zero, List.set_cons_succ])
      refine wpAnyH_ready (rs := [2]) (by kernel_rfl) (by simp) ?_
      refine AllReadyH.cons rfl (fun K hK => ?_) AllReadyH.nil
      refine step_store_box rfl 26 (.tmp 2) (.tmp 59) rfl (w.heap.size + 1) (lag ⟨M, nxt, tasks, smalls, r⟩ (.slice A1 tasks.length k1) (.slice A2 smalls.length k2) (.slice (some ⟨g, 0, none⟩) r.length k5)) rfl rfl 26 _ (Box.drew hl) info_loop rfl hone ?_; intro w9 hx9 hu9 hz9
      refine hK.out _ _ ⟨Box.grown (Box.drew hq) hu9 (by intro h; injection h with h; omega), Box.grown (Box.drew hx7) hu9 (by intro h; injection h with h; omega)⟩ (fun hHeld => ?_)
      clear hK K
      (try simp only [Act.put, List.getElem_toArray, List.getElem_cons_succ, List.getElem_cons_zero, List.setIfInBounds_toArray, List.set_cons_zero, List.set_cons_succ])
      refine wpAnyH_ready (rs := [3]) (by kernel_rfl) (by simp) ?_
      refine AllReadyH.cons rfl (fun K hK => ?_) AllReadyH.nil
      refine step_store_box rfl 39 (.tmp 3) (.tmp 60) rfl (w.heap.size + 1 + 1) (jc ⟨t.id, 3, false, t.call, Valu.num t.turn⟩) rfl rfl 39 _ (Box.grown (Box.drew hj) hu9 (by intro h; injection h with h; omega)) info_job rfl (jc_one ⟨t.id, 3, false, t.call, Valu.num t.turn⟩) ?_; intro w10 hx10 hu10 hz10
      refine hK.out _ _ ⟨Box.grown (Box.grown (Box.drew hq) hu9 (by intro h; injection h with h; omega)) hu10 (by intro h; injection h with h; omega), Box.grown (Box.grown (Box.drew hx7) hu9 (by intro h; injection h with h; omega)) hu10 (by intro h; injection h with h; omega)⟩ (fun hHeld => ?_)
      clear hK K
      (try simp only [Act.put, List.getElem_toArray, List.getElem_cons_succ, List.getElem_cons_zero, List.setIfInBounds_toArray, List.set_cons_zero, List.set_cons_succ])
      refine wpAnyH_done (by kernel_rfl) ?_ _
      go_wp2
      refine bodyPost_ret (results_bb rfl (Back.mk' (w.heap.size + 1) 26 _ rfl (Box.grown hx9 hu10 (by intro h; injection h with h; omega)) Try.underlying26 rfl info_loop) (Back.mk' (w.heap.size + 1 + 1) 39 _ rfl hx10 Try.underlying39 rfl info_job)) rfl ?_
      have hU10 : Upd w w10 g := (HUU.out.drew.far hu9 (by omega)).far hu10 (by omega)
      have hb10 := Box.grown (Box.grown (Box.drew hg5) hu9 (by intro h; injection h with h; omega)) hu10 (by intro h; injection h with h; omega)
      exact ⟨_, _, _, by rw [HFIRE.out], by rw [HFIRE.out]; exact own_end HO.out hU10 (by exact own_of_box HROW.out rfl hg5 hb10) (Or.inl rfl : g = g ∨ w.heap.size ≤ g) rfl rfl, Step.of_upd (.inr (.inr rfl)) hU10 (by rintro k (a | a | a); exact .inl (.inl a); exact .inl (.inr (.inl a)); simp [Value.ownBlock] at a; rcases ((Or.inl rfl : g = g ∨ w.heap.size ≤ g) : _ ∨ w.heap.size ≤ _) with e | e; exact .inl (.inr (.inr (by simp [Value.ownBlock]; omega))); exact .inr (by omega))⟩
  · have hc4 : ¬ 0 < t.every := hc1
    have HFIRE : Hid (Loopy.fire ⟨now, nxt, tasks, smalls, t :: r⟩ t r = (⟨M, nxt, tasks, smalls, r⟩, ⟨t.id, 3, false, t.call, Valu.num t.turn⟩)) := by
      show Loopy.fire ⟨now, nxt, tasks, smalls, t :: r⟩ t r = _
      unfold Loopy.fire Loopy.most
      simp only
      rw [if_neg (by omega), HM.out]
    go_wp2_with (fail)
    have hone : (lag ⟨M, nxt, tasks, smalls, r⟩ (.slice A1 tasks.length k1) (.slice A2 smalls.length k2) (.slice (some ⟨g, 0, none⟩) r.length k5)).all (·.oneCell') = true := by simp [Value.oneCell']
    have hzz := hj.lt
    have HUU := Lib.hid hU7
    have HROW := Lib.hid hown7.out
    refine wp_region_held_drew (S := fun w' => Box w' (w.heap.size) 26 (lag ⟨M, nxt, tasks, smalls, r⟩ (.slice A1 tasks.length k1) (.slice A2 smalls.length k2) (.slice (some ⟨g, 0, none⟩) r.length k5)) ∧ Box w' (w6.heap.size) 39 (jc ⟨t.id, 3, false, t.call, Valu.num t.turn⟩)) (by kernel_rfl) ⟨hq, hx7⟩ (fun hHeld => ?_)
    refine wpAnyH_take (i := 0) (v := _) rfl (by kernel_rfl) (by kernel_rfl) (by kernel_rfl) (fun _ _ _ h => h) (yields_load_box (by kernel_rfl) 26 (.tmp 1) rfl (w.heap.size) 26 (lag ⟨M, nxt, tasks, smalls, r⟩ (.slice A1 tasks.length k1) (.slice A2 smalls.length k2) (.slice (some ⟨g, 0, none⟩) r.length k5)) _ rfl (fun _ h => h.1) Try.underlying26 rfl info_loop) (by assumption) ?_
    (try simp only [Act.put, List.getElem_toArray, List.getElem_cons_succ, List.getElem_cons_zero, List.setIfInBounds_toArray, List.set_cons_zero, List.set_cons_succ])
    refine wpAnyH_take (i := 1) (v := _) rfl (by kernel_rfl) (by kernel_rfl) (by kernel_rfl) (fun _ _ _ h => h) (yields_load_box (by kernel_rfl) 39 (.tmp 5) rfl (w6.heap.size) 39 (jc ⟨t.id, 3, false, t.call, Valu.num t.turn⟩) _ rfl (fun _ h => h.2) Try.underlying39 rfl info_job) (by assumption) ?_
    (try simp only [Act.put, List.getElem_toArray, List.getElem_cons_succ, List.getElem_cons_zero, List.setIfInBounds_toArray, List.set_cons_zero, List.set_cons_succ])
    refine wpAnyH_ready (rs := [2]) (by kernel_rfl) (by simp) ?_
    refine AllReadyH.cons rfl (fun K hK => ?_) AllReadyH.nil
    refine step_store_box rfl 26 (.tmp 2) (.tmp 59) rfl (w.heap.size + 1) (lag ⟨M, nxt, tasks, smalls, r⟩ (.slice A1 tasks.length k1) (.slice A2 smalls.length k2) (.slice (some ⟨g, 0, none⟩) r.length k5)) rfl rfl 26 _ (Box.drew hl) info_loop rfl hone ?_; intro w9 hx9 hu9 hz9
    refine hK.out _ _ ⟨Box.grown (Box.drew hq) hu9 (by intro h; injection h with h; omega), Box.grown (Box.drew hx7) hu9 (by intro h; injection h with h; omega)⟩ (fun hHeld => ?_)
    clear hK K
    (try simp only [Act.put, List.getElem_toArray, List.getElem_cons_succ, List.getElem_cons_zero, List.setIfInBounds_toArray, List.set_cons_zero, List.set_cons_succ])
    refine wpAnyH_ready (rs := [3]) (by kernel_rfl) (by simp) ?_
    refine AllReadyH.cons rfl (fun K hK => ?_) AllReadyH.nil
    refine step_store_box rfl 39 (.tmp 3) (.tmp 60) rfl (w.heap.size + 1 + 1) (jc ⟨t.id, 3, false, t.call, Valu.num t.turn⟩) rfl rfl 39 _ (Box.grown (Box.drew hj) hu9 (by intro h; injection h with h; omega)) info_job rfl (jc_one ⟨t.id, 3, false, t.call, Valu.num t.turn⟩) ?_; intro w10 hx10 hu10 hz10
    refine hK.out _ _ ⟨Box.grown (Box.grown (Box.drew hq) hu9 (by intro h; injection h with h; omega)) hu10 (by intro h; injection h with h; omega), Box.grown (Box.grown (Box.drew hx7) hu9 (by intro h; injection h with h; omega)) hu10 (by intro h; injection h with h; omega)⟩ (fun hHeld => ?_)
    clear hK K
    (try simp only [Act.put, List.getElem_toArray, List.getElem_cons_succ, List.getElem_cons_zero, List.setIfInBounds_toArray, List.set_cons_zero, List.set_cons_succ])
    refine wpAnyH_done (by kernel_rfl) ?_ _
    go_wp2
    refine bodyPost_ret (results_bb rfl (Back.mk' (w.heap.size + 1) 26 _ rfl (Box.grown hx9 hu10 (by intro h; injection h with h; omega)) Try.underlying26 rfl info_loop) (Back.mk' (w.heap.size + 1 + 1) 39 _ rfl hx10 Try.underlying39 rfl info_job)) rfl ?_
    have hU10 : Upd w w10 g := (HUU.out.drew.far hu9 (by omega)).far hu10 (by omega)
    have hb10 := Box.grown (Box.grown (Box.drew hg5) hu9 (by intro h; injection h with h; omega)) hu10 (by intro h; injection h with h; omega)
    exact ⟨_, _, _, by rw [HFIRE.out], by rw [HFIRE.out]; exact own_end HO.out hU10 (by exact own_of_box HROW.out rfl hg5 hb10) (Or.inl rfl : g = g ∨ w.heap.size ≤ g) rfl rfl, Step.of_upd (.inr (.inr rfl)) hU10 (by rintro k (a | a | a); exact .inl (.inl a); exact .inl (.inr (.inl a)); simp [Value.ownBlock] at a; rcases ((Or.inl rfl : g = g ∨ w.heap.size ≤ g) : _ ∨ w.heap.size ≤ _) with e | e; exact .inl (.inr (.inr (by simp [Value.ownBlock]; omega))); exact .inr (by omega))⟩
end Go.Proofs.Ytpjbblbehbepbaa
