/-
  SameLoop of two loops that read alike. Conditions: both read as the same loop.
-/
import Derived.Test.YtpjbblbehbepbaaLqD
import Derived.Test.YtpjbblbehbepbaaLpJ
namespace Go.Proofs.Ytpjbblbehbepbaa
set_option linter.unusedSimpArgs false
set_option linter.unusedVariables false
open Go.RowKit

set_option maxRecDepth 100000 in
set_option maxHeartbeats 2000000 in
theorem same_true (q : Loopy.Loop) (T S R T' S' R' : Value) (w : World) (h : LRd w q T S R) (h' : LRd w q T' S' R') (l1 : q.tasks.length ≤ 1000) (l2 : q.smalls.length ≤ 1000) (l3 : q.timers.length ≤ 1000) :
    Calls Try.prog 23 #[.agg (lag q T S R), .agg (lag q T' S' R')] w fun e w' => e = .returned (.bool true) ∧ Below w.heap.size w w' := by
  have E1 : Hid (∀ w v u, JRd w q.tasks v → JRd w q.tasks u → Calls Try.prog 22 #[v, u] w fun e w' => e = .returned (.bool true) ∧ Below w.heap.size w w') := fun w v u a b => by
    have := equal_job q.tasks q.tasks v u w a b (by omega) (by omega); simpa using this
  have E2 : Hid (∀ w v u, JRd w q.smalls v → JRd w q.smalls u → Calls Try.prog 22 #[v, u] w fun e w' => e = .returned (.bool true) ∧ Below w.heap.size w w') := fun w v u a b => by
    have := equal_job q.smalls q.smalls v u w a b (by omega) (by omega); simpa using this
  have E3 : Hid (∀ w v u, TRd w q.timers v → TRd w q.timers u → Calls Try.prog 34 #[v, u] w fun e w' => e = .returned (.bool true) ∧ Below w.heap.size w w') := fun w v u a b => by
    have := equal_timer q.timers q.timers v u w a b (by omega) (by omega); simpa using this
  have H := Lib.hid h
  have H' := Lib.hid h'
  obtain ⟨⟨AT, cT, rfl, _⟩, ⟨AS, cS, rfl, _⟩, ⟨AR, cR, rfl, _⟩⟩ := h
  obtain ⟨⟨AT', cT', rfl, _⟩, ⟨AS', cS', rfl, _⟩, ⟨AR', cR', rfl, _⟩⟩ := h'
  go_enter Try.func23, Try.ntmps23
  go_upto_region 1 with (fail)
  obtain ⟨c0, hc0⟩ : ∃ c, lag q (.slice AT q.tasks.length cT) (.slice AS q.smalls.length cS) (.slice AR q.timers.length cR) = c := ⟨_, rfl⟩
  obtain ⟨c1, hc1⟩ : ∃ c, lag q (.slice AT' q.tasks.length cT') (.slice AS' q.smalls.length cS') (.slice AR' q.timers.length cR') = c := ⟨_, rfl⟩
  rw [hc0, hc1]
  have hb0 : Box ((w.alloc (.cells c0 26)).alloc (.cells c1 26)) w.heap.size 26 c0 := (Box.new w _ _).alloc _
  have hb1 : Box ((w.alloc (.cells c0 26)).alloc (.cells c1 26)) (w.heap.size + 1) 26 c1 := by have := Box.new (w.alloc (.cells c0 26)) 26 c1; simpa using this
  have hU : Below w.heap.size w ((w.alloc (.cells c0 26)).alloc (.cells c1 26)) := (below1 w _).alloc (by simp) _
  generalize ((w.alloc (.cells c0 26)).alloc (.cells c1 26)) = W at *
  subst hc0 hc1
  have HW := Lib.hid (H.out.below hU)
  have HW' := Lib.hid (H'.out.below hU)
  have HB0 := Lib.hid hb0
  have HB1 := Lib.hid hb1
  have f0 := hb0.cell 0
  have f1 := hb0.cell 1
  have f2 := hb0.cell 2
  have f3 := hb1.cell 0
  have f4 := hb1.cell 1
  have f5 := hb1.cell 2
  simp at f0 f1 f2 f3 f4 f5
  clear hb0 hb1
  go_wp2_with (fail)
  refine (E1.out _ _ _ HW.out.t HW'.out.t).mono ?_
  rintro e w1 ⟨rfl, hb⟩
  have hb0 := Lib.hid (HB0.out.below hb HB0.out.lt)
  have hb1 := Lib.hid (HB1.out.below hb HB1.out.lt)
  have HV := Lib.hid (HW.out.below hb)
  have HV' := Lib.hid (HW'.out.below hb)
  have HU := Lib.hid (hU.trans (hb.mono hU.size))
  clear hb hU f0 f1 f2 f3 f4 f5
  have f0 := hb0.out.cell 3
  have f3 := hb1.out.cell 3
  simp at f0 f3
  go_wp2_with (fail)
  refine (E2.out _ _ _ HV.out.s HV'.out.s).mono ?_
  rintro e w2 ⟨rfl, hb⟩
  have hb20 := Lib.hid (hb0.out.below hb hb0.out.lt)
  have hb21 := Lib.hid (hb1.out.below hb hb1.out.lt)
  have HT := Lib.hid (HV.out.below hb)
  have HT' := Lib.hid (HV'.out.below hb)
  have HU2 := Lib.hid (HU.out.trans (hb.mono HU.out.size))
  clear hb f0 f3
  have f0 := hb20.out.cell 4
  have f3 := hb21.out.cell 4
  simp at f0 f3
  go_wp2_with (fail)
  refine (E3.out _ _ _ HT.out.r HT'.out.r).mono ?_
  rintro e w3 ⟨rfl, hb⟩
  go_wp2
  go_ret
  exact ⟨rfl, HU2.out.trans (hb.mono HU2.out.size)⟩
end Go.Proofs.Ytpjbblbehbepbaa
