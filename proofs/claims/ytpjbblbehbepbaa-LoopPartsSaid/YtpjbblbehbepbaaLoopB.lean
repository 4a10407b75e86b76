/-
  A loop that is right, and what comes next leaves it so. Conditions: none.
-/
import Derived.Test.YtpjbblbehbepbaaLoopA
namespace Loopy
set_option linter.unusedSimpArgs false
set_option linter.unusedVariables false
open Valu

structure Right (q : Loop) : Prop where
  now0 : 0 ≤ q.now
  now1 : q.now ≤ most
  nxt0 : 0 ≤ q.next
  nxt1 : q.next ≤ most
  idr : ∀ n ∈ ids q, 0 ≤ n ∧ n < q.next
  nod : (ids q).Nodup
  tsk : ∀ j ∈ q.tasks, taskOk j = true
  sml : ∀ j ∈ q.smalls, smallOk j = true
  tmr : ∀ t ∈ q.timers, timerOk q.now t = true
  srt : q.timers.Pairwise Lt
  l1 : q.tasks.length ≤ 100
  l2 : q.smalls.length ≤ 100
  l3 : q.timers.length ≤ 100

theorem check_iff (q : Loop) : check q = 0 ↔ Right q := by
  unfold check
  constructor
  · intro h
    split at h
    · omega
    · next hl =>
      split at h
      · next hr =>
        simp only [large, Bool.or_eq_true, decide_eq_true_iff, not_or] at hl
        simp only [right, Bool.and_eq_true, within_iff, fresh_iff, rising_iff, List.all_eq_true] at hr
        obtain ⟨⟨⟨⟨⟨a, b⟩, c⟩, d⟩, e⟩, f⟩ := hr
        exact ⟨a.1, a.2, b.1, b.2, c.1, c.2.1, d, e, f.1, f.2.1, by omega, by omega, by omega⟩
      · omega
  · intro h
    have hl : ¬ large q = true := by
      have := h.l1; have := h.l2; have := h.l3
      simp only [large, Bool.or_eq_true, decide_eq_true_iff, not_or]
      omega
    have hr : right q = true := by
      simp only [right, Bool.and_eq_true, within_iff, fresh_iff, rising_iff, List.all_eq_true]
      exact ⟨⟨⟨⟨⟨⟨h.now0, h.now1⟩, h.nxt0, h.nxt1⟩, h.idr, h.nod, by simp⟩, h.tsk⟩, h.sml⟩, h.tmr, h.srt, by simp⟩
    rw [if_neg hl, if_pos hr]
theorem check_small (q : Loop) : check q = 0 ∨ check q = 2 ∨ check q = 3 := by
  unfold check; split
  · exact .inr (.inl rfl)
  · split
    · exact .inl rfl
    · exact .inr (.inr rfl)
end Loopy
