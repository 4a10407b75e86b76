/-
  A timer that is taken away as soon as it was asked for leaves all else as it was: plain. Conditions: none.
-/
import Derived.Test.YtpjbblbehbepbaaLoopG
namespace Loopy
set_option linter.unusedSimpArgs false
set_option linter.unusedVariables false
open Valu

theorem idxOf_lay (p : Timer → Bool) (t : Timer) (ht : p t = true) : ∀ l : List Timer, (∀ x ∈ l, p x = false) → 0 ≤ idxOf p (lay l t) ∧ (lay l t).eraseIdx (idxOf p (lay l t)).toNat = l
  | [], _ => by simp [lay, idxOf, ht]
  | u :: r, h => by
    have hu : p u = false := h u (by simp)
    unfold lay
    split
    · obtain ⟨h1, h2⟩ := idxOf_lay p t ht r (fun x hx => h x (by simp [hx]))
      have e : idxOf p (u :: lay r t) = idxOf p (lay r t) + 1 := by
        rw [idxOf]
        rw [hu]
        have : ¬ idxOf p (lay r t) < 0 := by omega
        simp [this]
      rw [e]
      refine ⟨by omega, ?_⟩
      obtain ⟨n, hn⟩ : ∃ n : Nat, idxOf p (lay r t) = n := ⟨(idxOf p (lay r t)).toNat, by omega⟩
      rw [hn] at h2 ⊢
      rw [show ((n : Int) + 1).toNat = n + 1 from by omega, List.eraseIdx_cons_succ]
      simp only [Int.toNat_natCast] at h2
      rw [h2]
    · simp [idxOf, ht]
/-- the ask for a timer: it is done: what comes of it. -/
theorem after_ok {q : Loop} {n : Int} {s : Bs} {v : V} (h : (ask q ⟨3, 0, n, s, v⟩).2.2 = 0) :
    Right q ∧ ask q ⟨3, 0, n, s, v⟩ = ({ q with timers := lay q.timers ⟨q.next, q.now + n, 0, 0, s⟩, next := q.next + 1 }, q.next, 0) := by
  unfold ask at h ⊢
  by_cases hc : check q = 0
  · rw [if_pos hc] at h ⊢
    have hw : within 3 1 5 = true := by decide
    have hd : doAsk q ⟨3, 0, n, s, v⟩ = timer q ⟨3, 0, n, s, v⟩ false := by unfold doAsk; rw [if_neg (by simp), if_neg (by simp), if_pos rfl]
    simp only [hd] at h ⊢
    rw [if_pos hw] at h ⊢
    have hR := (check_iff q).1 hc
    refine ⟨hR, ?_⟩
    have h0 : timer q ⟨3, 0, n, s, v⟩ false = if within n 0 1000000 = false then (q, 0, 1) else if most < q.now + n then (q, 0, 1) else if full q.timers.length q = true then (q, 0, 2)
      else ({ q with timers := lay q.timers ⟨q.next, q.now + n, 0, 0, s⟩, next := q.next + 1 }, q.next, 0) := rfl
    by_cases ht : (timer q ⟨3, 0, n, s, v⟩ false).2.2 = 0
    · rw [if_pos ht]
      rw [h0] at ht ⊢
      by_cases h1 : within n 0 1000000 = false
      · rw [if_pos h1] at ht; simp at ht
      · rw [if_neg h1] at ht ⊢
        by_cases h2 : most < q.now + n
        · rw [if_pos h2] at ht; simp at ht
        · rw [if_neg h2] at ht ⊢
          by_cases h3 : full q.timers.length q = true
          · rw [if_pos h3] at ht; simp at ht
          · rw [if_neg h3]
    · rw [if_neg ht] at h; exact absurd h ht
  · rw [if_neg hc] at h; exact absurd h hc
theorem cancel_back {q : Loop} {n : Int} {s t : Bs} {v u : V} (h : (ask q ⟨3, 0, n, s, v⟩).2.2 = 0) :
    ask (ask q ⟨3, 0, n, s, v⟩).1 ⟨5, 0, (ask q ⟨3, 0, n, s, v⟩).2.1, t, u⟩ = ({ q with next := q.next + 1 }, 0, 0) := by
  obtain ⟨hR, e⟩ := after_ok h
  have hr := ask_right q ⟨3, 0, n, s, v⟩
  rw [e] at hr ⊢
  simp only at hr ⊢
  have hid : ∀ x ∈ q.timers, (fun t : Timer => t.id == q.next) x = false := by
    intro x hx
    have := hR.idr x.id (by unfold ids; simp only [List.mem_append]; exact .inr (.inr (List.mem_map_of_mem hx)))
    simp; omega
  obtain ⟨i1, i2⟩ := idxOf_lay (fun t : Timer => t.id == q.next) ⟨q.next, q.now + n, 0, 0, s⟩ (by simp) q.timers hid
  unfold ask
  rw [if_pos ((check_iff _).2 hr), if_pos (show within 5 1 5 = true by decide)]
  have hd : doAsk { q with timers := lay q.timers ⟨q.next, q.now + n, 0, 0, s⟩, next := q.next + 1 } ⟨5, 0, q.next, t, u⟩ = ({ q with next := q.next + 1 }, 0, 0) := by
    unfold doAsk
    rw [if_neg (by simp), if_neg (by simp), if_neg (by simp), if_neg (by simp)]
    unfold cancel
    simp only
    rw [if_neg (by omega), i2]
  rw [hd]
  simp
end Loopy
