/-
  What comes next leaves a loop that is right. Conditions: none.
-/
import Derived.Test.YtpjbblbehbepbaaLoopB
namespace Loopy
set_option linter.unusedSimpArgs false
set_option linter.unusedVariables false
open Valu

theorem lay_perm (t : Timer) : ∀ l : List Timer, (lay l t).Perm (t :: l)
  | [] => .refl _
  | u :: r => by
    unfold lay
    split
    · exact ((lay_perm t r).cons u).trans (.swap t u r)
    · exact .refl _
theorem timerOk_iff {now : Int} {t : Timer} : timerOk now t = true ↔ (now ≤ t.due ∧ t.due ≤ most) ∧ (0 ≤ t.every ∧ t.every ≤ most) ∧ (0 ≤ t.turn ∧ t.turn ≤ most) := by
  simp only [timerOk, Bool.and_eq_true, within_iff]
  constructor
  · rintro ⟨⟨a, b⟩, c⟩; exact ⟨a, b, c⟩
  · rintro ⟨a, b, c⟩; exact ⟨⟨a, b⟩, c⟩
theorem Right.of_sub {q p : Loop} (h : Right q) (h1 : p.tasks.Sublist q.tasks) (h2 : p.smalls.Sublist q.smalls) (h3 : p.timers = q.timers) (h4 : p.now = q.now) (h5 : p.next = q.next) : Right p := by
  have hs : (ids p).Sublist (ids q) := by
    unfold ids
    rw [h3]
    exact (h1.map _).append ((h2.map _).append (.refl _))
  have e1 := h1.length_le
  have e2 := h2.length_le
  exact ⟨by rw [h4]; exact h.now0, by rw [h4]; exact h.now1, by rw [h5]; exact h.nxt0, by rw [h5]; exact h.nxt1, fun n hn => by rw [h5]; exact h.idr n (hs.subset hn), hs.nodup h.nod,
    fun j hj => h.tsk j (h1.subset hj), fun j hj => h.sml j (h2.subset hj), fun t ht => by rw [h3] at ht; rw [h4]; exact h.tmr t ht, by rw [h3]; exact h.srt, by have := h.l1; omega, by have := h.l2; omega, by rw [h3]; exact h.l3⟩
theorem fire_right {q : Loop} {t : Timer} {r : List Timer} (h : Right q) (ht : q.timers = t :: r) : Right (fire q t r).1 := by
  have hs := h.srt
  rw [ht, List.pairwise_cons] at hs
  have h0 := timerOk_iff.1 (h.tmr t (by rw [ht]; simp))
  have hl := h.l3
  rw [ht, List.length_cons] at hl
  have hids : ids q = q.tasks.map (·.id) ++ (q.smalls.map (·.id) ++ t.id :: r.map (·.id)) := by unfold ids; rw [ht]; rfl
  have hr : ∀ x ∈ r, timerOk (max q.now t.due) x = true := by
    intro x hx
    have h1 := timerOk_iff.1 (h.tmr x (by rw [ht]; simp [hx]))
    have h2 := hs.1 x hx
    unfold Lt at h2
    exact timerOk_iff.2 ⟨⟨by omega, h1.1.2⟩, h1.2⟩
  have hn : 0 ≤ max q.now t.due ∧ max q.now t.due ≤ most := by have := h.now0; have := h.now1; omega
  have hne : ∀ x ∈ r, x.id ≠ t.id := by
    intro x hx e
    have hnod := h.nod
    rw [hids, List.nodup_append, List.nodup_append, List.nodup_cons] at hnod
    exact hnod.2.1.2.1.1 (e ▸ List.mem_map_of_mem hx)
  unfold fire
  simp only
  split
  · next hc =>
    obtain ⟨c1, c2, c3⟩ := hc
    have hp := lay_perm { t with due := t.due + t.every, turn := t.turn + 1 } r
    have hperm : (ids { q with now := max q.now t.due, timers := lay r { t with due := t.due + t.every, turn := t.turn + 1 } }).Perm (ids q) := by
      rw [hids]
      unfold ids
      exact List.Perm.append_left _ (List.Perm.append_left _ (hp.map (·.id)))
    refine ⟨hn.1, hn.2, h.nxt0, h.nxt1, fun n hm => h.idr n (hperm.subset hm), hperm.symm.nodup h.nod, h.tsk, h.sml, ?_, lay_sorted hs.2 hne, h.l1, h.l2, ?_⟩
    · intro x hx
      rcases lay_mem.1 hx with rfl | hx
      · exact timerOk_iff.2 ⟨⟨by simp only; omega, c2⟩, h0.2.1, ⟨by simp only; omega, by simp only; omega⟩⟩
      · exact hr x hx
    · simp only [lay_len]; omega
  · have hsub : (ids { q with now := max q.now t.due, timers := r }).Sublist (ids q) := by
      rw [hids]
      unfold ids
      exact List.Sublist.append (.refl _) (List.Sublist.append (.refl _) (List.sublist_cons_self _ _))
    exact ⟨hn.1, hn.2, h.nxt0, h.nxt1, fun n hm => h.idr n (hsub.subset hm), hsub.nodup h.nod, h.tsk, h.sml, hr, hs.2, h.l1, h.l2, by simp only; omega⟩
theorem next_right {q : Loop} {til : Int} (h : Right q) (h1 : q.now ≤ til) (h2 : til ≤ most) : Right (next q til).1 ∧ q.now ≤ (next q til).1.now ∧ (next q til).1.now ≤ til := by
  obtain ⟨now, nxt, tasks, smalls, timers⟩ := q
  cases smalls with
  | cons j r => exact ⟨h.of_sub (.refl _) (List.sublist_cons_self _ _) rfl rfl rfl, Int.le_refl _, h1⟩
  | nil =>
    have hidle : timers = [] ∨ tasks = [] → ∀ (hd : ∀ t ∈ timers, til ≤ t.due), Right { now := til, next := nxt, tasks := tasks, smalls := [], timers := timers } := by
      intro _ hd
      have h0 := h.now0
      simp only at h0 h1
      refine ⟨by simp only; omega, h2, h.nxt0, h.nxt1, h.idr, h.nod, h.tsk, h.sml, ?_, h.srt, h.l1, h.l2, h.l3⟩
      intro t ht
      have := timerOk_iff.1 (h.tmr t ht)
      exact timerOk_iff.2 ⟨⟨hd t ht, this.1.2⟩, this.2⟩
    cases timers with
    | nil =>
      cases tasks with
      | nil => exact ⟨hidle (.inl rfl) (by simp), h1, Int.le_refl _⟩
      | cons j s => exact ⟨h.of_sub (List.sublist_cons_self _ _) (.refl _) rfl rfl rfl, Int.le_refl _, h1⟩
    | cons t r =>
      by_cases hc : t.due ≤ now ∨ (tasks = [] ∧ t.due ≤ til)
      · have e : next { now := now, next := nxt, tasks := tasks, smalls := [], timers := t :: r } til = ((fire { now := now, next := nxt, tasks := tasks, smalls := [], timers := t :: r } t r).1, some (fire { now := now, next := nxt, tasks := tasks, smalls := [], timers := t :: r } t r).2) := by
          simp only [next]; rw [if_pos hc]
        rw [e]
        refine ⟨fire_right h rfl, ?_, ?_⟩
        · simp only [fire]; omega
        · simp only [fire]
          simp only at h1
          rcases hc with hc | hc <;> omega
      · have hd : tasks = [] → ∀ x ∈ t :: r, til ≤ x.due := by
          intro ht x hx
          have hs := h.srt
          simp only [List.pairwise_cons] at hs
          have h3 : til < t.due := by
            have : ¬ t.due ≤ til := fun k => hc (.inr ⟨ht, k⟩)
            omega
          rcases List.mem_cons.1 hx with rfl | hx
          · omega
          · have := hs.1 x hx
            unfold Lt at this
            omega
        cases tasks with
        | nil =>
          have e : next { now := now, next := nxt, tasks := [], smalls := [], timers := t :: r } til = ({ now := til, next := nxt, tasks := [], smalls := [], timers := t :: r }, none) := if_neg hc
          rw [e]
          exact ⟨hidle (.inr rfl) (hd rfl), h1, Int.le_refl _⟩
        | cons j s =>
          have e : next { now := now, next := nxt, tasks := j :: s, smalls := [], timers := t :: r } til = ({ now := now, next := nxt, tasks := s, smalls := [], timers := t :: r }, some j) := by
            simp only [next]; rw [if_neg hc]
          rw [e]
          exact ⟨h.of_sub (List.sublist_cons_self _ _) (.refl _) rfl rfl rfl, Int.le_refl _, h1⟩
end Loopy
