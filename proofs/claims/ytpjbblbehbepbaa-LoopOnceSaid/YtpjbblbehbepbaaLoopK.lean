/-
  Each number is told once, but those of timers that come again: plain. Conditions: none.
-/
import Derived.Test.YtpjbblbehbepbaaLoopJ
namespace Loopy
set_option linter.unusedSimpArgs false
set_option linter.unusedVariables false
open Valu

theorem ask_cases {q : Loop} {a : Ask} (h : (ask q a).2.2 = 0) : Right q ∧
    ((∃ j : Job, j.id = q.next ∧ (ask q a).1 = { q with tasks := q.tasks ++ [j], next := q.next + 1 }) ∨
     (∃ j : Job, j.id = q.next ∧ (ask q a).1 = { q with smalls := q.smalls ++ [j], next := q.next + 1 }) ∨
     (∃ t : Timer, t.id = q.next ∧ (0 < t.every → a.what = 4) ∧ (ask q a).1 = { q with timers := lay q.timers t, next := q.next + 1 }) ∨
     (∃ i : Nat, (ask q a).1 = { q with timers := q.timers.eraseIdx i })) := by
  unfold ask at h ⊢
  by_cases hc : check q = 0
  · rw [if_pos hc] at h ⊢
    refine ⟨(check_iff q).1 hc, ?_⟩
    by_cases hw : within a.what 1 5 = true
    · rw [if_pos hw] at h ⊢
      by_cases hd : (doAsk q a).2.2 = 0
      · rw [if_pos hd]
        have tim : ∀ e : Bool, (e = true → a.what = 4) → (timer q a e).2.2 = 0 → ∃ t : Timer, t.id = q.next ∧ (0 < t.every → a.what = 4) ∧ (timer q a e).1 = { q with timers := lay q.timers t, next := q.next + 1 } := by
          intro e he ht
          unfold timer at ht ⊢
          obtain ⟨lo, hlo⟩ : ∃ lo : Int, (if e = true then 1 else 0) = lo := ⟨_, rfl⟩
          obtain ⟨ev, hev⟩ : ∃ ev : Int, (if e = true then a.n else 0) = ev := ⟨_, rfl⟩
          rw [hlo, hev] at ht ⊢
          by_cases x1 : within a.n lo 1000000 = false
          · rw [if_pos x1] at ht; simp at ht
          · rw [if_neg x1] at ht ⊢
            by_cases x2 : most < q.now + a.n
            · rw [if_pos x2] at ht; simp at ht
            · rw [if_neg x2] at ht ⊢
              by_cases x3 : full q.timers.length q = true
              · rw [if_pos x3] at ht; simp at ht
              · rw [if_neg x3]
                refine ⟨_, rfl, fun hp => ?_, rfl⟩
                cases e with
                | true => exact he rfl
                | false => simp at hev hp; omega
        have pst : ∀ s : Bool, (post q a s).2.2 = 0 → (∃ j : Job, j.id = q.next ∧ (post q a s).1 = { q with tasks := q.tasks ++ [j], next := q.next + 1 }) ∨ (∃ j : Job, j.id = q.next ∧ (post q a s).1 = { q with smalls := q.smalls ++ [j], next := q.next + 1 }) := by
          intro s hs
          cases s with
          | true =>
            unfold post at hs ⊢
            rw [if_pos rfl] at hs ⊢
            by_cases x : full q.smalls.length q = true
            · rw [if_pos x] at hs; simp at hs
            · rw [if_neg x]; exact .inr ⟨_, rfl, rfl⟩
          | false =>
            unfold post at hs ⊢
            rw [if_neg (by simp)] at hs ⊢
            by_cases x1 : within a.src 1 4 = false
            · rw [if_pos x1] at hs; simp at hs
            · rw [if_neg x1] at hs ⊢
              by_cases x : full q.tasks.length q = true
              · rw [if_pos x] at hs; simp at hs
              · rw [if_neg x]; exact .inl ⟨_, rfl, rfl⟩
        unfold doAsk at hd ⊢
        by_cases y1 : a.what = 1
        · rw [if_pos y1] at hd ⊢
          rcases pst false hd with p | p
          · exact .inl p
          · exact .inr (.inl p)
        · rw [if_neg y1] at hd ⊢
          by_cases y2 : a.what = 2
          · rw [if_pos y2] at hd ⊢
            rcases pst true hd with p | p
            · exact .inl p
            · exact .inr (.inl p)
          · rw [if_neg y2] at hd ⊢
            by_cases y3 : a.what = 3
            · rw [if_pos y3] at hd ⊢
              exact .inr (.inr (.inl (tim false (by simp) hd)))
            · rw [if_neg y3] at hd ⊢
              by_cases y4 : a.what = 4
              · rw [if_pos y4] at hd ⊢
                exact .inr (.inr (.inl (tim true (fun _ => y4) hd)))
              · rw [if_neg y4] at hd ⊢
                refine .inr (.inr (.inr ?_))
                unfold cancel at hd ⊢
                split at hd
                · simp at hd
                · next x => rw [if_neg x]; exact ⟨_, rfl⟩
      · rw [if_neg hd] at h; exact absurd h hd
    · rw [if_neg hw] at h; simp at h
  · rw [if_neg hc] at h; exact absurd h hc

/-- what is told of the jobs so far, and of what waits. -/
structure Inv (ev : Bool) (q : Loop) (out : List Job) : Prop where
  lo : ∀ j ∈ out, 0 ≤ j.id ∧ j.id < q.next
  tsk : ∀ j ∈ q.tasks, ∀ o ∈ out, o.id ≠ j.id
  sml : ∀ j ∈ q.smalls, ∀ o ∈ out, o.id ≠ j.id
  tim : ∀ t ∈ q.timers, (∃ o ∈ out, o.id = t.id) → 0 < t.every
  evr : ∀ t ∈ q.timers, 0 < t.every → ev = true
  once : ∀ (k : Nat) (x : Job), out[k]? = some x → (∃ y ∈ out.take k, y.id = x.id) → ev = true ∧ x.src = 3

theorem Inv.snoc {ev : Bool} {out : List Job} {j : Job} (h : ∀ (k : Nat) (x : Job), out[k]? = some x → (∃ y ∈ out.take k, y.id = x.id) → ev = true ∧ x.src = 3) (hj : (∃ y ∈ out, y.id = j.id) → ev = true ∧ j.src = 3) :
    ∀ (k : Nat) (x : Job), (out ++ [j])[k]? = some x → (∃ y ∈ (out ++ [j]).take k, y.id = x.id) → ev = true ∧ x.src = 3 := by
  intro k x hx hy
  have hk : k < out.length + 1 := by have := (List.getElem?_eq_some_iff.1 hx).1; simpa using this
  by_cases hlt : k < out.length
  · rw [List.getElem?_append_left hlt] at hx
    rw [List.take_append_of_le_length (by omega)] at hy
    exact h k x hx hy
  · have e : k = out.length := by omega
    subst e
    simp at hx hy
    subst hx
    exact hj hy
theorem Inv.ask {ev : Bool} {q : Loop} {out : List Job} {a : Ask} (h : Inv ev q out) (he : (ask q a).2.2 = 0) (ha : a.what = 4 → ev = true) : Inv ev (ask q a).1 out := by
  obtain ⟨hr, hc⟩ := ask_cases he
  rcases hc with ⟨j, hj, e⟩ | ⟨j, hj, e⟩ | ⟨t, ht, hev, e⟩ | ⟨i, e⟩ <;> rw [e]
  · refine ⟨fun o ho => ⟨(h.lo o ho).1, by have := (h.lo o ho).2; simp only; omega⟩, fun x hx o ho => ?_, h.sml, h.tim, h.evr, h.once⟩
    rcases List.mem_append.1 hx with hx | hx
    · exact h.tsk x hx o ho
    · rw [List.mem_singleton] at hx; subst hx; have := (h.lo o ho).2; omega
  · refine ⟨fun o ho => ⟨(h.lo o ho).1, by have := (h.lo o ho).2; simp only; omega⟩, h.tsk, fun x hx o ho => ?_, h.tim, h.evr, h.once⟩
    rcases List.mem_append.1 hx with hx | hx
    · exact h.sml x hx o ho
    · rw [List.mem_singleton] at hx; subst hx; have := (h.lo o ho).2; omega
  · refine ⟨fun o ho => ⟨(h.lo o ho).1, by have := (h.lo o ho).2; simp only; omega⟩, h.tsk, h.sml, fun x hx => ?_, fun x hx => ?_, h.once⟩
    · rcases lay_mem.1 hx with rfl | hx
      · rintro ⟨o, ho, e2⟩; have := (h.lo o ho).2; omega
      · exact h.tim x hx
    · rcases lay_mem.1 hx with rfl | hx
      · exact fun hp => ha (hev hp)
      · exact h.evr x hx
  · exact ⟨h.lo, h.tsk, h.sml, fun x hx => h.tim x ((List.eraseIdx_sublist _ _).subset hx), fun x hx => h.evr x ((List.eraseIdx_sublist _ _).subset hx), h.once⟩
theorem nodup_parts {q : Loop} (h : Right q) : (q.tasks.map (·.id)).Nodup ∧ (q.smalls.map (·.id)).Nodup ∧ (q.timers.map (·.id)).Nodup ∧
    (∀ j ∈ q.tasks, ∀ k ∈ q.smalls, j.id ≠ k.id) ∧ (∀ j ∈ q.tasks, ∀ t ∈ q.timers, j.id ≠ t.id) ∧ (∀ j ∈ q.smalls, ∀ t ∈ q.timers, j.id ≠ t.id) := by
  have hn := h.nod
  unfold ids at hn
  rw [List.nodup_append, List.nodup_append] at hn
  obtain ⟨h1, ⟨h2, h3, h4⟩, h5⟩ := hn
  refine ⟨h1, h2, h3, fun j hj k hk => ?_, fun j hj t ht => ?_, fun j hj t ht => ?_⟩
  · exact h5 _ (List.mem_map_of_mem hj) _ (List.mem_append_left _ (List.mem_map_of_mem hk))
  · exact h5 _ (List.mem_map_of_mem hj) _ (List.mem_append_right _ (List.mem_map_of_mem ht))
  · exact h4 _ (List.mem_map_of_mem hj) _ (List.mem_map_of_mem ht)
theorem id_ne {α : Type} {f : α → Int} {x : α} {l : List α} (h : ((x :: l).map f).Nodup) : ∀ y ∈ l, f y ≠ f x := by
  intro y hy e
  rw [List.map_cons, List.nodup_cons] at h
  exact h.1 (e ▸ List.mem_map_of_mem hy)
theorem Inv.next {ev : Bool} {q : Loop} {out : List Job} {til : Int} {j : Job} (h : Inv ev q out) (hr : Right q) (hn : (Loopy.next q til).2 = some j) : Inv ev (Loopy.next q til).1 (out ++ [j]) := by
  obtain ⟨n1, n2, n3, n4, n5, n6⟩ := nodup_parts hr
  have hid := hr.idr
  unfold ids at hid
  obtain ⟨now, nxt, tasks, smalls, timers⟩ := q
  simp only at n1 n2 n3 n4 n5 n6 hid
  have h1 := h.lo
  have h2 := h.tsk
  have h3 := h.sml
  have h4 := h.tim
  have h5 := h.evr
  simp only at h1 h2 h3 h4 h5
  have low : ∀ i : Int, i ∈ (tasks.map (·.id) ++ (smalls.map (·.id) ++ timers.map (·.id))) → ∀ o : Job, o.id = i → ∀ x ∈ out ++ [o], 0 ≤ x.id ∧ x.id < nxt := by
    intro i hi o ho x hx
    rcases List.mem_append.1 hx with hx | hx
    · exact h1 x hx
    · rw [List.mem_singleton] at hx; subst hx; rw [ho]; exact hid i hi
  cases smalls with
  | cons s r =>
    simp only [Loopy.next, Option.some.injEq] at hn ⊢
    subst hn
    refine ⟨low s.id (by simp) s rfl, fun x hx o ho => ?_, fun x hx o ho => ?_, fun t ht hex => ?_, h5, Inv.snoc h.once (fun ⟨y, hy, e⟩ => absurd e (h3 s (by simp) y hy))⟩
    · rcases List.mem_append.1 ho with ho | ho
      · exact h2 x hx o ho
      · rw [List.mem_singleton] at ho; subst ho; exact fun e => n4 x hx o (by simp) e.symm
    · rcases List.mem_append.1 ho with ho | ho
      · exact h3 x (by simp [hx]) o ho
      · rw [List.mem_singleton] at ho; subst ho; exact fun e => id_ne n2 x hx e.symm
    · obtain ⟨o, ho, e⟩ := hex
      rcases List.mem_append.1 ho with ho | ho
      · exact h4 t ht ⟨o, ho, e⟩
      · rw [List.mem_singleton] at ho; subst ho; exact absurd e (n6 o (by simp) t ht)
  | nil =>
    have task : ∀ (x : Job) (s : List Job), tasks = x :: s → Inv ev { now := now, next := nxt, tasks := s, smalls := [], timers := timers } (out ++ [x]) := by
      intro x s et
      subst et
      refine ⟨low x.id (by simp) x rfl, fun y hy o ho => ?_, by simp, fun t ht hex => ?_, h5, Inv.snoc h.once (fun ⟨y, hy, e⟩ => absurd e (h2 x (by simp) y hy))⟩
      · rcases List.mem_append.1 ho with ho | ho
        · exact h2 y (by simp [hy]) o ho
        · rw [List.mem_singleton] at ho; subst ho; exact fun e => id_ne n1 y hy e.symm
      · obtain ⟨o, ho, e⟩ := hex
        rcases List.mem_append.1 ho with ho | ho
        · exact h4 t ht ⟨o, ho, e⟩
        · rw [List.mem_singleton] at ho; subst ho; exact absurd e (n5 o (by simp) t ht)
    cases timers with
    | nil =>
      cases tasks with
      | nil => simp [Loopy.next] at hn
      | cons x s =>
        simp only [Loopy.next, Option.some.injEq] at hn ⊢
        subst hn
        exact task x s rfl
    | cons t r =>
      by_cases hc : t.due ≤ now ∨ (tasks = [] ∧ t.due ≤ til)
      · simp only [Loopy.next] at hn ⊢
        rw [if_pos hc] at hn ⊢
        simp only [fire, Option.some.injEq] at hn ⊢
        subst hn
        have hne : ∀ x ∈ r, x.id ≠ t.id := fun x hx => id_ne n3 x hx
        have hl := low t.id (by simp) ⟨t.id, 3, false, t.call, num t.turn⟩ rfl
        have hon := Inv.snoc (j := ⟨t.id, 3, false, t.call, num t.turn⟩) h.once (fun ⟨y, hy, e⟩ => ⟨h5 t (by simp) (h4 t (by simp) ⟨y, hy, e⟩), rfl⟩)
        have htk : ∀ x ∈ tasks, ∀ o ∈ out ++ [(⟨t.id, 3, false, t.call, num t.turn⟩ : Job)], o.id ≠ x.id := by
          intro x hx o ho
          rcases List.mem_append.1 ho with ho | ho
          · exact h2 x hx o ho
          · rw [List.mem_singleton] at ho; subst ho; exact fun e => n5 x hx t (by simp) e.symm
        have hrt : ∀ x ∈ r, (∃ o ∈ out ++ [(⟨t.id, 3, false, t.call, num t.turn⟩ : Job)], o.id = x.id) → 0 < x.every := by
          rintro x hx ⟨o, ho, e⟩
          rcases List.mem_append.1 ho with ho | ho
          · exact h4 x (by simp [hx]) ⟨o, ho, e⟩
          · rw [List.mem_singleton] at ho; subst ho; exact absurd e.symm (hne x hx)
        by_cases hp : 0 < t.every ∧ t.due + t.every ≤ most ∧ t.turn < most
        · rw [if_pos hp]
          refine ⟨hl, htk, by simp, fun x hx hex => ?_, fun x hx hpx => ?_, hon⟩
          · rcases lay_mem.1 hx with rfl | hx
            · exact hp.1
            · exact hrt x hx hex
          · rcases lay_mem.1 hx with rfl | hx
            · exact h5 t (by simp) hp.1
            · exact h5 x (by simp [hx]) hpx
        · rw [if_neg hp]
          exact ⟨hl, htk, by simp, hrt, fun x hx hpx => h5 x (by simp [hx]) hpx, hon⟩
      · simp only [Loopy.next] at hn ⊢
        rw [if_neg hc] at hn ⊢
        cases tasks with
        | nil => simp at hn
        | cons x s =>
          simp only [Option.some.injEq] at hn ⊢
          subst hn
          exact task x s rfl
theorem Inv.idle {ev : Bool} {q : Loop} {out : List Job} {til : Int} (h : Inv ev q out) (hn : (Loopy.next q til).2 = none) : Inv ev (Loopy.next q til).1 out := by
  rw [(next_none hn).1]
  exact ⟨h.lo, h.tsk, h.sml, h.tim, h.evr, h.once⟩
theorem Inv.run {ev : Bool} {til : Int} (h2 : til ≤ most) : ∀ (k : Nat) (q : Loop) (out : List Job), Right q → q.now ≤ til → Inv ev q out → Inv ev (run til k q out).1 (run til k q out).2
  | 0, _, _, _, _, h => h
  | k + 1, q, out, hr, h1, h => by
    have hx := next_right hr h1 h2
    rw [Loopy.run]
    cases hn : (Loopy.next q til).2 with
    | some j => exact Inv.run h2 k _ _ hx.1 hx.2.2 (h.next hr hn)
    | none => exact h.idle hn
theorem Inv.step {ev : Bool} {s : Loop × List Job} {a : Ask} (hr : Right s.1) (h : Inv ev s.1 s.2) (ha : a.what = 4 → ev = true) : Inv ev (stepA s a).1 (stepA s a).2 := by
  unfold stepA
  split
  · split
    · next hg =>
      simp only [goes, Bool.and_eq_true, within_iff, decide_eq_true_iff] at hg
      exact Inv.run (by unfold most; omega) _ _ _ hr (by omega) h
    · exact h
  · split
    · next he => exact h.ask he ha
    · exact h
theorem Inv.fold {ev : Bool} : ∀ (l : List Ask) (s : Loop × List Job), Right s.1 → Inv ev s.1 s.2 → (∀ a ∈ l, a.what = 4 → ev = true) → Inv ev (l.foldl stepA s).1 (l.foldl stepA s).2
  | [], _, _, h, _ => h
  | a :: l, s, hr, h, ha => Inv.fold l _ (stepA_right a hr) (h.step hr (ha a (by simp))) (fun x hx => ha x (by simp [hx]))
/-- LoopOnce, plain. -/
theorem play_once (l : List Ask) : (∀ j ∈ (play l).1, 0 ≤ j.id ∧ j.id < 1000000000) ∧
    ∀ (k : Nat) (x : Job), (play l).1[k]? = some x → (∃ y ∈ (play l).1.take k, y.id = x.id) → (l.any fun a => a.what == 4) = true ∧ x.src = 3 := by
  have h0 : Inv (l.any fun a => a.what == 4) zero [] := ⟨by simp, by simp, by simp [zero], by simp [zero], by simp [zero], by simp⟩
  have h1 := Inv.fold (ev := l.any fun a => a.what == 4) l (zero, []) zero_right h0 (fun a ha h4 => by rw [List.any_eq_true]; exact ⟨a, ha, by simpa using h4⟩)
  have hr := (plays_right l).nxt1
  unfold most at hr
  unfold play
  split
  · exact ⟨by simp, by simp⟩
  · split
    · exact ⟨by simp, by simp⟩
    · refine ⟨fun j hj => ?_, h1.once⟩
      have := h1.lo j hj
      unfold plays at hr
      omega
end Loopy
