/-
  To run for a while, and then for another one, is to run for both together: plain. Conditions: as each says.
-/
import Derived.Test.YtpjbblbehbepbaaLoopI
namespace Loopy
set_option linter.unusedSimpArgs false
set_option linter.unusedVariables false
open Valu

theorem next_more {q : Loop} {u v : Int} {j : Job} (huv : u ≤ v) (h : (next q u).2 = some j) : next q v = next q u := by
  obtain ⟨now, nxt, tasks, smalls, timers⟩ := q
  cases smalls with
  | cons s r => rfl
  | nil =>
    cases timers with
    | nil =>
      cases tasks with
      | nil => simp [next] at h
      | cons j s => rfl
    | cons t r =>
      simp only [next] at h ⊢
      by_cases hu : t.due ≤ now ∨ (tasks = [] ∧ t.due ≤ u)
      · have hv : t.due ≤ now ∨ (tasks = [] ∧ t.due ≤ v) := by
          rcases hu with hu | ⟨h1, h2⟩
          · exact .inl hu
          · exact .inr ⟨h1, by omega⟩
        rw [if_pos hu, if_pos hv]
      · rw [if_neg hu] at h ⊢
        cases tasks with
        | nil => simp at h
        | cons j s =>
          have hv : ¬ (t.due ≤ now ∨ (j :: s = [] ∧ t.due ≤ v)) := by
            rintro (h1 | ⟨h1, _⟩)
            · exact hu (.inl h1)
            · cases h1
          rw [if_neg hv]
/-- nothing is left until u: then the clock alone goes on. -/
theorem next_none {q : Loop} {u : Int} (h : (next q u).2 = none) : (next q u).1 = { q with now := u } ∧ q.smalls = [] ∧ q.tasks = [] ∧ ∀ t r, q.timers = t :: r → u < t.due ∧ q.now < t.due := by
  obtain ⟨now, nxt, tasks, smalls, timers⟩ := q
  cases smalls with
  | cons s r => simp [next] at h
  | nil =>
    cases timers with
    | nil =>
      cases tasks with
      | nil => exact ⟨rfl, rfl, rfl, by simp⟩
      | cons j s => simp [next] at h
    | cons t r =>
      simp only [next] at h ⊢
      by_cases hu : t.due ≤ now ∨ (tasks = [] ∧ t.due ≤ u)
      · rw [if_pos hu] at h; simp at h
      · rw [if_neg hu] at h ⊢
        cases tasks with
        | nil =>
          have h1 : ¬ t.due ≤ now := fun k => hu (.inl k)
          have h2 : ¬ t.due ≤ u := fun k => hu (.inr ⟨rfl, k⟩)
          refine ⟨rfl, by simp, by simp, fun t' r' e => ?_⟩
          injection e with e1 e2
          subst e1
          omega
        | cons j s => simp at h
theorem next_after {q : Loop} {u v : Int} (h1 : q.now ≤ u) (huv : u ≤ v) (h : (next q u).2 = none) : next { q with now := u } v = next q v := by
  obtain ⟨_, hs, ht, hd⟩ := next_none h
  obtain ⟨now, nxt, tasks, smalls, timers⟩ := q
  simp only at hs ht hd h1
  subst hs ht
  cases timers with
  | nil => rfl
  | cons t r =>
    obtain ⟨d1, d2⟩ := hd t r rfl
    simp only [next]
    by_cases hv : t.due ≤ v
    · rw [if_pos (.inr ⟨by simp, hv⟩), if_pos (.inr ⟨by simp, hv⟩)]
      simp only [fire]
      rw [show max u t.due = max now t.due by omega]
    · rw [if_neg (by rintro (k | ⟨_, k⟩) <;> omega), if_neg (by rintro (k | ⟨_, k⟩) <;> omega)]
theorem run_grows {til : Int} : ∀ (k : Nat) (q : Loop) (out : List Job), out.length ≤ (run til k q out).2.length
  | 0, _, _ => Nat.le_refl _
  | k + 1, q, out => by
    rw [run]
    split
    · exact Nat.le_trans (by simp) (run_grows k _ _)
    · exact Nat.le_refl _
theorem run_two {u v : Int} (huv : u ≤ v) (hm : u ≤ most) : ∀ (k : Nat) (q : Loop) (out : List Job), Right q → q.now ≤ u → (run u k q out).2.length < out.length + k →
    (run u k q out).1.now = u ∧ run v k q out = run v (k - ((run u k q out).2.length - out.length)) (run u k q out).1 (run u k q out).2
  | 0, q, out, _, _, h => by simp [run] at h
  | k + 1, q, out, hr, h1, h => by
    cases hn : (next q u).2 with
    | some j =>
      have e1 : run u (k + 1) q out = run u k (next q u).1 (out ++ [j]) := by rw [run, hn]
      have e2 : run v (k + 1) q out = run v k (next q u).1 (out ++ [j]) := by rw [run, next_more huv hn, hn]
      rw [e1] at h ⊢
      rw [e2]
      have hx := next_right hr h1 hm
      have hg := run_grows (til := u) k (next q u).1 (out ++ [j])
      have ih := run_two huv hm k (next q u).1 (out ++ [j]) hx.1 hx.2.2 (by simp at h ⊢; omega)
      refine ⟨ih.1, ih.2.trans ?_⟩
      simp only [List.length_append, List.length_cons, List.length_nil] at hg ⊢
      rw [show k - ((run u k (next q u).1 (out ++ [j])).2.length - (out.length + (0 + 1))) = k + 1 - ((run u k (next q u).1 (out ++ [j])).2.length - out.length) by omega]
    | none =>
      have e1 : run u (k + 1) q out = ((next q u).1, out) := by rw [run, hn]
      rw [e1]
      have hx := next_none hn
      simp only
      rw [hx.1]
      refine ⟨rfl, ?_⟩
      rw [show k + 1 - (out.length - out.length) = k + 1 by omega]
      rw [run, run, next_after h1 huv hn]
theorem ask_now {q : Loop} {a : Ask} (h : (ask q a).2.2 = 0) : (ask q a).1.now = q.now := by
  unfold ask at h ⊢
  by_cases hc : check q = 0
  · rw [if_pos hc] at h ⊢
    by_cases hw : within a.what 1 5 = true
    · rw [if_pos hw] at h ⊢
      by_cases hd : (doAsk q a).2.2 = 0
      · rw [if_pos hd]
        unfold doAsk post timer cancel
        repeat (first | rfl | split)
      · rw [if_neg hd] at h; exact absurd h hd
    · rw [if_neg hw] at h; simp at h
  · rw [if_neg hc] at h; exact absurd h hc
theorem run_now {til : Int} (h2 : til ≤ most) : ∀ (k : Nat) (q : Loop) (out : List Job), Right q → q.now ≤ til → (run til k q out).1.now ≤ til
  | 0, _, _, _, h => h
  | k + 1, q, out, h, h1 => by
    have hn := next_right h h1 h2
    rw [run]
    split
    · exact run_now h2 k _ _ hn.1 hn.2.2
    · exact hn.2.2
theorem stepA_now {s : Loop × List Job} (a : Ask) (h : Right s.1) : (stepA s a).1.now ≤ s.1.now + 1000000 := by
  unfold stepA
  split
  · split
    · next hg =>
      simp only [goes, Bool.and_eq_true, within_iff, decide_eq_true_iff] at hg
      have := run_now (til := s.1.now + a.n) (by unfold most; omega) (300 - s.2.length) s.1 s.2 h (by omega)
      omega
    · omega
  · split
    · next he => rw [ask_now he]; omega
    · omega
theorem foldA_now : ∀ (l : List Ask) (s : Loop × List Job), Right s.1 → (l.foldl stepA s).1.now ≤ s.1.now + 1000000 * l.length
  | [], s, _ => by simp
  | a :: l, s, h => by
    have h1 := stepA_now a h
    have h2 := foldA_now l (stepA s a) (stepA_right a h)
    simp only [List.foldl_cons, List.length_cons]
    omega
theorem plays_now (l : List Ask) : (plays l).1.now ≤ 1000000 * l.length := by
  have := foldA_now l (zero, []) zero_right
  simp only [zero] at this
  unfold plays zero
  omega
def runs (n : Int) : Ask := ⟨6, 0, n, [], ⟨0, 0, []⟩⟩
theorem stepA_runs {s : Loop × List Job} {n : Int} (h : goes s.1 n = true) : stepA s (runs n) = run (s.1.now + n) (300 - s.2.length) s.1 s.2 := by
  unfold stepA
  rw [if_pos (show (runs n).what = 6 from rfl)]
  exact if_pos h
theorem plays_parts {l : List Ask} {a b : Int} (ha : 0 ≤ a) (hb : 0 ≤ b) (ha1 : a ≤ 500000) (hb1 : b ≤ 500000) (hl : l.length ≤ 150) (h : (plays (l ++ [runs a, runs b])).2.length < 300) :
    plays (l ++ [runs a, runs b]) = plays (l ++ [runs (a + b)]) := by
  have hr := plays_right l
  have hn := plays_now l
  have h0 := hr.now0
  have e1 : plays (l ++ [runs a, runs b]) = stepA (stepA (plays l) (runs a)) (runs b) := by unfold plays; rw [List.foldl_append]; rfl
  have e2 : plays (l ++ [runs (a + b)]) = stepA (plays l) (runs (a + b)) := by unfold plays; rw [List.foldl_append]; rfl
  rw [e1] at h
  rw [e1, e2]
  have g : ∀ n : Int, 0 ≤ n → n ≤ 1000000 → goes (plays l).1 n = true := by
    intro n h1 h2
    simp only [goes, Bool.and_eq_true, within_iff, decide_eq_true_iff]
    omega
  have ga := stepA_runs (g a ha (by omega))
  have gab := stepA_runs (g (a + b) (by omega) (by omega))
  have hra := stepA_right (runs a) hr
  have hsn : (stepA (plays l) (runs a)).1.now ≤ (plays l).1.now + 1000000 := stepA_now (runs a) hr
  have gb : goes (stepA (plays l) (runs a)).1 b = true := by
    have h3 := hra.now0
    simp only [goes, Bool.and_eq_true, within_iff, decide_eq_true_iff]
    omega
  have ge := stepA_runs gb
  rw [ge] at h
  rw [ge, gab]
  rw [ga] at h ⊢
  have hg := run_grows (til := (run ((plays l).1.now + a) (300 - (plays l).2.length) (plays l).1 (plays l).2).1.now + b) (300 - (run ((plays l).1.now + a) (300 - (plays l).2.length) (plays l).1 (plays l).2).2.length) (run ((plays l).1.now + a) (300 - (plays l).2.length) (plays l).1 (plays l).2).1 (run ((plays l).1.now + a) (300 - (plays l).2.length) (plays l).1 (plays l).2).2
  have hg2 := run_grows (til := (plays l).1.now + a) (300 - (plays l).2.length) (plays l).1 (plays l).2
  have ht := run_two (u := (plays l).1.now + a) (v := (plays l).1.now + (a + b)) (by omega) (by unfold most; omega) (300 - (plays l).2.length) (plays l).1 (plays l).2 hr (by omega) (by omega)
  rw [ht.2, ht.1]
  rw [show (plays l).1.now + a + b = (plays l).1.now + (a + b) by omega]
  rw [show 300 - (plays l).2.length - ((run ((plays l).1.now + a) (300 - (plays l).2.length) (plays l).1 (plays l).2).2.length - (plays l).2.length) = 300 - (run ((plays l).1.now + a) (300 - (plays l).2.length) (plays l).1 (plays l).2).2.length by omega]
theorem play_small {l : List Ask} (hl : l.length ≤ 200) : play l = if (l.any fun a => !within a.what 1 6) = true then ([], zero, 3) else ((plays l).2, (plays l).1, 0) := if_neg (by omega)
theorem any_runs (l : List Ask) (n : Int) : ((l ++ [runs n]).any fun a => !within a.what 1 6) = l.any fun a => !within a.what 1 6 := by
  have e : (!within (runs n).what 1 6) = false := rfl
  simp only [List.any_append, List.any_cons, List.any_nil, e, Bool.or_false]
theorem any_runs2 (l : List Ask) (n m : Int) : ((l ++ [runs n, runs m]).any fun a => !within a.what 1 6) = l.any fun a => !within a.what 1 6 := by
  have e : (!within (runs n).what 1 6) = false := rfl
  have e2 : (!within (runs m).what 1 6) = false := rfl
  simp only [List.any_append, List.any_cons, List.any_nil, e, e2, Bool.or_false]
theorem parts_err {l : List Ask} (a b c : Int) (hl : l.length ≤ 150) : (play (l ++ [runs a, runs b])).2.2 = (play (l ++ [runs c])).2.2 := by
  rw [play_small (l := l ++ [runs a, runs b]) (by simp; omega), play_small (l := l ++ [runs c]) (by simp; omega), any_runs, any_runs2]
  split <;> rfl
theorem parts_eq {l : List Ask} {a b : Int} (ha : 0 ≤ a) (hb : 0 ≤ b) (ha1 : a ≤ 500000) (hb1 : b ≤ 500000) (hl : l.length ≤ 150) (h0 : (play (l ++ [runs a, runs b])).2.2 = 0) (h : (play (l ++ [runs a, runs b])).1.length < 300) :
    play (l ++ [runs a, runs b]) = play (l ++ [runs (a + b)]) := by
  rw [play_small (l := l ++ [runs a, runs b]) (by simp; omega), any_runs2] at h0 h ⊢
  rw [play_small (l := l ++ [runs (a + b)]) (by simp; omega), any_runs]
  by_cases hw : (l.any fun a => !within a.what 1 6) = true
  · rw [if_pos hw] at h0; simp at h0
  · rw [if_neg hw] at h
    rw [if_neg hw, if_neg hw, plays_parts ha hb ha1 hb1 hl h]
theorem play_len (l : List Ask) : (play l).1.length ≤ 300 := by
  unfold play
  split
  · simp
  · split
    · simp
    · exact plays_len l
theorem play_right (l : List Ask) : Right (play l).2.1 := by
  unfold play
  split
  · exact zero_right
  · split
    · exact zero_right
    · exact plays_right l
end Loopy
