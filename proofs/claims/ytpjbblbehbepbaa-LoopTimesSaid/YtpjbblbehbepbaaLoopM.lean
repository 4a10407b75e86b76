/-
  The plain laws of the six statements about loops. Conditions: as each says.
-/
import Derived.Test.YtpjbblbehbepbaaLoopG
namespace Loopy
set_option linter.unusedSimpArgs false
set_option linter.unusedVariables false
open Valu

theorem idxOf_lay (p : Timer → Bool) (t : Timer) (ht : p t = true) : ∀ l : List Timer, (∀ x ∈ l, p x = false) → 0 ≤ idxOf p (lay l t) ∧ (lay l t).eraseIdx (idxOf p (lay l t)).toNat = l
  | [], _ => by simp [lay, idxOf, ht]
  | u :: r, h => by
    have hu : p u = false := h u (by simp)
    unfold lay
    split
    · obtain ⟨h1, h2⟩ := idxOf_lay p t ht r (fun x hx => h x (by simp [hx]))
      have e : idxOf p (u :: lay r t) = idxOf p (lay r t) + 1 := by
        rw [idxOf]
        rw [hu]
        have : ¬ idxOf p (lay r t) < 0 := by omega
        simp [this]
      rw [e]
      refine ⟨by omega, ?_⟩
      obtain ⟨n, hn⟩ : ∃ n : Nat, idxOf p (lay r t) = n := ⟨(idxOf p (lay r t)).toNat, by omega⟩
      rw [hn] at h2 ⊢
      rw [show ((n : Int) + 1).toNat = n + 1 from by omega, List.eraseIdx_cons_succ]
      simp only [Int.toNat_natCast] at h2
      rw [h2]
    · simp [idxOf, ht]
/-- the ask for a timer: it is done: what comes of it. -/
theorem after_ok {q : Loop} {n : Int} {s : Bs} {v : V} (h : (ask q ⟨3, 0, n, s, v⟩).2.2 = 0) :
    Right q ∧ ask q ⟨3, 0, n, s, v⟩ = ({ q with timers := lay q.timers ⟨q.next, q.now + n, 0, 0, s⟩, next := q.next + 1 }, q.next, 0) := by
  unfold ask at h ⊢
  by_cases hc : check q = 0
  · rw [if_pos hc] at h ⊢
    have hw : within 3 1 5 = true := by decide
    have hd : doAsk q ⟨3, 0, n, s, v⟩ = timer q ⟨3, 0, n, s, v⟩ false := by unfold doAsk; rw [if_neg (by simp), if_neg (by simp), if_pos rfl]
    simp only [hd] at h ⊢
    rw [if_pos hw] at h ⊢
    have hR := (check_iff q).1 hc
    refine ⟨hR, ?_⟩
    have h0 : timer q ⟨3, 0, n, s, v⟩ false = if within n 0 1000000 = false then (q, 0, 1) else if most < q.now + n then (q, 0, 1) else if full q.timers.length q = true then (q, 0, 2)
      else ({ q with timers := lay q.timers ⟨q.next, q.now + n, 0, 0, s⟩, next := q.next + 1 }, q.next, 0) := rfl
    by_cases ht : (timer q ⟨3, 0, n, s, v⟩ false).2.2 = 0
    · rw [if_pos ht]
      rw [h0] at ht ⊢
      by_cases h1 : within n 0 1000000 = false
      · rw [if_pos h1] at ht; simp at ht
      · rw [if_neg h1] at ht ⊢
        by_cases h2 : most < q.now + n
        · rw [if_pos h2] at ht; simp at ht
        · rw [if_neg h2] at ht ⊢
          by_cases h3 : full q.timers.length q = true
          · rw [if_pos h3] at ht; simp at ht
          · rw [if_neg h3]
    · rw [if_neg ht] at h; exact absurd h ht
  · rw [if_neg hc] at h; exact absurd h hc
theorem cancel_back {q : Loop} {n : Int} {s t : Bs} {v u : V} (h : (ask q ⟨3, 0, n, s, v⟩).2.2 = 0) :
    ask (ask q ⟨3, 0, n, s, v⟩).1 ⟨5, 0, (ask q ⟨3, 0, n, s, v⟩).2.1, t, u⟩ = ({ q with next := q.next + 1 }, 0, 0) := by
  obtain ⟨hR, e⟩ := after_ok h
  have hr := ask_right q ⟨3, 0, n, s, v⟩
  rw [e] at hr ⊢
  simp only at hr ⊢
  have hid : ∀ x ∈ q.timers, (fun t : Timer => t.id == q.next) x = false := by
    intro x hx
    have := hR.idr x.id (by unfold ids; simp only [List.mem_append]; exact .inr (.inr (List.mem_map_of_mem hx)))
    simp; omega
  obtain ⟨i1, i2⟩ := idxOf_lay (fun t : Timer => t.id == q.next) ⟨q.next, q.now + n, 0, 0, s⟩ (by simp) q.timers hid
  unfold ask
  rw [if_pos ((check_iff _).2 hr), if_pos (show within 5 1 5 = true by decide)]
  have hd : doAsk { q with timers := lay q.timers ⟨q.next, q.now + n, 0, 0, s⟩, next := q.next + 1 } ⟨5, 0, q.next, t, u⟩ = ({ q with next := q.next + 1 }, 0, 0) := by
    unfold doAsk
    rw [if_neg (by simp), if_neg (by simp), if_neg (by simp), if_neg (by simp)]
    unfold cancel
    simp only
    rw [if_neg (by omega), i2]
  rw [hd]
  simp
end Loopy

namespace Loopy
set_option linter.unusedSimpArgs false
set_option linter.unusedVariables false
open Valu

theorem next_more {q : Loop} {u v : Int} {j : Job} (huv : u ≤ v) (h : (next q u).2 = some j) : next q v = next q u := by
  obtain ⟨now, nxt, tasks, smalls, timers⟩ := q
  cases smalls with
  | cons s r => rfl
  | nil =>
    cases timers with
    | nil =>
      cases tasks with
      | nil => simp [next] at h
      | cons j s => rfl
    | cons t r =>
      simp only [next] at h ⊢
      by_cases hu : t.due ≤ now ∨ (tasks = [] ∧ t.due ≤ u)
      · have hv : t.due ≤ now ∨ (tasks = [] ∧ t.due ≤ v) := by
          rcases hu with hu | ⟨h1, h2⟩
          · exact .inl hu
          · exact .inr ⟨h1, by omega⟩
        rw [if_pos hu, if_pos hv]
      · rw [if_neg hu] at h ⊢
        cases tasks with
        | nil => simp at h
        | cons j s =>
          have hv : ¬ (t.due ≤ now ∨ (j :: s = [] ∧ t.due ≤ v)) := by
            rintro (h1 | ⟨h1, _⟩)
            · exact hu (.inl h1)
            · cases h1
          rw [if_neg hv]
/-- nothing is left until u: then the clock alone goes on. -/
theorem next_none {q : Loop} {u : Int} (h : (next q u).2 = none) : (next q u).1 = { q with now := u } ∧ q.smalls = [] ∧ q.tasks = [] ∧ ∀ t r, q.timers = t :: r → u < t.due ∧ q.now < t.due := by
  obtain ⟨now, nxt, tasks, smalls, timers⟩ := q
  cases smalls with
  | cons s r => simp [next] at h
  | nil =>
    cases timers with
    | nil =>
      cases tasks with
      | nil => exact ⟨rfl, rfl, rfl, by simp⟩
      | cons j s => simp [next] at h
    | cons t r =>
      simp only [next] at h ⊢
      by_cases hu : t.due ≤ now ∨ (tasks = [] ∧ t.due ≤ u)
      · rw [if_pos hu] at h; simp at h
      · rw [if_neg hu] at h ⊢
        cases tasks with
        | nil =>
          have h1 : ¬ t.due ≤ now := fun k => hu (.inl k)
          have h2 : ¬ t.due ≤ u := fun k => hu (.inr ⟨rfl, k⟩)
          refine ⟨rfl, by simp, by simp, fun t' r' e => ?_⟩
          injection e with e1 e2
          subst e1
          omega
        | cons j s => simp at h
theorem next_after {q : Loop} {u v : Int} (h1 : q.now ≤ u) (huv : u ≤ v) (h : (next q u).2 = none) : next { q with now := u } v = next q v := by
  obtain ⟨_, hs, ht, hd⟩ := next_none h
  obtain ⟨now, nxt, tasks, smalls, timers⟩ := q
  simp only at hs ht hd h1
  subst hs ht
  cases timers with
  | nil => rfl
  | cons t r =>
    obtain ⟨d1, d2⟩ := hd t r rfl
    simp only [next]
    by_cases hv : t.due ≤ v
    · rw [if_pos (.inr ⟨by simp, hv⟩), if_pos (.inr ⟨by simp, hv⟩)]
      simp only [fire]
      rw [show max u t.due = max now t.due by omega]
    · rw [if_neg (by rintro (k | ⟨_, k⟩) <;> omega), if_neg (by rintro (k | ⟨_, k⟩) <;> omega)]
theorem run_grows {til : Int} : ∀ (k : Nat) (q : Loop) (out : List Job), out.length ≤ (run til k q out).2.length
  | 0, _, _ => Nat.le_refl _
  | k + 1, q, out => by
    rw [run]
    split
    · exact Nat.le_trans (by simp) (run_grows k _ _)
    · exact Nat.le_refl _
theorem run_two {u v : Int} (huv : u ≤ v) (hm : u ≤ most) : ∀ (k : Nat) (q : Loop) (out : List Job), Right q → q.now ≤ u → (run u k q out).2.length < out.length + k →
    (run u k q out).1.now = u ∧ run v k q out = run v (k - ((run u k q out).2.length - out.length)) (run u k q out).1 (run u k q out).2
  | 0, q, out, _, _, h => by simp [run] at h
  | k + 1, q, out, hr, h1, h => by
    cases hn : (next q u).2 with
    | some j =>
      have e1 : run u (k + 1) q out = run u k (next q u).1 (out ++ [j]) := by rw [run, hn]
      have e2 : run v (k + 1) q out = run v k (next q u).1 (out ++ [j]) := by rw [run, next_more huv hn, hn]
      rw [e1] at h ⊢
      rw [e2]
      have hx := next_right hr h1 hm
      have hg := run_grows (til := u) k (next q u).1 (out ++ [j])
      have ih := run_two huv hm k (next q u).1 (out ++ [j]) hx.1 hx.2.2 (by simp at h ⊢; omega)
      refine ⟨ih.1, ih.2.trans ?_⟩
      simp only [List.length_append, List.length_cons, List.length_nil] at hg ⊢
      rw [show k - ((run u k (next q u).1 (out ++ [j])).2.length - (out.length + (0 + 1))) = k + 1 - ((run u k (next q u).1 (out ++ [j])).2.length - out.length) by omega]
    | none =>
      have e1 : run u (k + 1) q out = ((next q u).1, out) := by rw [run, hn]
      rw [e1]
      have hx := next_none hn
      simp only
      rw [hx.1]
      refine ⟨rfl, ?_⟩
      rw [show k + 1 - (out.length - out.length) = k + 1 by omega]
      rw [run, run, next_after h1 huv hn]
theorem ask_now {q : Loop} {a : Ask} (h : (ask q a).2.2 = 0) : (ask q a).1.now = q.now := by
  unfold ask at h ⊢
  by_cases hc : check q = 0
  · rw [if_pos hc] at h ⊢
    by_cases hw : within a.what 1 5 = true
    · rw [if_pos hw] at h ⊢
      by_cases hd : (doAsk q a).2.2 = 0
      · rw [if_pos hd]
        unfold doAsk post timer cancel
        repeat (first | rfl | split)
      · rw [if_neg hd] at h; exact absurd h hd
    · rw [if_neg hw] at h; simp at h
  · rw [if_neg hc] at h; exact absurd h hc
theorem run_now {til : Int} (h2 : til ≤ most) : ∀ (k : Nat) (q : Loop) (out : List Job), Right q → q.now ≤ til → (run til k q out).1.now ≤ til
  | 0, _, _, _, h => h
  | k + 1, q, out, h, h1 => by
    have hn := next_right h h1 h2
    rw [run]
    split
    · exact run_now h2 k _ _ hn.1 hn.2.2
    · exact hn.2.2
theorem stepA_now {s : Loop × List Job} (a : Ask) (h : Right s.1) : (stepA s a).1.now ≤ s.1.now + 1000000 := by
  unfold stepA
  split
  · split
    · next hg =>
      simp only [goes, Bool.and_eq_true, within_iff, decide_eq_true_iff] at hg
      have := run_now (til := s.1.now + a.n) (by unfold most; omega) (300 - s.2.length) s.1 s.2 h (by omega)
      omega
    · omega
  · split
    · next he => rw [ask_now he]; omega
    · omega
theorem foldA_now : ∀ (l : List Ask) (s : Loop × List Job), Right s.1 → (l.foldl stepA s).1.now ≤ s.1.now + 1000000 * l.length
  | [], s, _ => by simp
  | a :: l, s, h => by
    have h1 := stepA_now a h
    have h2 := foldA_now l (stepA s a) (stepA_right a h)
    simp only [List.foldl_cons, List.length_cons]
    omega
theorem plays_now (l : List Ask) : (plays l).1.now ≤ 1000000 * l.length := by
  have := foldA_now l (zero, []) zero_right
  simp only [zero] at this
  unfold plays zero
  omega
def runs (n : Int) : Ask := ⟨6, 0, n, [], ⟨0, 0, []⟩⟩
theorem stepA_runs {s : Loop × List Job} {n : Int} (h : goes s.1 n = true) : stepA s (runs n) = run (s.1.now + n) (300 - s.2.length) s.1 s.2 := by
  unfold stepA
  rw [if_pos (show (runs n).what = 6 from rfl)]
  exact if_pos h
theorem plays_parts {l : List Ask} {a b : Int} (ha : 0 ≤ a) (hb : 0 ≤ b) (ha1 : a ≤ 500000) (hb1 : b ≤ 500000) (hl : l.length ≤ 150) (h : (plays (l ++ [runs a, runs b])).2.length < 300) :
    plays (l ++ [runs a, runs b]) = plays (l ++ [runs (a + b)]) := by
  have hr := plays_right l
  have hn := plays_now l
  have h0 := hr.now0
  have e1 : plays (l ++ [runs a, runs b]) = stepA (stepA (plays l) (runs a)) (runs b) := by unfold plays; rw [List.foldl_append]; rfl
  have e2 : plays (l ++ [runs (a + b)]) = stepA (plays l) (runs (a + b)) := by unfold plays; rw [List.foldl_append]; rfl
  rw [e1] at h
  rw [e1, e2]
  have g : ∀ n : Int, 0 ≤ n → n ≤ 1000000 → goes (plays l).1 n = true := by
    intro n h1 h2
    simp only [goes, Bool.and_eq_true, within_iff, decide_eq_true_iff]
    omega
  have ga := stepA_runs (g a ha (by omega))
  have gab := stepA_runs (g (a + b) (by omega) (by omega))
  have hra := stepA_right (runs a) hr
  have hsn : (stepA (plays l) (runs a)).1.now ≤ (plays l).1.now + 1000000 := stepA_now (runs a) hr
  have gb : goes (stepA (plays l) (runs a)).1 b = true := by
    have h3 := hra.now0
    simp only [goes, Bool.and_eq_true, within_iff, decide_eq_true_iff]
    omega
  have ge := stepA_runs gb
  rw [ge] at h
  rw [ge, gab]
  rw [ga] at h ⊢
  have hg := run_grows (til := (run ((plays l).1.now + a) (300 - (plays l).2.length) (plays l).1 (plays l).2).1.now + b) (300 - (run ((plays l).1.now + a) (300 - (plays l).2.length) (plays l).1 (plays l).2).2.length) (run ((plays l).1.now + a) (300 - (plays l).2.length) (plays l).1 (plays l).2).1 (run ((plays l).1.now + a) (300 - (plays l).2.length) (plays l).1 (plays l).2).2
  have hg2 := run_grows (til := (plays l).1.now + a) (300 - (plays l).2.length) (plays l).1 (plays l).2
  have ht := run_two (u := (plays l).1.now + a) (v := (plays l).1.now + (a + b)) (by omega) (by unfold most; omega) (300 - (plays l).2.length) (plays l).1 (plays l).2 hr (by omega) (by omega)
  rw [ht.2, ht.1]
  rw [show (plays l).1.now + a + b = (plays l).1.now + (a + b) by omega]
  rw [show 300 - (plays l).2.length - ((run ((plays l).1.now + a) (300 - (plays l).2.length) (plays l).1 (plays l).2).2.length - (plays l).2.length) = 300 - (run ((plays l).1.now + a) (300 - (plays l).2.length) (plays l).1 (plays l).2).2.length by omega]
theorem play_small {l : List Ask} (hl : l.length ≤ 200) : play l = if (l.any fun a => !within a.what 1 6) = true then ([], zero, 3) else ((plays l).2, (plays l).1, 0) := if_neg (by omega)
theorem any_runs (l : List Ask) (n : Int) : ((l ++ [runs n]).any fun a => !within a.what 1 6) = l.any fun a => !within a.what 1 6 := by
  have e : (!within (runs n).what 1 6) = false := rfl
  simp only [List.any_append, List.any_cons, List.any_nil, e, Bool.or_false]
theorem any_runs2 (l : List Ask) (n m : Int) : ((l ++ [runs n, runs m]).any fun a => !within a.what 1 6) = l.any fun a => !within a.what 1 6 := by
  have e : (!within (runs n).what 1 6) = false := rfl
  have e2 : (!within (runs m).what 1 6) = false := rfl
  simp only [List.any_append, List.any_cons, List.any_nil, e, e2, Bool.or_false]
theorem parts_err {l : List Ask} (a b c : Int) (hl : l.length ≤ 150) : (play (l ++ [runs a, runs b])).2.2 = (play (l ++ [runs c])).2.2 := by
  rw [play_small (l := l ++ [runs a, runs b]) (by simp; omega), play_small (l := l ++ [runs c]) (by simp; omega), any_runs, any_runs2]
  split <;> rfl
theorem parts_eq {l : List Ask} {a b : Int} (ha : 0 ≤ a) (hb : 0 ≤ b) (ha1 : a ≤ 500000) (hb1 : b ≤ 500000) (hl : l.length ≤ 150) (h0 : (play (l ++ [runs a, runs b])).2.2 = 0) (h : (play (l ++ [runs a, runs b])).1.length < 300) :
    play (l ++ [runs a, runs b]) = play (l ++ [runs (a + b)]) := by
  rw [play_small (l := l ++ [runs a, runs b]) (by simp; omega), any_runs2] at h0 h ⊢
  rw [play_small (l := l ++ [runs (a + b)]) (by simp; omega), any_runs]
  by_cases hw : (l.any fun a => !within a.what 1 6) = true
  · rw [if_pos hw] at h0; simp at h0
  · rw [if_neg hw] at h
    rw [if_neg hw, if_neg hw, plays_parts ha hb ha1 hb1 hl h]
theorem play_len (l : List Ask) : (play l).1.length ≤ 300 := by
  unfold play
  split
  · simp
  · split
    · simp
    · exact plays_len l
theorem play_right (l : List Ask) : Right (play l).2.1 := by
  unfold play
  split
  · exact zero_right
  · split
    · exact zero_right
    · exact plays_right l
end Loopy

namespace Loopy
set_option linter.unusedSimpArgs false
set_option linter.unusedVariables false
open Valu

theorem ask_cases {q : Loop} {a : Ask} (h : (ask q a).2.2 = 0) : Right q ∧
    ((∃ j : Job, j.id = q.next ∧ (ask q a).1 = { q with tasks := q.tasks ++ [j], next := q.next + 1 }) ∨
     (∃ j : Job, j.id = q.next ∧ (ask q a).1 = { q with smalls := q.smalls ++ [j], next := q.next + 1 }) ∨
     (∃ t : Timer, t.id = q.next ∧ (0 < t.every → a.what = 4) ∧ (ask q a).1 = { q with timers := lay q.timers t, next := q.next + 1 }) ∨
     (∃ i : Nat, (ask q a).1 = { q with timers := q.timers.eraseIdx i })) := by
  unfold ask at h ⊢
  by_cases hc : check q = 0
  · rw [if_pos hc] at h ⊢
    refine ⟨(check_iff q).1 hc, ?_⟩
    by_cases hw : within a.what 1 5 = true
    · rw [if_pos hw] at h ⊢
      by_cases hd : (doAsk q a).2.2 = 0
      · rw [if_pos hd]
        have tim : ∀ e : Bool, (e = true → a.what = 4) → (timer q a e).2.2 = 0 → ∃ t : Timer, t.id = q.next ∧ (0 < t.every → a.what = 4) ∧ (timer q a e).1 = { q with timers := lay q.timers t, next := q.next + 1 } := by
          intro e he ht
          unfold timer at ht ⊢
          obtain ⟨lo, hlo⟩ : ∃ lo : Int, (if e = true then 1 else 0) = lo := ⟨_, rfl⟩
          obtain ⟨ev, hev⟩ : ∃ ev : Int, (if e = true then a.n else 0) = ev := ⟨_, rfl⟩
          rw [hlo, hev] at ht ⊢
          by_cases x1 : within a.n lo 1000000 = false
          · rw [if_pos x1] at ht; simp at ht
          · rw [if_neg x1] at ht ⊢
            by_cases x2 : most < q.now + a.n
            · rw [if_pos x2] at ht; simp at ht
            · rw [if_neg x2] at ht ⊢
              by_cases x3 : full q.timers.length q = true
              · rw [if_pos x3] at ht; simp at ht
              · rw [if_neg x3]
                refine ⟨_, rfl, fun hp => ?_, rfl⟩
                cases e with
                | true => exact he rfl
                | false => simp at hev hp; omega
        have pst : ∀ s : Bool, (post q a s).2.2 = 0 → (∃ j : Job, j.id = q.next ∧ (post q a s).1 = { q with tasks := q.tasks ++ [j], next := q.next + 1 }) ∨ (∃ j : Job, j.id = q.next ∧ (post q a s).1 = { q with smalls := q.smalls ++ [j], next := q.next + 1 }) := by
          intro s hs
          cases s with
          | true =>
            unfold post at hs ⊢
            rw [if_pos rfl] at hs ⊢
            by_cases x : full q.smalls.length q = true
            · rw [if_pos x] at hs; simp at hs
            · rw [if_neg x]; exact .inr ⟨_, rfl, rfl⟩
          | false =>
            unfold post at hs ⊢
            rw [if_neg (by simp)] at hs ⊢
            by_cases x1 : within a.src 1 4 = false
            · rw [if_pos x1] at hs; simp at hs
            · rw [if_neg x1] at hs ⊢
              by_cases x : full q.tasks.length q = true
              · rw [if_pos x] at hs; simp at hs
              · rw [if_neg x]; exact .inl ⟨_, rfl, rfl⟩
        unfold doAsk at hd ⊢
        by_cases y1 : a.what = 1
        · rw [if_pos y1] at hd ⊢
          rcases pst false hd with p | p
          · exact .inl p
          · exact .inr (.inl p)
        · rw [if_neg y1] at hd ⊢
          by_cases y2 : a.what = 2
          · rw [if_pos y2] at hd ⊢
            rcases pst true hd with p | p
            · exact .inl p
            · exact .inr (.inl p)
          · rw [if_neg y2] at hd ⊢
            by_cases y3 : a.what = 3
            · rw [if_pos y3] at hd ⊢
              exact .inr (.inr (.inl (tim false (by simp) hd)))
            · rw [if_neg y3] at hd ⊢
              by_cases y4 : a.what = 4
              · rw [if_pos y4] at hd ⊢
                exact .inr (.inr (.inl (tim true (fun _ => y4) hd)))
              · rw [if_neg y4] at hd ⊢
                refine .inr (.inr (.inr ?_))
                unfold cancel at hd ⊢
                split at hd
                · simp at hd
                · next x => rw [if_neg x]; exact ⟨_, rfl⟩
      · rw [if_neg hd] at h; exact absurd h hd
    · rw [if_neg hw] at h; simp at h
  · rw [if_neg hc] at h; exact absurd h hc

/-- what is told of the jobs so far, and of what waits. -/
structure Inv (ev : Bool) (q : Loop) (out : List Job) : Prop where
  lo : ∀ j ∈ out, 0 ≤ j.id ∧ j.id < q.next
  tsk : ∀ j ∈ q.tasks, ∀ o ∈ out, o.id ≠ j.id
  sml : ∀ j ∈ q.smalls, ∀ o ∈ out, o.id ≠ j.id
  tim : ∀ t ∈ q.timers, (∃ o ∈ out, o.id = t.id) → 0 < t.every
  evr : ∀ t ∈ q.timers, 0 < t.every → ev = true
  once : ∀ (k : Nat) (x : Job), out[k]? = some x → (∃ y ∈ out.take k, y.id = x.id) → ev = true ∧ x.src = 3

theorem Inv.snoc {ev : Bool} {out : List Job} {j : Job} (h : ∀ (k : Nat) (x : Job), out[k]? = some x → (∃ y ∈ out.take k, y.id = x.id) → ev = true ∧ x.src = 3) (hj : (∃ y ∈ out, y.id = j.id) → ev = true ∧ j.src = 3) :
    ∀ (k : Nat) (x : Job), (out ++ [j])[k]? = some x → (∃ y ∈ (out ++ [j]).take k, y.id = x.id) → ev = true ∧ x.src = 3 := by
  intro k x hx hy
  have hk : k < out.length + 1 := by have := (List.getElem?_eq_some_iff.1 hx).1; simpa using this
  by_cases hlt : k < out.length
  · rw [List.getElem?_append_left hlt] at hx
    rw [List.take_append_of_le_length (by omega)] at hy
    exact h k x hx hy
  · have e : k = out.length := by omega
    subst e
    simp at hx hy
    subst hx
    exact hj hy
theorem Inv.ask {ev : Bool} {q : Loop} {out : List Job} {a : Ask} (h : Inv ev q out) (he : (ask q a).2.2 = 0) (ha : a.what = 4 → ev = true) : Inv ev (ask q a).1 out := by
  obtain ⟨hr, hc⟩ := ask_cases he
  rcases hc with ⟨j, hj, e⟩ | ⟨j, hj, e⟩ | ⟨t, ht, hev, e⟩ | ⟨i, e⟩ <;> rw [e]
  · refine ⟨fun o ho => ⟨(h.lo o ho).1, by have := (h.lo o ho).2; simp only; omega⟩, fun x hx o ho => ?_, h.sml, h.tim, h.evr, h.once⟩
    rcases List.mem_append.1 hx with hx | hx
    · exact h.tsk x hx o ho
    · rw [List.mem_singleton] at hx; subst hx; have := (h.lo o ho).2; omega
  · refine ⟨fun o ho => ⟨(h.lo o ho).1, by have := (h.lo o ho).2; simp only; omega⟩, h.tsk, fun x hx o ho => ?_, h.tim, h.evr, h.once⟩
    rcases List.mem_append.1 hx with hx | hx
    · exact h.sml x hx o ho
    · rw [List.mem_singleton] at hx; subst hx; have := (h.lo o ho).2; omega
  · refine ⟨fun o ho => ⟨(h.lo o ho).1, by have := (h.lo o ho).2; simp only; omega⟩, h.tsk, h.sml, fun x hx => ?_, fun x hx => ?_, h.once⟩
    · rcases lay_mem.1 hx with rfl | hx
      · rintro ⟨o, ho, e2⟩; have := (h.lo o ho).2; omega
      · exact h.tim x hx
    · rcases lay_mem.1 hx with rfl | hx
      · exact fun hp => ha (hev hp)
      · exact h.evr x hx
  · exact ⟨h.lo, h.tsk, h.sml, fun x hx => h.tim x ((List.eraseIdx_sublist _ _).subset hx), fun x hx => h.evr x ((List.eraseIdx_sublist _ _).subset hx), h.once⟩
theorem nodup_parts {q : Loop} (h : Right q) : (q.tasks.map (·.id)).Nodup ∧ (q.smalls.map (·.id)).Nodup ∧ (q.timers.map (·.id)).Nodup ∧
    (∀ j ∈ q.tasks, ∀ k ∈ q.smalls, j.id ≠ k.id) ∧ (∀ j ∈ q.tasks, ∀ t ∈ q.timers, j.id ≠ t.id) ∧ (∀ j ∈ q.smalls, ∀ t ∈ q.timers, j.id ≠ t.id) := by
  have hn := h.nod
  unfold ids at hn
  rw [List.nodup_append, List.nodup_append] at hn
  obtain ⟨h1, ⟨h2, h3, h4⟩, h5⟩ := hn
  refine ⟨h1, h2, h3, fun j hj k hk => ?_, fun j hj t ht => ?_, fun j hj t ht => ?_⟩
  · exact h5 _ (List.mem_map_of_mem hj) _ (List.mem_append_left _ (List.mem_map_of_mem hk))
  · exact h5 _ (List.mem_map_of_mem hj) _ (List.mem_append_right _ (List.mem_map_of_mem ht))
  · exact h4 _ (List.mem_map_of_mem hj) _ (List.mem_map_of_mem ht)
theorem id_ne {α : Type} {f : α → Int} {x : α} {l : List α} (h : ((x :: l).map f).Nodup) : ∀ y ∈ l, f y ≠ f x := by
  intro y hy e
  rw [List.map_cons, List.nodup_cons] at h
  exact h.1 (e ▸ List.mem_map_of_mem hy)
theorem Inv.next {ev : Bool} {q : Loop} {out : List Job} {til : Int} {j : Job} (h : Inv ev q out) (hr : Right q) (hn : (Loopy.next q til).2 = some j) : Inv ev (Loopy.next q til).1 (out ++ [j]) := by
  obtain ⟨n1, n2, n3, n4, n5, n6⟩ := nodup_parts hr
  have hid := hr.idr
  unfold ids at hid
  obtain ⟨now, nxt, tasks, smalls, timers⟩ := q
  simp only at n1 n2 n3 n4 n5 n6 hid
  have h1 := h.lo
  have h2 := h.tsk
  have h3 := h.sml
  have h4 := h.tim
  have h5 := h.evr
  simp only at h1 h2 h3 h4 h5
  have low : ∀ i : Int, i ∈ (tasks.map (·.id) ++ (smalls.map (·.id) ++ timers.map (·.id))) → ∀ o : Job, o.id = i → ∀ x ∈ out ++ [o], 0 ≤ x.id ∧ x.id < nxt := by
    intro i hi o ho x hx
    rcases List.mem_append.1 hx with hx | hx
    · exact h1 x hx
    · rw [List.mem_singleton] at hx; subst hx; rw [ho]; exact hid i hi
  cases smalls with
  | cons s r =>
    simp only [Loopy.next, Option.some.injEq] at hn ⊢
    subst hn
    refine ⟨low s.id (by simp) s rfl, fun x hx o ho => ?_, fun x hx o ho => ?_, fun t ht hex => ?_, h5, Inv.snoc h.once (fun ⟨y, hy, e⟩ => absurd e (h3 s (by simp) y hy))⟩
    · rcases List.mem_append.1 ho with ho | ho
      · exact h2 x hx o ho
      · rw [List.mem_singleton] at ho; subst ho; exact fun e => n4 x hx o (by simp) e.symm
    · rcases List.mem_append.1 ho with ho | ho
      · exact h3 x (by simp [hx]) o ho
      · rw [List.mem_singleton] at ho; subst ho; exact fun e => id_ne n2 x hx e.symm
    · obtain ⟨o, ho, e⟩ := hex
      rcases List.mem_append.1 ho with ho | ho
      · exact h4 t ht ⟨o, ho, e⟩
      · rw [List.mem_singleton] at ho; subst ho; exact absurd e (n6 o (by simp) t ht)
  | nil =>
    have task : ∀ (x : Job) (s : List Job), tasks = x :: s → Inv ev { now := now, next := nxt, tasks := s, smalls := [], timers := timers } (out ++ [x]) := by
      intro x s et
      subst et
      refine ⟨low x.id (by simp) x rfl, fun y hy o ho => ?_, by simp, fun t ht hex => ?_, h5, Inv.snoc h.once (fun ⟨y, hy, e⟩ => absurd e (h2 x (by simp) y hy))⟩
      · rcases List.mem_append.1 ho with ho | ho
        · exact h2 y (by simp [hy]) o ho
        · rw [List.mem_singleton] at ho; subst ho; exact fun e => id_ne n1 y hy e.symm
      · obtain ⟨o, ho, e⟩ := hex
        rcases List.mem_append.1 ho with ho | ho
        · exact h4 t ht ⟨o, ho, e⟩
        · rw [List.mem_singleton] at ho; subst ho; exact absurd e (n5 o (by simp) t ht)
    cases timers with
    | nil =>
      cases tasks with
      | nil => simp [Loopy.next] at hn
      | cons x s =>
        simp only [Loopy.next, Option.some.injEq] at hn ⊢
        subst hn
        exact task x s rfl
    | cons t r =>
      by_cases hc : t.due ≤ now ∨ (tasks = [] ∧ t.due ≤ til)
      · simp only [Loopy.next] at hn ⊢
        rw [if_pos hc] at hn ⊢
        simp only [fire, Option.some.injEq] at hn ⊢
        subst hn
        have hne : ∀ x ∈ r, x.id ≠ t.id := fun x hx => id_ne n3 x hx
        have hl := low t.id (by simp) ⟨t.id, 3, false, t.call, num t.turn⟩ rfl
        have hon := Inv.snoc (j := ⟨t.id, 3, false, t.call, num t.turn⟩) h.once (fun ⟨y, hy, e⟩ => ⟨h5 t (by simp) (h4 t (by simp) ⟨y, hy, e⟩), rfl⟩)
        have htk : ∀ x ∈ tasks, ∀ o ∈ out ++ [(⟨t.id, 3, false, t.call, num t.turn⟩ : Job)], o.id ≠ x.id := by
          intro x hx o ho
          rcases List.mem_append.1 ho with ho | ho
          · exact h2 x hx o ho
          · rw [List.mem_singleton] at ho; subst ho; exact fun e => n5 x hx t (by simp) e.symm
        have hrt : ∀ x ∈ r, (∃ o ∈ out ++ [(⟨t.id, 3, false, t.call, num t.turn⟩ : Job)], o.id = x.id) → 0 < x.every := by
          rintro x hx ⟨o, ho, e⟩
          rcases List.mem_append.1 ho with ho | ho
          · exact h4 x (by simp [hx]) ⟨o, ho, e⟩
          · rw [List.mem_singleton] at ho; subst ho; exact absurd e.symm (hne x hx)
        by_cases hp : 0 < t.every ∧ t.due + t.every ≤ most ∧ t.turn < most
        · rw [if_pos hp]
          refine ⟨hl, htk, by simp, fun x hx hex => ?_, fun x hx hpx => ?_, hon⟩
          · rcases lay_mem.1 hx with rfl | hx
            · exact hp.1
            · exact hrt x hx hex
          · rcases lay_mem.1 hx with rfl | hx
            · exact h5 t (by simp) hp.1
            · exact h5 x (by simp [hx]) hpx
        · rw [if_neg hp]
          exact ⟨hl, htk, by simp, hrt, fun x hx hpx => h5 x (by simp [hx]) hpx, hon⟩
      · simp only [Loopy.next] at hn ⊢
        rw [if_neg hc] at hn ⊢
        cases tasks with
        | nil => simp at hn
        | cons x s =>
          simp only [Option.some.injEq] at hn ⊢
          subst hn
          exact task x s rfl
theorem Inv.idle {ev : Bool} {q : Loop} {out : List Job} {til : Int} (h : Inv ev q out) (hn : (Loopy.next q til).2 = none) : Inv ev (Loopy.next q til).1 out := by
  rw [(next_none hn).1]
  exact ⟨h.lo, h.tsk, h.sml, h.tim, h.evr, h.once⟩
theorem Inv.run {ev : Bool} {til : Int} (h2 : til ≤ most) : ∀ (k : Nat) (q : Loop) (out : List Job), Right q → q.now ≤ til → Inv ev q out → Inv ev (run til k q out).1 (run til k q out).2
  | 0, _, _, _, _, h => h
  | k + 1, q, out, hr, h1, h => by
    have hx := next_right hr h1 h2
    rw [Loopy.run]
    cases hn : (Loopy.next q til).2 with
    | some j => exact Inv.run h2 k _ _ hx.1 hx.2.2 (h.next hr hn)
    | none => exact h.idle hn
theorem Inv.step {ev : Bool} {s : Loop × List Job} {a : Ask} (hr : Right s.1) (h : Inv ev s.1 s.2) (ha : a.what = 4 → ev = true) : Inv ev (stepA s a).1 (stepA s a).2 := by
  unfold stepA
  split
  · split
    · next hg =>
      simp only [goes, Bool.and_eq_true, within_iff, decide_eq_true_iff] at hg
      exact Inv.run (by unfold most; omega) _ _ _ hr (by omega) h
    · exact h
  · split
    · next he => exact h.ask he ha
    · exact h
theorem Inv.fold {ev : Bool} : ∀ (l : List Ask) (s : Loop × List Job), Right s.1 → Inv ev s.1 s.2 → (∀ a ∈ l, a.what = 4 → ev = true) → Inv ev (l.foldl stepA s).1 (l.foldl stepA s).2
  | [], _, _, h, _ => h
  | a :: l, s, hr, h, ha => Inv.fold l _ (stepA_right a hr) (h.step hr (ha a (by simp))) (fun x hx => ha x (by simp [hx]))
/-- LoopOnce, plain. -/
theorem play_once (l : List Ask) : (∀ j ∈ (play l).1, 0 ≤ j.id ∧ j.id < 1000000000) ∧
    ∀ (k : Nat) (x : Job), (play l).1[k]? = some x → (∃ y ∈ (play l).1.take k, y.id = x.id) → (l.any fun a => a.what == 4) = true ∧ x.src = 3 := by
  have h0 : Inv (l.any fun a => a.what == 4) zero [] := ⟨by simp, by simp, by simp [zero], by simp [zero], by simp [zero], by simp⟩
  have h1 := Inv.fold (ev := l.any fun a => a.what == 4) l (zero, []) zero_right h0 (fun a ha h4 => by rw [List.any_eq_true]; exact ⟨a, ha, by simpa using h4⟩)
  have hr := (plays_right l).nxt1
  unfold most at hr
  unfold play
  split
  · exact ⟨by simp, by simp⟩
  · split
    · exact ⟨by simp, by simp⟩
    · refine ⟨fun j hj => ?_, h1.once⟩
      have := h1.lo j hj
      unfold plays at hr
      omega
end Loopy

namespace Loopy
set_option linter.unusedSimpArgs false
set_option linter.unusedVariables false
open Valu

theorem next_cases {q : Loop} (til : Int) (h : q.smalls = []) :
    (∃ t r, q.timers = t :: r ∧ (t.due ≤ q.now ∨ (q.tasks = [] ∧ t.due ≤ til)) ∧ next q til = ((fire q t r).1, some (fire q t r).2)) ∨
    (∃ j s, q.tasks = j :: s ∧ next q til = ({ q with tasks := s }, some j)) ∨
    (q.tasks = [] ∧ next q til = ({ q with now := til }, none) ∧ ∀ t r, q.timers = t :: r → til < t.due) := by
  obtain ⟨now, nxt, tasks, smalls, timers⟩ := q
  simp only at h
  subst h
  cases timers with
  | nil =>
    cases tasks with
    | nil => exact .inr (.inr ⟨rfl, rfl, by simp⟩)
    | cons j s => exact .inr (.inl ⟨j, s, rfl, rfl⟩)
  | cons t r =>
    by_cases hc : t.due ≤ now ∨ (tasks = [] ∧ t.due ≤ til)
    · refine .inl ⟨t, r, rfl, hc, ?_⟩
      simp only [next]
      rw [if_pos hc]
    · cases tasks with
      | nil =>
        refine .inr (.inr ⟨rfl, ?_, ?_⟩)
        · exact if_neg hc
        · intro t' r' e
          injection e with e1 e2
          subst e1
          have : ¬ t.due ≤ til := fun k => hc (.inr ⟨rfl, k⟩)
          omega
      | cons j s =>
        refine .inr (.inl ⟨j, s, rfl, ?_⟩)
        simp only [next]
        rw [if_neg hc]
theorem any_no {l : List Timer} {n : Int} (h : ∀ t ∈ l, n ≠ t.id) : (l.any fun t => t.id == n) = false := by
  rw [List.any_eq_false]
  intro t ht
  have := h t ht
  simp only [beq_iff_eq]
  exact fun e => this e.symm
theorem small_cases {q p : Loop} {til : Int} {k tk : Nat} (hr : Right p) (h1 : p.now ≤ til) (h2 : til ≤ most) (hs : p.smalls = q.smalls.drop k) (ht : p.tasks = q.tasks.drop tk) (htk : tk ≤ q.tasks.length) :
    ∃ o oj tk', next p til = (o, oj) ∧ Right o ∧ o.now ≤ til ∧ o.smalls = q.smalls.drop (k + 1) ∧ o.tasks = q.tasks.drop tk' ∧ tk' ≤ q.tasks.length ∧
     ((k < q.smalls.length ∧ tk' = tk ∧ ∃ j, oj = some j ∧ q.smalls[k]? = some j) ∨
      (q.smalls.length ≤ k ∧ tk' = tk ∧ ∃ j, oj = some j ∧ (p.timers.any fun t => t.id == j.id) = true ∧ j.small = false) ∨
      (q.smalls.length ≤ k ∧ tk' = tk + 1 ∧ ∃ j, oj = some j ∧ (p.timers.any fun t => t.id == j.id) = false ∧ j.small = false ∧ q.tasks[tk]? = some j) ∨
      (q.smalls.length ≤ k ∧ tk' = tk ∧ oj = none)) := by
  obtain ⟨n1, n2, n3, n4, n5, n6⟩ := nodup_parts hr
  have hx := next_right hr h1 h2
  by_cases hk : k < q.smalls.length
  · have e : p.smalls = q.smalls[k] :: q.smalls.drop (k + 1) := by rw [hs, List.drop_eq_getElem_cons hk]
    have en : next p til = ({ p with smalls := q.smalls.drop (k + 1) }, some q.smalls[k]) := by
      obtain ⟨now, nxt, tasks, smalls, timers⟩ := p
      simp only at e
      subst e
      rfl
    rw [en] at hx
    exact ⟨_, _, tk, en, hx.1, hx.2.2, rfl, ht, htk, .inl ⟨hk, rfl, _, rfl, List.getElem?_eq_getElem hk⟩⟩
  · have e : p.smalls = [] := by rw [hs]; exact List.drop_eq_nil_of_le (by omega)
    have e1 : q.smalls.drop (k + 1) = [] := List.drop_eq_nil_of_le (by omega)
    rcases next_cases til e with ⟨t, r, et, hc, en⟩ | ⟨j, s, ej, en⟩ | ⟨ej, en, hd⟩ <;> rw [en] at hx
    · refine ⟨_, _, tk, en, hx.1, hx.2.2, by rw [e1]; exact e, ht, htk, .inr (.inl ⟨by omega, rfl, _, rfl, ?_, rfl⟩)⟩
      rw [et]
      simp [fire]
    · have hlt : tk < q.tasks.length := by
        rw [ht] at ej
        have := congrArg List.length ej
        simp at this
        omega
      rw [ht, List.drop_eq_getElem_cons hlt] at ej
      injection ej with ej1 ej2
      refine ⟨_, _, tk + 1, en, hx.1, hx.2.2, by rw [e1]; exact e, ej2.symm, by omega, .inr (.inr (.inl ⟨by omega, rfl, _, rfl, ?_, ?_, by rw [← ej1]; exact List.getElem?_eq_getElem hlt⟩))⟩
      · have hm : j ∈ p.tasks := by rw [ht, List.drop_eq_getElem_cons hlt, ej1]; simp
        exact any_no (fun t ht => n5 j hm t ht)
      · have hm : j ∈ p.tasks := by rw [ht, List.drop_eq_getElem_cons hlt, ej1]; simp
        have := hr.tsk j hm
        simp [taskOk] at this
        exact this.1
    · exact ⟨_, _, tk, en, hx.1, hx.2.2, by rw [e1]; exact e, ht, htk, .inr (.inr (.inr ⟨by omega, rfl, rfl⟩))⟩
theorem times_cases {p : Loop} {til : Int} (hr : Right p) (h1 : p.now ≤ til) (h2 : til ≤ most) :
    ∃ o oj, next p til = (o, oj) ∧ Right o ∧ o.now ≤ til ∧
     ((oj = none ∧ o.now = til ∧ o.tasks = [] ∧ o.smalls = [] ∧ ∀ t r, o.timers = t :: r → til < t.due) ∨
      (∃ j, oj = some j ∧ j.small = true ∧ j.src = 0) ∨
      (∃ j, oj = some j ∧ p.smalls = [] ∧ j.small = false ∧ ∀ t ∈ p.timers, j.id ≠ t.id) ∨
      (∃ j t r, oj = some j ∧ p.smalls = [] ∧ j.small = false ∧ j.src = 3 ∧ p.timers = t :: r ∧ j.id = t.id ∧ t.due ≤ o.now)) := by
  obtain ⟨n1, n2, n3, n4, n5, n6⟩ := nodup_parts hr
  have hx := next_right hr h1 h2
  cases e : p.smalls with
  | cons j r =>
    have en : next p til = ({ p with smalls := r }, some j) := by
      obtain ⟨now, nxt, tasks, smalls, timers⟩ := p
      simp only at e
      subst e
      rfl
    rw [en] at hx
    have := hr.sml j (by rw [e]; simp)
    simp [smallOk] at this
    exact ⟨_, _, en, hx.1, hx.2.2, .inr (.inl ⟨j, rfl, this.1, this.2⟩)⟩
  | nil =>
    rcases next_cases til e with ⟨t, r, et, hc, en⟩ | ⟨j, s, ej, en⟩ | ⟨ej, en, hd⟩ <;> rw [en] at hx
    · refine ⟨_, _, en, hx.1, hx.2.2, .inr (.inr (.inr ⟨_, t, r, rfl, rfl, rfl, rfl, et, rfl, ?_⟩))⟩
      simp only [fire]
      omega
    · have hm : j ∈ p.tasks := by rw [ej]; simp
      have := hr.tsk j hm
      simp [taskOk] at this
      exact ⟨_, _, en, hx.1, hx.2.2, .inr (.inr (.inl ⟨j, rfl, rfl, this.1, fun t ht => n5 j hm t ht⟩))⟩
    · exact ⟨_, _, en, hx.1, hx.2.2, .inl ⟨rfl, rfl, ej, e, hd⟩⟩
end Loopy
