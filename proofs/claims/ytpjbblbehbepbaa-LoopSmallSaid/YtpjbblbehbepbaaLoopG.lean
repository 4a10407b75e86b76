/-
  What is asked leaves a loop that is right; a play. Conditions: none.
-/
import Derived.Test.YtpjbblbehbepbaaLoopF
namespace Loopy
set_option linter.unusedSimpArgs false
set_option linter.unusedVariables false
open Valu

theorem Right.add {q p : Loop} (h : Right q) (hn : q.next < most) (e1 : p.now = q.now) (e2 : p.next = q.next + 1) (hp : (ids p).Perm (q.next :: ids q)) (ht : ∀ j ∈ p.tasks, taskOk j = true) (hs : ∀ j ∈ p.smalls, smallOk j = true)
    (hr : ∀ t ∈ p.timers, timerOk q.now t = true) (ho : p.timers.Pairwise Lt) (l1 : p.tasks.length ≤ 100) (l2 : p.smalls.length ≤ 100) (l3 : p.timers.length ≤ 100) : Right p :=
  ⟨by rw [e1]; exact h.now0, by rw [e1]; exact h.now1, by rw [e2]; have := h.nxt0; omega, by rw [e2]; omega, fun n hm => by
    rw [e2]
    rcases List.mem_cons.1 (hp.subset hm) with e | h1
    · have := h.nxt0; omega
    · have := h.idr n h1; omega,
  hp.symm.nodup (List.nodup_cons.2 ⟨fun hm => by have := h.idr _ hm; omega, h.nod⟩), ht, hs, by rw [e1]; exact hr, ho, l1, l2, l3⟩
theorem Right.drop {q p : Loop} (h : Right q) (h1 : p.tasks = q.tasks) (h2 : p.smalls = q.smalls) (h3 : p.timers.Sublist q.timers) (h4 : p.now = q.now) (h5 : p.next = q.next) : Right p := by
  have hs : (ids p).Sublist (ids q) := by
    unfold ids
    rw [h1, h2]
    exact (List.Sublist.refl _).append ((List.Sublist.refl _).append (h3.map _))
  have e1 := h3.length_le
  exact ⟨by rw [h4]; exact h.now0, by rw [h4]; exact h.now1, by rw [h5]; exact h.nxt0, by rw [h5]; exact h.nxt1, fun n hn => by rw [h5]; exact h.idr n (hs.subset hn), hs.nodup h.nod,
    fun j hj => h.tsk j (h1 ▸ hj), fun j hj => h.sml j (h2 ▸ hj), fun t ht => by rw [h4]; exact h.tmr t (h3.subset ht), h.srt.sublist h3, by rw [h1]; exact h.l1, by rw [h2]; exact h.l2, by have := h.l3; omega⟩
theorem full_no {n : Nat} {q : Loop} (h : Right q) (hf : ¬ full n q = true) : n < 100 ∧ q.next < most := by
  unfold full at hf
  simp only [Bool.or_eq_true, decide_eq_true_iff, not_or] at hf
  have := h.nxt1
  omega
theorem post_right {q : Loop} (a : Ask) (small : Bool) (h : Right q) : Right (post q a small).1 := by
  unfold post
  split
  · split
    · exact h
    · next hf =>
      obtain ⟨f1, f2⟩ := full_no h hf
      refine h.add f2 rfl rfl ?_ h.tsk ?_ h.tmr h.srt h.l1 (by simp; omega) h.l3
      · unfold ids
        simp only [List.map_append, List.map_cons, List.map_nil, List.append_assoc]
        rw [← List.append_assoc, ← List.append_assoc (q.tasks.map _) (q.smalls.map _)]
        exact List.perm_middle
      · intro j hj
        rcases List.mem_append.1 hj with hj | hj
        · exact h.sml j hj
        · rw [List.mem_singleton] at hj; subst hj; rfl
  · split
    · exact h
    · next hw =>
      split
      · exact h
      · next hf =>
        obtain ⟨f1, f2⟩ := full_no h hf
        refine h.add f2 rfl rfl ?_ ?_ h.sml h.tmr h.srt (by simp; omega) h.l2 h.l3
        · unfold ids
          simp only [List.map_append, List.map_cons, List.map_nil, List.append_assoc]
          exact List.perm_middle
        · intro j hj
          rcases List.mem_append.1 hj with hj | hj
          · exact h.tsk j hj
          · rw [List.mem_singleton] at hj
            subst hj
            have : within a.src 1 4 = true := by simpa using hw
            simp [taskOk, this]
theorem timer_right {q : Loop} (a : Ask) (every : Bool) (h : Right q) : Right (timer q a every).1 := by
  unfold timer
  obtain ⟨lo, hlo⟩ : ∃ lo : Int, (if every then 1 else 0) = lo := ⟨_, rfl⟩
  obtain ⟨ev, hev⟩ : ∃ ev : Int, (if every then a.n else 0) = ev := ⟨_, rfl⟩
  have hl0 : 0 ≤ lo := by rw [← hlo]; split <;> omega
  have he0 : ev = a.n ∨ ev = 0 := by rw [← hev]; split <;> simp
  rw [hlo, hev]
  split
  · exact h
  · next hw =>
    split
    · exact h
    · next hm =>
      split
      · exact h
      · next hf =>
        obtain ⟨f1, f2⟩ := full_no h hf
        have hw2 : within a.n lo 1000000 = true := by simpa using hw
        rw [within_iff] at hw2
        have hx : timerOk q.now ⟨q.next, q.now + a.n, ev, 0, a.call⟩ = true := by
          refine timerOk_iff.2 ⟨⟨by simp only; omega, by simp only; omega⟩, ?_, by simp [most]⟩
          simp only
          unfold most
          omega
        refine h.add f2 rfl rfl ?_ h.tsk h.sml ?_ (lay_sorted h.srt ?_) h.l1 h.l2 (by simp only [lay_len]; omega)
        · unfold ids
          have hp := ((lay_perm ⟨q.next, q.now + a.n, ev, 0, a.call⟩ q.timers).map (·.id))
          have h1 := List.Perm.append_left (q.tasks.map (·.id)) (List.Perm.append_left (q.smalls.map (·.id)) hp)
          refine h1.trans ?_
          simp only [List.map_cons]
          rw [← List.append_assoc, ← List.append_assoc]
          exact List.perm_middle
        · intro t ht
          rcases lay_mem.1 ht with rfl | ht
          · exact hx
          · exact h.tmr t ht
        · intro x hx e
          simp only at e
          have := h.idr x.id (by unfold ids; simp only [List.mem_append]; exact .inr (.inr (List.mem_map_of_mem hx)))
          omega
theorem cancel_right {q : Loop} (n : Int) (h : Right q) : Right (cancel q n).1 := by
  unfold cancel
  split
  · exact h
  · exact h.drop rfl rfl (List.eraseIdx_sublist _ _) rfl rfl
theorem doAsk_right {q : Loop} (a : Ask) (h : Right q) : Right (doAsk q a).1 := by
  unfold doAsk
  split
  · exact post_right a _ h
  · split
    · exact post_right a _ h
    · split
      · exact timer_right a _ h
      · split
        · exact timer_right a _ h
        · exact cancel_right _ h
theorem zero_right : Right zero := (check_iff zero).1 (by decide)
theorem ask_right (q : Loop) (a : Ask) : Right (ask q a).1 := by
  unfold ask
  split
  · next hc =>
    split
    · split
      · exact doAsk_right a ((check_iff q).1 hc)
      · exact zero_right
    · exact zero_right
  · exact zero_right

/-- to run until til: no more than k jobs. -/
def run (til : Int) : Nat → Loop → List Job → Loop × List Job
  | 0, q, out => (q, out)
  | k + 1, q, out => match (next q til).2 with
    | some j => run til k (next q til).1 (out ++ [j])
    | none => ((next q til).1, out)
def goes (q : Loop) (n : Int) : Bool := within n 0 1000000 && decide (q.now + n ≤ 1000000000)
def stepA (s : Loop × List Job) (a : Ask) : Loop × List Job :=
  if a.what = 6 then (if goes s.1 a.n then run (s.1.now + a.n) (300 - s.2.length) s.1 s.2 else s)
  else (if (ask s.1 a).2.2 = 0 then ((ask s.1 a).1, s.2) else s)
def plays (l : List Ask) : Loop × List Job := l.foldl stepA (zero, [])
def play (l : List Ask) : List Job × Loop × Nat :=
  if 200 < l.length then ([], zero, 2) else if (l.any fun a => !within a.what 1 6) then ([], zero, 3) else ((plays l).2, (plays l).1, 0)
theorem run_some {til : Int} {q : Loop} {out : List Job} {j : Job} (hl : out.length < 300) (h : (next q til).2 = some j) : run til (300 - out.length) q out = run til (300 - (out ++ [j]).length) (next q til).1 (out ++ [j]) := by
  obtain ⟨m, hm⟩ : ∃ m, 300 - out.length = m + 1 := ⟨300 - out.length - 1, by omega⟩
  rw [hm, show 300 - (out ++ [j]).length = m from by simp; omega]
  rw [run, h]
theorem run_none {til : Int} {q : Loop} {out : List Job} (hl : out.length < 300) (h : (next q til).2 = none) : run til (300 - out.length) q out = ((next q til).1, out) := by
  obtain ⟨m, hm⟩ : ∃ m, 300 - out.length = m + 1 := ⟨300 - out.length - 1, by omega⟩
  rw [hm, run, h]
theorem run_full {til : Int} {q : Loop} {out : List Job} (hl : ¬ out.length < 300) : run til (300 - out.length) q out = (q, out) := by
  rw [show 300 - out.length = 0 from by omega]; rfl
theorem run_right {til : Int} (h2 : til ≤ most) : ∀ (k : Nat) (q : Loop) (out : List Job), Right q → q.now ≤ til → Right (run til k q out).1
  | 0, _, _, h, _ => h
  | k + 1, q, out, h, h1 => by
    have hn := next_right h h1 h2
    rw [run]
    split
    · exact run_right h2 k _ _ hn.1 hn.2.2
    · exact hn.1
theorem stepA_right {s : Loop × List Job} (a : Ask) (h : Right s.1) : Right (stepA s a).1 := by
  unfold stepA
  split
  · split
    · next hg =>
      simp only [goes, Bool.and_eq_true, within_iff, decide_eq_true_iff] at hg
      exact run_right (by unfold most; omega) _ _ _ h (by omega)
    · exact h
  · split
    · exact ask_right _ _
    · exact h
theorem plays_step {l : List Ask} {k : Nat} {a : Ask} (h : l[k]? = some a) : plays (l.take (k + 1)) = stepA (plays (l.take k)) a := by
  unfold plays
  rw [List.take_add_one, h]
  simp [List.foldl_append]
theorem foldA_right : ∀ (l : List Ask) (s : Loop × List Job), Right s.1 → Right (l.foldl stepA s).1
  | [], _, h => h
  | a :: l, s, h => foldA_right l _ (stepA_right a h)
theorem plays_right (l : List Ask) : Right (plays l).1 := foldA_right l _ zero_right
theorem run_len {til : Int} : ∀ (k : Nat) (q : Loop) (out : List Job), (run til k q out).2.length ≤ out.length + k
  | 0, _, _ => by simp [run]
  | k + 1, q, out => by
    rw [run]
    split
    · exact Nat.le_trans (run_len k _ _) (by simp; omega)
    · simp
theorem stepA_len {s : Loop × List Job} (a : Ask) (h : s.2.length ≤ 300) : (stepA s a).2.length ≤ 300 := by
  unfold stepA
  split
  · split
    · exact Nat.le_trans (run_len _ _ _) (by omega)
    · exact h
  · split <;> exact h
theorem foldA_len : ∀ (l : List Ask) (s : Loop × List Job), s.2.length ≤ 300 → (l.foldl stepA s).2.length ≤ 300
  | [], _, h => h
  | a :: l, s, h => foldA_len l _ (stepA_len a h)
theorem plays_len (l : List Ask) : (plays l).2.length ≤ 300 := foldA_len l _ (by simp)
end Loopy
