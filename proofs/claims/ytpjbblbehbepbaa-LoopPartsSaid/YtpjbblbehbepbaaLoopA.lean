/-
  Laws of the order of timers. Conditions: none.
-/
import Derived.Test.YtpjbblbehbepbaaLoopy
namespace Loopy
set_option linter.unusedSimpArgs false
set_option linter.unusedVariables false
open Valu

def Lt (a b : Timer) : Prop := a.due < b.due ∨ (a.due = b.due ∧ a.id < b.id)
theorem before_lt {a b : Timer} : before a b < 0 ↔ Lt a b := by
  unfold before Lt
  have h1 := @compareInt_lt a.due b.due
  have h2 := @compareInt_eq a.due b.due
  have h3 := @compareInt_lt a.id b.id
  split
  · next h => rw [h3]; have := h2.1 h; omega
  · next h =>
    rw [h1]
    have : a.due ≠ b.due := fun e => h (h2.2 e)
    omega
theorem before_zero {a b : Timer} : before a b = 0 ↔ a.due = b.due ∧ a.id = b.id := by
  unfold before
  have h2 := @compareInt_eq a.due b.due
  have h4 := @compareInt_eq a.id b.id
  split
  · next h => rw [h4]; have := h2.1 h; omega
  · next h =>
    have : a.due ≠ b.due := fun e => h (h2.2 e)
    constructor
    · intro e; exact absurd e h
    · intro e; omega
theorem Lt.trans {a b c : Timer} (h : Lt a b) (k : Lt b c) : Lt a c := by unfold Lt at *; omega
theorem Lt.total (a b : Timer) : Lt a b ∨ Lt b a ∨ (a.due = b.due ∧ a.id = b.id) := by unfold Lt; omega

theorem rising_iff (now : Int) : ∀ (o : Option Timer) (l : List Timer), rising now o l = true ↔ (∀ t ∈ l, timerOk now t = true) ∧ l.Pairwise Lt ∧ (∀ u, o = some u → ∀ t ∈ l, Lt u t)
  | o, [] => by simp [rising]
  | none, t :: r => by
    rw [rising, Bool.and_eq_true, rising_iff now (some t) r]
    constructor
    · rintro ⟨h1, h2, h3, h4⟩
      refine ⟨?_, List.pairwise_cons.2 ⟨h4 t rfl, h3⟩, by simp⟩
      intro x hx
      rcases List.mem_cons.1 hx with rfl | hx
      · exact h1
      · exact h2 x hx
    · rintro ⟨h1, h2, _⟩
      rw [List.pairwise_cons] at h2
      refine ⟨h1 t (by simp), fun x hx => h1 x (by simp [hx]), h2.2, ?_⟩
      intro u hu
      injection hu with hu
      subst hu
      exact h2.1
  | some u, t :: r => by
    rw [rising, Bool.and_eq_true, Bool.and_eq_true, decide_eq_true_iff, before_lt, rising_iff now (some t) r]
    constructor
    · rintro ⟨⟨h1, h0⟩, h2, h3, h4⟩
      refine ⟨?_, List.pairwise_cons.2 ⟨h4 t rfl, h3⟩, ?_⟩
      · intro x hx
        rcases List.mem_cons.1 hx with rfl | hx
        · exact h1
        · exact h2 x hx
      · intro v hv
        injection hv with hv
        subst hv
        intro x hx
        rcases List.mem_cons.1 hx with rfl | hx
        · exact h0
        · exact h0.trans (h4 t rfl x hx)
    · rintro ⟨h1, h2, h3⟩
      rw [List.pairwise_cons] at h2
      refine ⟨⟨h1 t (by simp), h3 u rfl t (by simp)⟩, fun x hx => h1 x (by simp [hx]), h2.2, ?_⟩
      intro v hv
      injection hv with hv
      subst hv
      exact h2.1
theorem lay_mem {t x : Timer} : ∀ {l : List Timer}, x ∈ lay l t ↔ x = t ∨ x ∈ l
  | [] => by simp [lay]
  | u :: r => by
    unfold lay
    split
    · rw [List.mem_cons, lay_mem, List.mem_cons]
      constructor
      · rintro (h | h | h)
        · exact .inr (.inl h)
        · exact .inl h
        · exact .inr (.inr h)
      · rintro (h | h | h)
        · exact .inr (.inl h)
        · exact .inl h
        · exact .inr (.inr h)
    · rw [List.mem_cons]
theorem lay_sorted {t : Timer} : ∀ {l : List Timer}, l.Pairwise Lt → (∀ x ∈ l, x.id ≠ t.id) → (lay l t).Pairwise Lt
  | [], _, _ => by simp [lay]
  | u :: r, h, hn => by
    unfold lay
    rw [List.pairwise_cons] at h
    split
    · next hu =>
      refine List.pairwise_cons.2 ⟨?_, lay_sorted h.2 (fun x hx => hn x (by simp [hx]))⟩
      intro x hx
      rcases lay_mem.1 hx with rfl | hx
      · exact before_lt.1 hu
      · exact h.1 x hx
    · next hu =>
      have htu : Lt t u := by
        rcases Lt.total t u with k | k | k
        · exact k
        · exact absurd (before_lt.2 k) hu
        · exact absurd k.2.symm (hn u (by simp))
      refine List.pairwise_cons.2 ⟨?_, List.pairwise_cons.2 h⟩
      intro x hx
      rcases List.mem_cons.1 hx with rfl | hx
      · exact htu
      · exact htu.trans (h.1 x hx)
theorem lay_len (t : Timer) : ∀ l : List Timer, (lay l t).length = l.length + 1
  | [] => rfl
  | u :: r => by
    unfold lay
    split
    · simp [lay_len t r]
    · simp
theorem fresh_iff (next : Int) : ∀ (seen l : List Int), fresh next seen l = true ↔ (∀ n ∈ l, 0 ≤ n ∧ n < next) ∧ l.Nodup ∧ (∀ n ∈ l, n ∉ seen)
  | seen, [] => by simp [fresh]
  | seen, n :: r => by
    rw [fresh, Bool.and_eq_true, Bool.and_eq_true, within_iff, fresh_iff next (n :: seen) r]
    simp only [List.mem_cons, List.nodup_cons, not_or, Bool.not_eq_true', List.contains_eq_mem, decide_eq_false_iff_not]
    constructor
    · rintro ⟨⟨h1, h2⟩, h3, h4, h5⟩
      refine ⟨?_, ⟨fun hm => (h5 n hm).1 rfl, h4⟩, ?_⟩
      · rintro x (rfl | hx)
        · omega
        · exact h3 x hx
      · rintro x (rfl | hx)
        · exact h2
        · exact (h5 x hx).2
    · rintro ⟨h1, ⟨h2, h3⟩, h4⟩
      refine ⟨⟨by have := h1 n (.inl rfl); omega, h4 n (.inl rfl)⟩, fun x hx => h1 x (.inr hx), h3, fun x hx => ⟨fun e => h2 (e ▸ hx), h4 x (.inr hx)⟩⟩
end Loopy
