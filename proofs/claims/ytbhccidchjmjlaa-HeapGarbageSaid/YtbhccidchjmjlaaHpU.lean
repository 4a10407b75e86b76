/-
  What is swept with rings of garbage behind it, plain: alike what was, or too large. Conditions: none.
-/
import Derived.Test.YtbhccidchjmjlaaHpS
namespace Hepy
open Valu (V check)
set_option linter.unusedSimpArgs false
set_option linter.unusedVariables false
/-- a ring of one cell: a list of the root and of itself. -/
def ring (v : V) (n : Nat) : Cell := ⟨1, [], [v, ⟨4, n, []⟩]⟩
def grown (s : List Cell) (v : V) (m : Nat) : List Cell := s ++ (List.range m).map fun i => ring v (s.length + i)
theorem grown_len (s : List Cell) (v : V) (m : Nat) : (grown s v m).length = s.length + m := by unfold grown; simp
theorem grown_zero (s : List Cell) (v : V) : grown s v 0 = s := by unfold grown; simp
theorem grown_succ (s : List Cell) (v : V) (m : Nat) : grown s v (m + 1) = grown s v m ++ [ring v (s.length + m)] := by
  unfold grown
  rw [List.range_succ]
  simp
theorem at_grown {s : List Cell} {v : V} {m n : Nat} (hn : n < s.length) : at_ (grown s v m) n = at_ s n := by
  unfold at_ grown
  rw [List.getElem?_append_left hn]
theorem at_ring {s : List Cell} {v : V} {m i : Nat} (hi : i < m) : at_ (grown s v m) (s.length + i) = ring v (s.length + i) := by
  unfold at_ grown
  rw [List.getElem?_append_right (by omega), List.getElem?_map, show s.length + i - s.length = i by omega, List.getElem?_range hi]
  rfl
theorem has_grown {h : List Cell} (hs : Sound h) {l : List V} (hl : ∀ v ∈ l, Leads h v) (v : V) (m : Nat) : Has h (grown (swept h l) v m) l := by
  have H := has_swept hs hl
  exact ⟨fun n hn => by have := H.len n hn; rw [grown_len]; omega, fun n hn => by rw [at_grown (H.len n hn)]; exact H.eq n hn⟩
theorem right_grown {h : List Cell} (k : Right h) {v : V} (hf : fits h v = true) {m : Nat} (hle : h.length + m ≤ 300) : Right (grown (swept h [v]) v m) := by
  have hfl : [v].all (fits h) = true := by simp [hf]
  have hld : ∀ x ∈ [v], Leads h x := fun x hx => (fits_leads (List.all_eq_true.1 hfl x hx)).1
  have c := walked_came k.sound hld
  have H := has_grown k.sound hld v m
  have hcs : ∀ x ∈ grown (swept h [v]) v m, x = none_ ∨ (∃ n ∈ walked h [v], x = at_ h n) ∨ ∃ i, i < m ∧ x = ring v ((swept h [v]).length + i) := by
    intro x hx
    unfold grown at hx
    rcases List.mem_append.1 hx with hx | hx
    · unfold swept sweptW at hx
      obtain ⟨n, _, rfl⟩ := List.mem_map.1 hx
      by_cases hn : n ∈ walked h [v]
      · rw [if_pos hn]; exact .inr (.inl ⟨n, hn, rfl⟩)
      · rw [if_neg hn]; exact .inl rfl
    · obtain ⟨i, hi, rfl⟩ := List.mem_map.1 hx
      exact .inr (.inr ⟨i, List.mem_range.1 hi, rfl⟩)
  refine ⟨by rw [grown_len, swept_len]; exact hle, fun x hx => ?_, fun x hx => ?_⟩
  · rcases hcs x hx with rfl | ⟨n, hn, rfl⟩ | ⟨i, _, rfl⟩
    · simp [none_]
    · exact k.vl _ (at_mem (c.ok.lt n hn))
    · simp [ring]
  · rcases hcs x hx with rfl | ⟨n, hn, rfl⟩ | ⟨i, hi, rfl⟩
    · exact none_ok _
    · exact cell_has k hfl H hn
    · have f1 : fits (grown (swept h [v]) v m) v = true := by have := roots_has k hfl H; simpa using this
      have f2 : fits (grown (swept h [v]) v m) ⟨4, ((swept h [v]).length + i : Nat), []⟩ = true := by
        refine of_fits (by simp [check, swept_len]; omega) (fun _ => ?_)
        have e : (ref ⟨4, ((swept h [v]).length + i : Nat), []⟩).toNat = (swept h [v]).length + i := by simp [ref]; omega
        rw [e, at_ring hi, grown_len]
        exact ⟨by omega, by simp [ring]⟩
      unfold cellOk
      simp only [ring, Bool.and_eq_true, List.all_cons, List.all_nil, f1, f2]
      exact ⟨by simp [shape], by simp [rising], by simp⟩
theorem alike_grown {h : List Cell} {v : V} (ha : askedH h [v] = 0) (m : Nat) :
    alike h v (grown (swept h [v]) v m) v = if h.length + m ≤ 300 then (true, 0) else (false, 2) := by
  obtain ⟨k, hfl⟩ := asked_zero.1 ha
  have hld : ∀ x ∈ [v], Leads h x := fun x hx => (fits_leads (List.all_eq_true.1 hfl x hx)).1
  have H := has_grown k.sound hld v m
  have c1 := check_zero.2 k
  have hm1 : move h [v] = (moved h [v], movedR h [v], 0) := by unfold move; rw [if_neg (by simp [ha]), ]
  by_cases hle : h.length + m ≤ 300
  · rw [if_pos hle]
    have hr := right_grown k (by simpa using hfl) hle
    have a2 := asked_zero.2 ⟨hr, roots_has k hfl H⟩
    have c2 := check_zero.2 hr
    have hm2 : move (grown (swept h [v]) v m) [v] = (moved (grown (swept h [v]) v m) [v], movedR (grown (swept h [v]) v m) [v], 0) := by unfold move; rw [if_neg (by simp [a2])]
    have e := moved_has k.sound hld H
    unfold alike
    rw [if_neg (by simp [c1]), if_neg (by simp [c2]), hm1, hm2, if_neg (by simp), if_neg (by simp), walked_has k.sound hld H]
    simp [e.1]
  · rw [if_neg hle]
    have c2 : checkH (grown (swept h [v]) v m) = 2 := by unfold checkH; rw [if_pos (by rw [grown_len, swept_len]; omega)]
    unfold alike
    rw [if_neg (by simp [c1]), if_pos (by simp [c2]), c2]
end Hepy
