/-
  What a check of a document tells: plain. Conditions: none.
-/
import Derived.Test.YtdommcjlpibpeaaDoorDom
namespace Domy
set_option linter.unusedSimpArgs false
set_option linter.unusedVariables false

/-- what is seen is a kid of a node. -/
def Seen (d : List Node) (sn : List Bool) : Prop := ∀ k : Nat, sn[k]? = some true → ∃ x, d[k]? = some x ∧ 0 ≤ x.parent ∧ x.parent < (d.length : Int)
theorem kidsIn_len (d : List Node) (i : Nat) : ∀ (l : List Int) (sn : List Bool), (kidsIn d i sn l).2.length = sn.length
  | [], _ => rfl
  | y :: l, sn => by
    rw [kidsIn]
    split
    · rfl
    · split
      · rfl
      · rw [kidsIn_len d i l]; simp
theorem kidsIn_seen {d : List Node} {i : Nat} (hi : i < d.length) : ∀ (l : List Int) (sn : List Bool), Seen d sn → Seen d (kidsIn d i sn l).2
  | [], _, h => h
  | y :: l, sn, h => by
    rw [kidsIn]
    split
    · exact h
    · next hn =>
      split
      · exact h
      · refine kidsIn_seen hi l _ ?_
        intro k hk
        by_cases e : k = y.toNat
        · subst e
          have hp : ((d[y.toNat]?).map (·.parent)) = some (i : Int) := by
            apply Classical.byContradiction
            intro hc
            exact hn (.inr (.inr (.inl hc)))
          cases hx : d[y.toNat]? with
          | none => rw [hx] at hp; simp at hp
          | some x =>
            rw [hx] at hp
            simp at hp
            exact ⟨x, rfl, by omega, by omega⟩
        · rw [List.getElem?_set_ne (by omega)] at hk
          exact h k hk
theorem kidsOut_seen {d : List Node} : ∀ (l : List Node) (i : Nat) (sn : List Bool), i + l.length ≤ d.length → Seen d sn → Seen d (kidsOut d i sn l).2 ∧ (kidsOut d i sn l).2.length = sn.length
  | [], _, _, _, h => ⟨h, rfl⟩
  | x :: l, i, sn, hi, h => by
    simp only [List.length_cons] at hi
    rw [kidsOut]
    split
    · exact ⟨kidsIn_seen (by omega) _ _ h, kidsIn_len _ _ _ _⟩
    · have := kidsOut_seen l (i + 1) (kidsIn d i sn x.kids).2 (by omega) (kidsIn_seen (by omega) _ _ h)
      exact ⟨this.1, by rw [this.2, kidsIn_len]⟩
theorem seenGo_zero : ∀ (sn : List Bool) (l : List Node), sn.length = l.length → seenGo sn l = 0 → ∀ (k : Nat) (x : Node), l[k]? = some x → x.parent = -1 ∨ sn[k]? = some true
  | [], [], _, _, k, x, h => by simp at h
  | [], y :: l, hl, _, _, _, _ => by simp at hl
  | s :: sn, [], hl, _, _, _, _ => by simp at hl
  | s :: sn, y :: l, hl, h, k, x, hx => by
    rw [seenGo] at h
    by_cases hc : y.parent ≠ -1 ∧ s = false
    · rw [if_pos hc] at h; simp at h
    · rw [if_neg hc] at h
      cases k with
      | zero =>
        simp at hx
        subst hx
        by_cases hp : y.parent = -1
        · exact .inl hp
        · refine .inr ?_
          cases s with
          | true => rfl
          | false => exact absurd ⟨hp, rfl⟩ hc
      | succ k =>
        simp at hx
        have := seenGo_zero sn l (by simpa using hl) h k x hx
        simpa using this
theorem kidsE_zero {d : List Node} (h : kidsE d = 0) : (∀ x ∈ d, x.parent = -1 ∨ (0 ≤ x.parent ∧ x.parent < (d.length : Int))) ∧ (d[0]?).map (·.parent) = some (-1) := by
  unfold kidsE at h
  split at h
  · next h1 => exact absurd h h1
  · split at h
    · simp at h
    · next h2 =>
      split at h
      · simp at h
      · next h3 =>
        have h0 : Seen d (List.replicate d.length false) := by
          intro k hk
          obtain ⟨h5, h6⟩ := List.getElem?_eq_some_iff.1 hk
          simp at h6
        have hs := kidsOut_seen (d := d) d 0 _ (by omega) h0
        have hz := seenGo_zero _ d (by rw [hs.2]; simp) (by simpa using h2)
        refine ⟨fun x hx => ?_, by simpa using h3⟩
        obtain ⟨k, hk⟩ := List.getElem?_of_mem hx
        rcases hz k x hk with h7 | h7
        · exact .inl h7
        · obtain ⟨y, hy, h8⟩ := hs.1 k h7
          rw [hk] at hy
          injection hy with hy
          subst hy
          exact .inr h8
theorem nodes_step {d : List Node} {i : Nat} {x : Node} (h : d[i]? = some x) : nodesGo i (d.drop i) = if (decide (x.kind = 1)) != (decide (i = 0)) then 3 else if one x ≠ 0 then one x else nodesGo (i + 1) (d.drop (i + 1)) := by
  obtain ⟨h1, h2⟩ := List.getElem?_eq_some_iff.1 h
  rw [List.drop_eq_getElem_cons h1, h2, nodesGo]
theorem ups_zero {d : List Node} : ∀ (m i : Nat), upsGo d i m = 0 → ∀ k : Nat, i ≤ k → k < i + m → up d (k : Int) ≤ d.length ∧ up d (k : Int) ≤ 40
  | 0, i, _, k, h1, h2 => by omega
  | m + 1, i, h, k, h1, h2 => by
    rw [upsGo] at h
    split at h
    · simp at h
    · split at h
      · simp at h
      · by_cases e : k = i
        · subst e; omega
        · exact ups_zero m (i + 1) h k (by omega) (by omega)
/-- what a document that is right is like. -/
structure Ok (d : List Node) : Prop where
  pos : 0 < d.length
  le : d.length ≤ 200
  par : ∀ x ∈ d, x.parent = -1 ∨ (0 ≤ x.parent ∧ x.parent < (d.length : Int))
  top : (d[0]?).map (·.parent) = some (-1)
  up : ∀ k : Nat, k < d.length → Domy.up d (k : Int) ≤ d.length ∧ Domy.up d (k : Int) ≤ 40
theorem check_zero {d : List Node} (h : check d = 0) : Ok d := by
  unfold check at h
  split at h
  · simp at h
  · next h1 =>
    split at h
    · simp at h
    · next h2 =>
      split at h
      · next h3 => exact absurd h h3
      · split at h
        · next h4 => exact absurd h h4
        · next h4 =>
          have hk := kidsE_zero (by simpa using h4)
          exact ⟨by omega, by omega, hk.1, hk.2, fun k hk => ups_zero _ _ h k (by omega) (by omega)⟩
end Domy
