/-
  The laws of paths, plain. Conditions: none.
-/
import Derived.Test.YtdommcjlpibpeaaDoorEvt
namespace Evy
open Domy
set_option linter.unusedSimpArgs false
set_option linter.unusedVariables false

theorem chain_more {d : List Node} : ∀ (m : Nat) (n : Int), upGo d m n < m → chainGo d (m + 1) n = chainGo d m n
  | 0, n, h => absurd h (Nat.not_lt_zero _)
  | m + 1, n, h => by
    rw [upGo] at h
    conv => lhs; rw [chainGo]
    conv => rhs; rw [chainGo]
    cases hx : d[n.toNat]? with
    | none => rfl
    | some x =>
      rw [hx] at h
      simp only at h ⊢
      by_cases hp : 0 ≤ x.parent
      · rw [if_pos hp] at h
        rw [if_pos hp, if_pos hp, chain_more m x.parent (by omega)]
      · rw [if_neg hp, if_neg hp]
theorem chain_len {d : List Node} : ∀ (m : Nat) (n : Int), (chainGo d m n).length ≤ m
  | 0, _ => by simp [chainGo]
  | m + 1, n => by
    rw [chainGo, List.length_cons]
    cases hx : d[n.toNat]? with
    | none => simp
    | some x =>
      simp only
      split
      · have := chain_len (d := d) m x.parent; omega
      · simp
theorem chain_eq {d : List Node} (ok : Ok d) {n : Int} {x : Node} (h0 : 0 ≤ n) (hx : d[n.toNat]? = some x) : chain d n = n :: (if 0 ≤ x.parent then chain d x.parent else []) := by
  have h1 : n.toNat < d.length := (List.getElem?_eq_some_iff.1 hx).1
  have hu := (ok.up n.toNat h1).1
  rw [show ((n.toNat : Nat) : Int) = n by omega] at hu
  unfold up at hu
  rw [upGo, hx] at hu
  simp only at hu
  unfold chain
  conv => lhs; rw [chainGo, hx]
  simp only
  by_cases hp : 0 ≤ x.parent
  · rw [if_pos hp, if_pos hp]
    rw [if_pos hp] at hu
    rw [chain_more d.length x.parent (by omega)]
  · rw [if_neg hp, if_neg hp]
theorem chain_drop {d : List Node} (ok : Ok d) : ∀ (j : Nat) (n y : Int), 0 ≤ n → n < d.length → (chain d n)[j]? = some y → 0 ≤ y ∧ y < d.length ∧ chain d y = (chain d n).drop j
  | 0, n, y, h0, h1, h => by
    obtain ⟨x, hx⟩ : ∃ x, d[n.toNat]? = some x := ⟨_, List.getElem?_eq_getElem (by omega)⟩
    rw [chain_eq ok h0 hx] at h
    simp at h
    subst h
    exact ⟨h0, h1, by simp⟩
  | j + 1, n, y, h0, h1, h => by
    obtain ⟨x, hx⟩ : ∃ x, d[n.toNat]? = some x := ⟨_, List.getElem?_eq_getElem (by omega)⟩
    rw [chain_eq ok h0 hx] at h ⊢
    rw [List.getElem?_cons_succ] at h
    by_cases hp : 0 ≤ x.parent
    · rw [if_pos hp] at h ⊢
      have hpar := ok.par x (List.mem_of_getElem? hx)
      have := chain_drop ok j x.parent y hp (by omega) h
      rw [List.drop_succ_cons]
      exact this
    · rw [if_neg hp] at h; simp at h
theorem chain_next {d : List Node} (ok : Ok d) {j : Nat} {n y z : Int} (h0 : 0 ≤ n) (h1 : n < d.length) (hy : (chain d n)[j]? = some y) (hz : (chain d n)[j + 1]? = some z) : (d[y.toNat]?).map (·.parent) = some z := by
  obtain ⟨g0, g1, hd⟩ := chain_drop ok j n y h0 h1 hy
  obtain ⟨x, hx⟩ : ∃ x, d[y.toNat]? = some x := ⟨_, List.getElem?_eq_getElem (by omega)⟩
  have he := chain_eq ok g0 hx
  have h2 : (chain d y)[1]? = some z := by rw [hd, List.getElem?_drop]; exact hz
  rw [he, List.getElem?_cons_succ] at h2
  by_cases hp : 0 ≤ x.parent
  · rw [if_pos hp] at h2
    have hpar := ok.par x (List.mem_of_getElem? hx)
    obtain ⟨x2, hx2⟩ : ∃ x2, d[x.parent.toNat]? = some x2 := ⟨_, List.getElem?_eq_getElem (by omega)⟩
    rw [chain_eq ok hp hx2] at h2
    simp at h2
    rw [hx, Option.map_some, h2]
  · rw [if_neg hp] at h2; simp at h2
theorem chain_inj {d : List Node} (ok : Ok d) {i j : Nat} {n y : Int} (h0 : 0 ≤ n) (h1 : n < d.length) (hi : (chain d n)[i]? = some y) (hj : (chain d n)[j]? = some y) : i = j := by
  have e1 := (chain_drop ok i n y h0 h1 hi).2.2
  have e2 := (chain_drop ok j n y h0 h1 hj).2.2
  have l1 := (List.getElem?_eq_some_iff.1 hi).1
  have l2 := (List.getElem?_eq_some_iff.1 hj).1
  have := congrArg List.length (e1.symm.trans e2)
  simp at this
  omega
/-- what a path is like. -/
structure Pa (d : List Node) (n : Int) (p : List Int) : Prop where
  ok : Ok d
  chk : check d = 0
  lo : 0 ≤ n
  hi : n < d.length
  eq : p = (chain d n).reverse
  top : p[0]? = some 0
theorem pa_of {d : List Node} {n : Int} {p : List Int} (h : path d n = (p, 0)) : Pa d n p := by
  unfold path at h
  by_cases h1 : check d = 0
  · rw [if_neg (by simp [h1])] at h
    split at h
    · simp at h
    · next h2 =>
      split at h
      · simp at h
      · next h3 =>
        injection h with h _
        subst h
        exact ⟨check_zero h1, h1, by omega, by omega, rfl, by simpa using h3⟩
  · rw [if_pos h1] at h
    injection h with _ h
    exact absurd h h1
theorem path_no {d : List Node} {n : Int} (h : (path d n).2 ≠ 0) : (path d n).1 = [] := by
  unfold path at h ⊢
  split
  · rfl
  · split
    · rfl
    · split
      · rfl
      · next h1 h2 h3 => rw [if_neg h1, if_neg h2, if_neg h3] at h; exact absurd rfl h
namespace Pa
variable {d : List Node} {n : Int} {p : List Int}
theorem at_ (h : Pa d n p) {i : Nat} (hi : i < p.length) : p[i]? = (chain d n)[p.length - 1 - i]? := by
  have e := h.eq
  have hl : p.length = (chain d n).length := by rw [e]; simp
  rw [hl, e, List.getElem?_reverse (by rw [← hl]; exact hi)]
theorem pos (h : Pa d n p) : 0 < p.length := by
  have := (List.getElem?_eq_some_iff.1 h.top).1; exact this
theorem len (h : Pa d n p) : p.length ≤ 201 := by
  rw [h.eq, List.length_reverse]
  unfold chain
  have := chain_len (d := d) (d.length + 1) n
  have := h.ok.le
  omega
theorem last (h : Pa d n p) : p[p.length - 1]? = some n := by
  have := h.pos
  rw [h.at_ (by omega), show p.length - 1 - (p.length - 1) = 0 by omega]
  have h0 := h.lo
  have h1 := h.hi
  obtain ⟨x, hx⟩ : ∃ x, d[n.toNat]? = some x := ⟨_, List.getElem?_eq_getElem (by omega)⟩
  rw [chain_eq h.ok h0 hx]
  rfl
theorem range (h : Pa d n p) {i : Nat} {x : Int} (hx : p[i]? = some x) : 0 ≤ x ∧ x < d.length := by
  have hi := (List.getElem?_eq_some_iff.1 hx).1
  rw [h.at_ hi] at hx
  have := chain_drop h.ok _ n x h.lo h.hi hx
  exact ⟨this.1, this.2.1⟩
theorem parent (h : Pa d n p) {i : Nat} {x : Int} (hx : p[i + 1]? = some x) : (d[x.toNat]?).map (·.parent) = p[i]? := by
  have hi := (List.getElem?_eq_some_iff.1 hx).1
  obtain ⟨z, hz⟩ : ∃ z, p[i]? = some z := ⟨_, List.getElem?_eq_getElem (by omega)⟩
  rw [hz]
  rw [h.at_ hi] at hx
  rw [h.at_ (by omega)] at hz
  rw [show p.length - 1 - i = p.length - 1 - (i + 1) + 1 by omega] at hz
  exact chain_next h.ok h.lo h.hi hx hz
theorem inj (h : Pa d n p) {i j : Nat} {x : Int} (hi : p[i]? = some x) (hj : p[j]? = some x) : i = j := by
  have l1 := (List.getElem?_eq_some_iff.1 hi).1
  have l2 := (List.getElem?_eq_some_iff.1 hj).1
  rw [h.at_ l1] at hi
  rw [h.at_ l2] at hj
  have := chain_inj h.ok h.lo h.hi hi hj
  omega
theorem upto (h : Pa d n p) {k : Nat} {x : Int} (hx : p[k]? = some x) : path d x = (p.take (k + 1), 0) := by
  have hk := (List.getElem?_eq_some_iff.1 hx).1
  have hr := h.range hx
  have hx2 := hx
  rw [h.at_ hk] at hx2
  have hc := (chain_drop h.ok _ n x h.lo h.hi hx2).2.2
  have hl : (chain d n).length = p.length := by rw [h.eq]; simp
  have he : (chain d x).reverse = p.take (k + 1) := by
    rw [hc, h.eq, List.take_reverse, hl, List.length_reverse, hl, show p.length - 1 - k = p.length - (k + 1) by omega]
  unfold path
  rw [if_neg (by simp [h.chk]), if_neg (by omega), he, if_neg]
  simp [h.top]
end Pa
end Evy
