/-
  A quoted text, step by step. Conditions: none.
-/
import Derived.Test.YtgeaphapnoiniaaDoorLex
namespace Lexy
theorem txtF_enough : ∀ (f g : Nat) (l : Bs), l.length ≤ f → l.length ≤ g → txtF f l = txtF g l := by
  intro f
  induction f with
  | zero =>
    intro g l hf hg
    have : l = [] := List.eq_nil_of_length_eq_zero (by omega)
    subst this
    cases g <;> simp [txtF]
  | succ f ih =>
    intro g l hf hg
    cases l with
    | nil => cases g <;> simp [txtF]
    | cons c r =>
      cases g with
      | zero => simp at hg
      | succ g =>
        simp only [List.length_cons] at hf hg
        simp only [txtF]
        by_cases h1 : (c == 34) = true
        · rw [if_pos h1, if_pos h1]
        rw [if_neg h1, if_neg h1]
        by_cases h2 : c.toNat < 32
        · rw [if_pos h2, if_pos h2]
        rw [if_neg h2, if_neg h2]
        by_cases h3 : (c == 92) = true
        · rw [if_pos h3, if_pos h3]
          cases esc r with
          | none => rfl
          | some bn =>
            obtain ⟨b, n⟩ := bn
            simp only
            rw [ih g (r.drop n) (by simp; omega) (by simp; omega)]
        · rw [if_neg h3, if_neg h3, ih g r (by omega) (by omega)]
theorem txt_nil : txt [] = none := by simp [txt, txtF]
theorem txt_cons (c : UInt8) (r : Bs) : txt (c :: r) =
    if c == 34 then some ([], 1)
    else if c.toNat < 32 then none
    else if c == 92 then
      match esc r with
      | none => none
      | some (b, n) => match txt (r.drop n) with
        | none => none
        | some (t, m) => some (b :: t, 1 + n + m)
    else match txt r with
      | none => none
      | some (t, m) => some (c :: t, 1 + m) := by
  have e : ∀ n, txt (r.drop n) = txtF r.length (r.drop n) := fun n => txtF_enough _ _ _ (Nat.le_refl _) (by simp)
  have e0 : txt r = txtF r.length r := rfl
  simp only [e, e0]
  rfl
/-- what is told in the end, some of it told already. -/
def fin (acc : Bs) (k : Nat) (l : Bs) : Option (Bs × Nat) := (txt l).map fun x => (acc ++ x.1, k + x.2)
theorem fin_quote (acc : Bs) (k : Nat) (r : Bs) : fin acc k (34 :: r) = some (acc, k + 1) := by
  unfold fin; rw [txt_cons]; simp
theorem fin_low (acc : Bs) (k : Nat) {c : UInt8} (r : Bs) (h : c.toNat < 32) : fin acc k (c :: r) = none := by
  unfold fin; rw [txt_cons, if_neg (by intro hc; rw [eq_of_beq hc] at h; simp at h), if_pos h]; rfl
theorem fin_bad (acc : Bs) (k : Nat) (r : Bs) (h : esc r = none) : fin acc k (92 :: r) = none := by
  unfold fin; rw [txt_cons, if_neg (by decide), if_neg (by decide), if_pos (by decide), h]; rfl
theorem fin_esc (acc : Bs) (k : Nat) (r : Bs) {b : UInt8} {n : Nat} (h : esc r = some (b, n)) : fin acc k (92 :: r) = fin (acc ++ [b]) (k + 1 + n) (r.drop n) := by
  unfold fin; rw [txt_cons, if_neg (by decide), if_neg (by decide), if_pos (by decide), h]
  simp only
  cases txt (r.drop n) with
  | none => rfl
  | some x => simp; omega
theorem fin_byte (acc : Bs) (k : Nat) {c : UInt8} (r : Bs) (h1 : c ≠ 34) (h2 : ¬ c.toNat < 32) (h3 : c ≠ 92) : fin acc k (c :: r) = fin (acc ++ [c]) (k + 1) r := by
  unfold fin; rw [txt_cons, if_neg (by simpa using h1), if_neg h2, if_neg (by simpa using h3)]
  cases txt r with
  | none => rfl
  | some x => simp; omega
theorem fin_nil (acc : Bs) (k : Nat) : fin acc k [] = none := by unfold fin; rw [txt_nil]; rfl
end Lexy
