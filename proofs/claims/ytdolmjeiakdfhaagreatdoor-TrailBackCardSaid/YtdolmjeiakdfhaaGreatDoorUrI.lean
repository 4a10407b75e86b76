/-
  Encoded and decoded, plain: it is as it was. Conditions: none.
-/
import Derived.Test.YtdolmjeiakdfhaaGreatDoorUrl
namespace Urly
set_option linter.unusedSimpArgs false
set_option linter.unusedVariables false
/-- a property of each byte, by trying all of them. -/
theorem byte_all {p : UInt8 → Prop} [DecidablePred p] (h : ∀ n, n < 256 → p (UInt8.ofNat n)) (c : UInt8) : p c := by
  have := h c.toNat c.toNat_lt
  rwa [UInt8.ofNat_toNat] at this
theorem decN_fuel : ∀ (n m : Nat) (s : Bs), s.length ≤ n → s.length ≤ m → decN n s = decN m s
  | 0, 0, _, _, _ => rfl
  | 0, m + 1, s, h, _ => by
    have : s = [] := List.eq_nil_of_length_eq_zero (by omega)
    subst this; simp [decN]
  | n + 1, 0, s, _, h => by
    have : s = [] := List.eq_nil_of_length_eq_zero (by omega)
    subst this; simp [decN]
  | n + 1, m + 1, s, hn, hm => by
    unfold decN
    by_cases h : s = []
    · rw [if_pos h, if_pos h]
    · rw [if_neg h, if_neg h]
      cases hr : read s with
      | none => rfl
      | some x =>
        obtain ⟨c, t, r⟩ := x
        have := read_lt hr
        simp only
        rw [decN_fuel n m r (by omega) (by omega)]
theorem dec_nil : dec [] = some [] := rfl
theorem dec_step {s : Bs} (h : s ≠ []) : dec s = match read s with
    | none => none
    | some (c, _, r) => (dec r).map (c :: ·) := by
  have hl : 0 < s.length := List.length_pos_iff.2 h
  obtain ⟨n, hn⟩ : ∃ n, s.length = n + 1 := ⟨s.length - 1, by omega⟩
  unfold dec
  rw [hn]
  conv => lhs; unfold decN
  rw [if_neg h]
  cases hr : read s with
  | none => rfl
  | some x =>
    obtain ⟨c, t, r⟩ := x
    have := read_lt hr
    simp only
    rw [decN_fuel n r.length r (by omega) (Nat.le_refl _)]
theorem plain_ne (c : UInt8) : plain c = true → c ≠ 37 := byte_all (p := fun c => plain c = true → c ≠ 37) (by decide +kernel) c
theorem triple_val (c : UInt8) : value (hex (c.toNat / 16)) = some (c.toNat / 16) ∧ value (hex (c.toNat % 16)) = some (c.toNat % 16) ∧ UInt8.ofNat (c.toNat / 16 * 16 + c.toNat % 16) = c :=
  byte_all (p := fun c => value (hex (c.toNat / 16)) = some (c.toNat / 16) ∧ value (hex (c.toNat % 16)) = some (c.toNat % 16) ∧ UInt8.ofNat (c.toNat / 16 * 16 + c.toNat % 16) = c) (by decide +kernel) c
theorem read_one {c : UInt8} (h : c ≠ 37) (t : Bs) : read (c :: t) = some (c, false, t) := by unfold read; simp [h]
theorem read_triple (c : UInt8) (t : Bs) : read (triple c ++ t) = some (c, true, t) := by
  obtain ⟨h1, h2, h3⟩ := triple_val c
  show read (37 :: hex (c.toNat / 16) :: hex (c.toNat % 16) :: t) = _
  unfold read
  simp only [ne_eq, not_true_eq_false, if_false, h1, h2, h3]
theorem enc_cons (c : UInt8) (r : Bs) : enc (c :: r) = (if plain c then [c] else triple c) ++ enc r := by unfold enc; rw [List.flatMap_cons]
theorem dec_enc : ∀ s : Bs, dec (enc s) = some s
  | [] => rfl
  | c :: r => by
    rw [enc_cons]
    have ih := dec_enc r
    by_cases h : plain c = true
    · rw [if_pos h, List.singleton_append, dec_step (by simp), read_one (plain_ne c h)]
      simp [ih]
    · rw [if_neg h, dec_step (by simp [triple]), read_triple]
      simp [ih]
def set400 : Bs := [97, 98, 99, 100, 101, 102, 103, 104, 105, 106, 107, 108, 109, 110, 111, 112, 113, 114, 115, 116, 117, 118, 119, 120, 121, 122, 65, 66, 67, 68, 69, 70, 71, 72, 73, 74, 75, 76, 77, 78, 79, 80, 81, 82, 83, 84, 85, 86, 87, 88, 89, 90, 48, 49, 50, 51, 52, 53, 54, 55, 56, 57, 45, 46, 95, 126, 37]
theorem byte_in (c : UInt8) : ((if plain c then [c] else triple c).all set400.contains) = true := byte_all (p := fun c => ((if plain c then [c] else triple c).all set400.contains) = true) (by decide +kernel) c
theorem enc_in : ∀ s : Bs, (enc s).all set400.contains = true
  | [] => rfl
  | c :: r => by rw [enc_cons, List.all_append, byte_in, enc_in r]; rfl
theorem enc_len : ∀ s : Bs, (enc s).length ≤ 3 * s.length
  | [] => by simp [enc]
  | c :: r => by
    have := enc_len r
    rw [enc_cons, List.length_append, List.length_cons]
    split <;> simp [triple] <;> omega
end Urly
