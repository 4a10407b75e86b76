/-
  The laws of places: a gap has no token, a token's own bytes are it. Conditions: none.
-/
import Derived.Test.YtgeaphapnoiniaaDoorLex
namespace Lexy

theorem skp_zero_take {l : Bs} (h : skp false l = 0) (n : Nat) : skp false (l.take n) = 0 := by
  cases l with
  | nil => simp [skp]
  | cons c r =>
    cases n with
    | zero => simp [skp]
    | succ n =>
      rw [List.take_succ_cons]
      simp only [skp] at h ⊢
      by_cases h1 : isBlank c = true
      · rw [if_pos h1] at h; omega
      · rw [if_neg h1] at h ⊢
        by_cases h2 : (c == 47 && r.head? == some 47) = true
        · rw [if_pos h2] at h; omega
        · rw [if_neg]
          intro h3
          apply h2
          simp only [Bool.and_eq_true] at h3 ⊢
          refine ⟨h3.1, ?_⟩
          cases n with
          | zero => simp at h3
          | succ n =>
            cases r with
            | nil => simp at h3
            | cons d q => simpa using h3.2

theorem gap_toks (l : Bs) (h : l.length ≤ 2000) : toks (l.take (skp false l)) = .ok [] := by
  unfold toks
  rw [if_neg (by simp; omega), toksR_eq, skp_own]
  have e : (l.take (skp false l)).drop (skp false l) = [] := by simp
  rw [e]

theorem own_toks {l : Bs} {t : Tk} {n : Nat} (hz : skp false l = 0) (hn : next l = .ok (t, n)) (h : l.length ≤ 2000) : toks (l.take n) = .ok [⟨t, 0, n⟩] := by
  obtain ⟨_, hl, h0, hs⟩ := next_split hn
  have h1 := hs [] (.inr (by simp))
  rw [List.append_nil] at h1
  have h2 := skp_zero_take hz n
  unfold toks
  rw [if_neg (by simp; omega), toksR_eq, h2, List.drop_zero]
  have hlen := next_len hn
  cases ht : l.take n with
  | nil => rw [ht] at hl; simp at hl; omega
  | cons c r =>
    rw [ht] at h1 hl
    simp only [h1]
    have hd : (c :: r).drop n = [] := List.drop_eq_nil_of_le (by omega)
    rw [hd, toksR_eq]
    simp

/-- at each token: where it lies, and what its gap and its own bytes are. -/
theorem lex_step {p : Nat} {l : Bs} {x : Tok} {ts : List Tok} (h : Lex p l (x :: ts)) (hl : l.length ≤ 2000) :
    p ≤ x.lo ∧ x.lo < x.hi ∧ x.hi ≤ p + l.length ∧ toks (l.take (x.lo - p)) = .ok [] ∧ toks ((l.drop (x.lo - p)).take (x.hi - x.lo)) = .ok [⟨x.toTk, 0, x.hi - x.lo⟩] ∧ Lex x.hi (l.drop (x.hi - p)) ts := by
  cases h with
  | more _ _ t n _ hne hn hrest =>
    have hs := skp_le false l
    have hnl := next_len hn
    obtain ⟨_, _, h0, _⟩ := next_split hn
    rw [List.length_drop] at hnl
    refine ⟨by simp, by simp; omega, by simp; omega, ?_, ?_, ?_⟩
    · simp only [Nat.add_sub_cancel_left]
      exact gap_toks l hl
    · simp only [Nat.add_sub_cancel_left]
      exact own_toks (skp_idem false l) hn (by rw [List.length_drop]; omega)
    · simp only
      rw [List.drop_drop] at hrest
      rw [show p + skp false l + n - p = skp false l + n by omega]
      exact hrest

end Lexy
