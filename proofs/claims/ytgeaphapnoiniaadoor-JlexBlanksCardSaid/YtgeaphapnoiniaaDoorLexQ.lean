/-
  What was quoted is read, as one token. Conditions: none.
-/
import Derived.Test.YtgeaphapnoiniaaDoorLexT
namespace Lexy

def hexd (n : UInt8) : UInt8 := if n < 10 then n + 48 else n + 87
/-- how a byte is written. -/
def qb (c : UInt8) : Bs :=
  if c == 34 || c == 92 then [92, c] else if c == 10 then [92, 110] else if c == 9 then [92, 116]
  else if decide (c.toNat < 32) || decide (126 < c.toNat) then [92, 120, hexd (c / 16), hexd (c % 16)] else [c]
def quote (l : Bs) : Bs := 34 :: (l.flatMap qb ++ [34])

theorem all_bytes {p : UInt8 → Prop} [DecidablePred p] (h : ∀ n : Fin 256, p (UInt8.ofNat n)) (c : UInt8) : p c := by
  have := h ⟨c.toNat, c.toNat_lt⟩
  simpa using this

theorem hex_back : ∀ c : UInt8, hexv (hexd (c / 16)) = some (c / 16) ∧ hexv (hexd (c % 16)) = some (c % 16) ∧ c / 16 * 16 + c % 16 = c :=
  all_bytes (by decide +kernel)
theorem qb_plain : ∀ c : UInt8, ∀ d ∈ qb c, 32 ≤ d.toNat ∧ d.toNat ≤ 126 := all_bytes (by decide +kernel)
theorem qb_len : ∀ c : UInt8, 1 ≤ (qb c).length ∧ (qb c).length ≤ 4 := all_bytes (by decide +kernel)

theorem fin_qb (acc : Bs) (k : Nat) (c : UInt8) (r : Bs) : fin acc k (qb c ++ r) = fin (acc ++ [c]) (k + (qb c).length) r := by
  unfold qb
  by_cases h1 : (c == 34 || c == 92) = true
  · rw [if_pos h1]
    have he : esc (c :: r) = some (c, 1) := by simp only [esc]; rw [if_pos h1]
    have := fin_esc acc k (c :: r) he
    simpa [Nat.add_assoc] using this
  rw [if_neg h1]
  by_cases h2 : (c == 10) = true
  · rw [if_pos h2]
    have hc := eq_of_beq h2
    subst hc
    have he : esc (110 :: r) = some (10, 1) := by simp [esc]
    have := fin_esc acc k (110 :: r) he
    simpa [Nat.add_assoc] using this
  rw [if_neg h2]
  by_cases h3 : (c == 9) = true
  · rw [if_pos h3]
    have hc := eq_of_beq h3
    subst hc
    have he : esc (116 :: r) = some (9, 1) := by simp [esc]
    have := fin_esc acc k (116 :: r) he
    simpa [Nat.add_assoc] using this
  rw [if_neg h3]
  by_cases h4 : (decide (c.toNat < 32) || decide (126 < c.toNat)) = true
  · rw [if_pos h4]
    obtain ⟨e1, e2, e3⟩ := hex_back c
    have he : esc (120 :: hexd (c / 16) :: hexd (c % 16) :: r) = some (c, 3) := by
      simp only [esc]
      rw [if_neg (by decide), if_neg (by decide), if_neg (by decide), if_pos (by decide), e1, e2]
      simp only [e3]
    have := fin_esc acc k (120 :: hexd (c / 16) :: hexd (c % 16) :: r) he
    simpa [Nat.add_assoc] using this
  · rw [if_neg h4]
    simp only [Bool.or_eq_true, decide_eq_true_eq, not_or] at h4
    simp only [Bool.or_eq_true, beq_iff_eq, not_or] at h1
    have := fin_byte acc k r h1.1 h4.1 h1.2
    simpa using this

theorem fin_all (l : Bs) : ∀ (acc : Bs) (k : Nat), fin acc k (l.flatMap qb ++ [34]) = some (acc ++ l, k + (l.flatMap qb).length + 1) := by
  induction l with
  | nil => intro acc k; have := fin_quote acc k []; simpa using this
  | cons c r ih =>
    intro acc k
    rw [List.flatMap_cons, List.append_assoc, fin_qb, ih]
    simp; omega

theorem txt_quote (l : Bs) : txt (l.flatMap qb ++ [34]) = some (l, (l.flatMap qb).length + 1) := by
  have h := fin_all l [] 0
  unfold fin at h
  cases ht : txt (l.flatMap qb ++ [34]) with
  | none => rw [ht] at h; simp at h
  | some x =>
    rw [ht] at h
    obtain ⟨x1, x2⟩ := x
    simp only [Option.map_some, List.nil_append, Nat.zero_add, Option.some.injEq, Prod.mk.injEq] at h
    rw [h.1, h.2]

theorem toks_quote (l : Bs) : toks (quote l) = if 2000 < (quote l).length then .err 2 else .ok [⟨⟨3, l, 0⟩, 0, (quote l).length⟩] := by
  unfold toks
  split
  · rfl
  · have hlen : (quote l).length = 1 + ((l.flatMap qb).length + 1) := by simp [quote]; omega
    have hn : next (quote l) = .ok (⟨3, l, 0⟩, (quote l).length) := by
      rw [hlen]
      simp only [quote, next]
      rw [if_neg (by decide), if_neg (by decide), if_pos (by decide), txt_quote]
    have hs : skp false (quote l) = 0 := by simp [quote, skp, isBlank]
    rw [toksR_eq, hs]
    have hd : (quote l).drop 0 = 34 :: (l.flatMap qb ++ [34]) := rfl
    rw [hd]
    have hn' : next (34 :: (l.flatMap qb ++ [34])) = .ok (⟨3, l, 0⟩, (quote l).length) := hn
    simp only [hn']
    have he : (34 :: (l.flatMap qb ++ [34])).drop (quote l).length = [] := List.drop_eq_nil_of_le (by rw [hlen]; simp; omega)
    rw [he, toksR_eq]
    simp

theorem quote_plain (l : Bs) : ∀ d ∈ quote l, 32 ≤ d.toNat ∧ d.toNat ≤ 126 := by
  intro d hd
  simp only [quote, List.mem_cons, List.mem_append, List.mem_flatMap, List.not_mem_nil, or_false] at hd
  rcases hd with rfl | ⟨c, _, hc⟩ | rfl
  · decide
  · exact qb_plain c d hc
  · decide
end Lexy
