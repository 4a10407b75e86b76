/-
  Two texts with a line's end between them are read as both. Conditions: none.
-/
import Derived.Test.YtgeaphapnoiniaaDoorLex
namespace Lexy

def shift (q : Nat) (x : Tok) : Tok := ⟨x.toTk, x.lo + q, x.hi + q⟩

theorem lex_shift {p : Nat} {l : Bs} {ts : List Tok} (h : Lex p l ts) (q : Nat) : Lex (p + q) l (ts.map (shift q)) := by
  induction h with
  | done p l hd => exact .done _ _ hd
  | more p l t n ts hne hn _ ih =>
    have e1 : p + skp false l + q = p + q + skp false l := by omega
    have e2 : p + skp false l + n + q = p + q + skp false l + n := by omega
    simp only [List.map_cons, shift]
    rw [e1, e2]
    rw [e2] at ih
    exact .more _ _ t n _ hne hn ih

theorem lex_gap {p k : Nat} {l r : Bs} {ts : List Tok} (hs : skp false r = k + skp false l) (hd : r.drop (k + skp false l) = l.drop (skp false l)) (h : Lex (p + k) l ts) : Lex p r ts := by
  generalize hq : p + k = q at h
  cases h with
  | done _ _ he => exact .done _ _ (by rw [hs, hd]; exact he)
  | more _ _ t n ts hne hn hr =>
    subst hq
    have e1 : p + k + skp false l = p + skp false r := by omega
    rw [e1] at hr ⊢
    have hd' : r.drop (skp false r) = l.drop (skp false l) := by rw [hs]; exact hd
    rw [← hd'] at hne hn hr
    exact .more _ _ t n _ hne hn hr

theorem lex_app {p : Nat} {s : Bs} {a : List Tok} (h : Lex p s a) : ∀ {t : Bs} {b : List Tok}, Lex (p + s.length + 1) t b → Lex p (s ++ 10 :: t) (a ++ b) := by
  induction h with
  | done p l hd =>
    intro t b hb
    have hl : skp false l = l.length := by
      have h1 := skp_le false l
      have h2 : (l.drop (skp false l)).length = 0 := by rw [hd]; rfl
      rw [List.length_drop] at h2; omega
    have hn := skp_nl false l t
    rw [hl, if_neg (by omega)] at hn
    refine lex_gap (k := l.length + 1) (l := t) hn ?_ hb
    rw [show l.length + 1 + skp false t = l.length + (1 + skp false t) by omega, ← List.drop_drop, List.drop_left' rfl, Nat.add_comm 1, List.drop_succ_cons]
  | more p l tk n ts hne hn hrest ih =>
    intro t b hb
    have h1 := skp_le false l
    have hlt : skp false l < l.length := by
      rcases Nat.lt_or_ge (skp false l) l.length with h | h
      · exact h
      · exact absurd (List.drop_eq_nil_of_le h) hne
    have hs := skp_nl false l t
    rw [if_pos hlt] at hs
    have hd : (l ++ 10 :: t).drop (skp false l) = l.drop (skp false l) ++ 10 :: t := List.drop_append_of_le_length (by omega)
    obtain ⟨e1, e2, e3, e4⟩ := next_split hn
    have hnl := next_len hn
    have hnx : next (l.drop (skp false l) ++ 10 :: t) = .ok (tk, n) := by
      have e5 : l.drop (skp false l) ++ 10 :: t = (l.drop (skp false l)).take n ++ ((l.drop (skp false l)).drop n ++ 10 :: t) := by
        rw [← List.append_assoc, List.take_append_drop]
      rw [e5]
      refine e4 _ ?_
      cases (l.drop (skp false l)).drop n with
      | nil => exact .inr (fun c hc => by simp at hc; exact .inl hc.symm)
      | cons d r => exact .inl rfl
    have hr : (l.drop (skp false l) ++ 10 :: t).drop n = (l.drop (skp false l)).drop n ++ 10 :: t := List.drop_append_of_le_length hnl
    have hlen : p + skp false l + n + ((l.drop (skp false l)).drop n).length + 1 = p + l.length + 1 := by
      rw [List.length_drop, List.length_drop]; rw [List.length_drop] at hnl; omega
    have i := ih (t := t) (b := b) (by rw [hlen]; exact hb)
    rw [← hs] at hd hnx hr i ⊢
    have hm := Lex.more p (l ++ 10 :: t) tk n (ts ++ b) (by rw [hs, ← hs, hd]; intro e; simp at e) (by rw [hd]; rw [hs] at hnx ⊢; exact hnx) (by rw [hd]; rw [hs] at hr i ⊢; rw [hr]; exact i)
    exact hm

theorem toks_two {s t : Bs} {a b : List Tok} (ha : Lex 0 s a) (hb : Lex 0 t b) : toks (s ++ 10 :: t) = .err 2 ∨ toks (s ++ 10 :: t) = .ok (a ++ b.map (shift (s.length + 1))) := by
  unfold toks
  split
  · exact .inl rfl
  · have h := lex_app ha (t := t) (b := b.map (shift (s.length + 1))) (by have := lex_shift hb (s.length + 1); simpa using this)
    rw [of_lex h 1000]
    split
    · exact .inr rfl
    · exact .inl rfl
end Lexy
