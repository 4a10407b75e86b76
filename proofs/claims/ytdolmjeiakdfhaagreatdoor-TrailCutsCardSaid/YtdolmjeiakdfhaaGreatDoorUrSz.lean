/-
  How long the parts of an address that was parsed are, and its text. Conditions: none.
-/
import Derived.Test.YtdolmjeiakdfhaaGreatDoorUrK
namespace Urly
set_option linter.unusedSimpArgs false
set_option linter.unusedVariables false
def tot (l : List Bs) : Nat := (l.map List.length).sum
theorem tot_append (a b : List Bs) : tot (a ++ b) = tot a + tot b := by simp [tot]
theorem tot_take : ∀ (n : Nat) (a : List Bs), tot (a.take n) ≤ tot a
  | 0, a => by simp [tot]
  | n + 1, [] => by simp
  | n + 1, x :: a => by
    have := tot_take n a
    simp only [tot, List.take_succ_cons, List.map_cons, List.sum_cons] at this ⊢
    omega
theorem tot_drop (a : List Bs) : tot a.dropLast ≤ tot a := by rw [List.dropLast_eq_take]; exact tot_take _ a
theorem tidyGo_tot : ∀ (l out : List Bs), tot (tidyGo out l) ≤ tot out + tot l ∧ (tidyGo out l).length ≤ out.length + l.length
  | [], out => by simp [tidyGo, tot]
  | s :: r, out => by
    unfold tidyGo
    have h1 : tot (s :: r) = s.length + tot r := by simp [tot]
    split
    · have := tidyGo_tot r (out ++ [s])
      rw [tot_append] at this
      have h2 : tot [s] = s.length := by simp [tot]
      simp only [List.length_append, List.length_cons, List.length_nil] at this ⊢
      omega
    · have := tidyGo_tot r ((if s = [46, 46] then out.dropLast else out) ++ (if r = [] then [[]] else []))
      rw [tot_append] at this
      have h2 : tot (if r = [] then [[]] else []) = 0 := by split <;> simp [tot]
      have h3 : tot (if s = [46, 46] then out.dropLast else out) ≤ tot out := by split; exact tot_drop out; exact Nat.le_refl _
      have h4 : (if s = [46, 46] then out.dropLast else out).length ≤ out.length := by split <;> simp
      have h5 : (if r = [] then ([[]] : List Bs) else []).length ≤ 1 := by split <;> simp
      simp only [List.length_append, List.length_cons] at this ⊢
      omega
theorem tidy_tot (l : List Bs) : tot (tidy l) ≤ tot l ∧ (tidy l).length ≤ l.length + 1 := by
  unfold tidy
  have := tidyGo_tot l []
  split
  · exact ⟨by simp [tot], by simp⟩
  · have h0 : tot [] = 0 := rfl
    simp only [List.length_nil] at this
    omega
theorem splitOn_tot (c : UInt8) : ∀ s, tot (splitOn c s) + (splitOn c s).length = s.length + 1
  | [] => by simp [splitOn, tot]
  | x :: r => by
    have ih := splitOn_tot c r
    by_cases h : x = c
    · subst h
      rw [splitOn_here]
      simp only [tot, List.map_cons, List.sum_cons, List.length_nil, List.length_cons] at ih ⊢
      omega
    · obtain ⟨p, l, h1, h2⟩ := splitOn_there r h
      rw [h2]
      rw [h1] at ih
      simp only [tot, List.map_cons, List.sum_cons, List.length_cons] at ih ⊢
      omega
theorem dec_size : ∀ (n : Nat) (s d : Bs), s.length ≤ n → dec s = some d → d.length ≤ s.length
  | 0, s, d, hn, h => by
    have : s = [] := List.eq_nil_of_length_eq_zero (by omega)
    subst this; rw [dec_nil] at h; injection h with h; subst h; simp
  | n + 1, s, d, hn, h => by
    by_cases h0 : s = []
    · subst h0; rw [dec_nil] at h; injection h with h; subst h; simp
    · rw [dec_step h0] at h
      cases hr : read s with
      | none => rw [hr] at h; cases h
      | some p =>
        obtain ⟨c, t, r⟩ := p
        rw [hr] at h
        have hl := read_lt hr
        simp only at h
        cases hd : dec r with
        | none => rw [hd] at h; cases h
        | some e =>
          rw [hd] at h; injection h with h; subst h
          have := dec_size n r e (by omega) hd
          simp; omega
theorem clean_size : ∀ (n : Nat) (s d : Bs), s.length ≤ n → clean s = some d → d.length ≤ 3 * s.length
  | 0, s, d, hn, h => by
    have : s = [] := List.eq_nil_of_length_eq_zero (by omega)
    subst this; rw [clean_nil] at h; injection h with h; subst h; simp
  | n + 1, s, d, hn, h => by
    by_cases h0 : s = []
    · subst h0; rw [clean_nil] at h; injection h with h; subst h; simp
    · rw [clean_step h0] at h
      cases hr : read s with
      | none => rw [hr] at h; cases h
      | some p =>
        obtain ⟨c, t, r⟩ := p
        rw [hr] at h
        have hl := read_lt hr
        simp only at h
        cases hd : clean r with
        | none => rw [hd] at h; cases h
        | some e =>
          rw [hd] at h; injection h with h; subst h
          have := clean_size n r e (by omega) hd
          have h3 : (cl c t).length ≤ 3 := by unfold cl triple; split <;> simp
          simp only [List.length_append]; omega
theorem decs_size : ∀ (l m : List Bs), decs l = some m → tot m ≤ tot l ∧ m.length = l.length
  | [], m, h => by injection h with h; subst h; simp
  | p :: l, m, h => by
    unfold decs at h
    cases hd : dec p with
    | none => rw [hd] at h; cases h
    | some d =>
      rw [hd] at h
      simp only at h
      cases hl : decs l with
      | none => rw [hl] at h; cases h
      | some k =>
        rw [hl] at h; injection h with h; subst h
        have h1 := dec_size p.length p d (Nat.le_refl _) hd
        have h2 := decs_size l k hl
        simp only [tot, List.map_cons, List.sum_cons, List.length_cons] at h2 ⊢
        omega
theorem segments_size {s : Bs} {l : List Bs} (h : segments s = some l) : tot l ≤ s.length + 1 ∧ l.length ≤ s.length + 1 := by
  have h1 := decs_size _ _ h
  have h2 := splitOn_tot 47 s
  omega
/-- short parts. -/
structure Sz (u : U) : Prop where
  scheme : u.scheme.length ≤ 500
  host : u.host.length ≤ 100
  port : u.port ≤ 65535
  seg : u.path.length ≤ 2000
  tot : tot u.path ≤ 2000
  query : u.query.length ≤ 1500
  fragment : u.fragment.length ≤ 1500
theorem path_size (l : List Bs) : (l.flatMap fun p => 47 :: enc p).length ≤ l.length + 3 * tot l := by
  induction l with
  | nil => simp [tot]
  | cons p l ih =>
    have := enc_len p
    simp only [List.flatMap_cons, List.length_append, List.length_cons, tot, List.map_cons, List.sum_cons] at ih ⊢
    omega
theorem text_size {u : U} (h : Sz u) : (origin u).length ≤ 700 ∧ (text u).length ≤ 20000 := by
  have h1 := h.scheme
  have h2 := h.host
  have h3 : (if u.port ≠ 0 then 58 :: digits u.port else []).length ≤ 6 := by
    have h5 : (digits u.port).length ≤ 5 := (dec_len u.port h.port).2
    split
    · simp only [List.length_cons]; omega
    · simp
  have h4 := path_size u.path
  have h5 := h.seg
  have h6 := h.tot
  have h7 : (if u.asks then 63 :: u.query else []).length ≤ 1501 := by split; simp; exact h.query; simp
  have h8 : (if u.points then 35 :: u.fragment else []).length ≤ 1501 := by split; simp; exact h.fragment; simp
  have ho : (origin u).length ≤ 700 := by
    unfold origin
    simp only [List.length_append, List.length_cons, List.length_nil]
    omega
  refine ⟨ho, ?_⟩
  unfold text
  simp only [List.length_append]
  omega
theorem cut_size (c : UInt8) (s : Bs) : (cut c s).1.length ≤ s.length ∧ (cut c s).2.1.length ≤ s.length := by
  rcases cut_form c s with ⟨h, _⟩ | ⟨a, b, rfl, _, h⟩ <;> rw [h] <;> simp <;> omega
theorem tail_size (s : Bs) : (tail s).path.length ≤ s.length ∧ (∀ q, (tail s).query = some q → q.length ≤ 3 * s.length) ∧ (∀ q, (tail s).fragment = some q → q.length ≤ 3 * s.length) := by
  have h1 := cut_size 35 s
  have h2 := cut_size 63 (cut 35 s).1
  refine ⟨?_, fun q h => ?_, fun q h => ?_⟩
  · show (cut 63 (cut 35 s).1).1.length ≤ _
    omega
  · have : q.length ≤ 3 * (cut 63 (cut 35 s).1).2.1.length := clean_size _ _ _ (Nat.le_refl _) h
    omega
  · have : q.length ≤ 3 * (cut 35 s).2.1.length := clean_size _ _ _ (Nat.le_refl _) h
    omega
theorem bare_size (s : Bs) : (bare s).length ≤ s.length := by
  unfold bare
  split
  · simp
  · split <;> simp
theorem parse_size {s : Bs} {u : U} (e : parse s = .ok u) : Sz u ∧ u.path.length ≤ 502 ∧ tot u.path ≤ 501 := by
  have hg := (parse_good e).1
  unfold parse at e
  split at e
  · cases e
  rename_i hl
  cases hs : scheme s with
  | none => rw [hs] at e; cases e
  | some p =>
    obtain ⟨sch, r1⟩ := p
    rw [hs] at e
    simp only at e
    cases h2 : twoOff r1 with
    | none => rw [h2] at e; cases e
    | some r2 =>
      rw [h2] at e
      simp only at e
      cases h3 : place sch (r2.takeWhile fun c => !ends c) with
      | none => rw [h3] at e; cases e
      | some q =>
        obtain ⟨h, p⟩ := q
        rw [h3] at e
        simp only at e
        obtain ⟨c, t, hsf, _, _, ha⟩ := scheme_form hs
        have hsl : sch.length ≤ 500 ∧ r1.length ≤ 500 := by
          have := congrArg List.length hsf
          rw [ha]; simp [small] at this ⊢; omega
        have hr2 : r2.length ≤ r1.length := by
          unfold twoOff at h2
          match r1 with
          | [] => simp at h2
          | [a] => simp at h2
          | a :: b :: t =>
            simp only at h2
            split at h2
            · injection h2 with h2; subst h2; simp; omega
            · cases h2
        have hd : (r2.dropWhile fun c => !ends c).length ≤ r2.length := (List.dropWhile_suffix _).length_le
        obtain ⟨t1, t2, t3⟩ := tail_size (r2.dropWhile fun c => !ends c)
        obtain ⟨ph, _, pp⟩ := place_good h3
        cases hq : (tail (r2.dropWhile fun c => !ends c)).query with
        | none => rw [hq] at e; cases e
        | some q =>
          cases hf : (tail (r2.dropWhile fun c => !ends c)).fragment with
          | none => rw [hq, hf] at e; cases e
          | some f =>
            cases hg2 : segments (bare (tail (r2.dropWhile fun c => !ends c)).path) with
            | none => rw [hq, hf, hg2] at e; cases e
            | some l =>
              rw [hq, hf, hg2] at e
              injection e with e
              subst e
              have h7 := t2 q hq
              have h8 := t3 f hf
              have h9 := segments_size hg2
              have h10 := bare_size (tail (r2.dropWhile fun c => !ends c)).path
              have h11 := tidy_tot l
              have h12 : h.length ≤ 100 := by
                unfold host at ph
                simp only [Bool.and_eq_true, decide_eq_true_eq] at ph
                exact ph.1
              have h13 : p ≤ 65535 := by rcases pp with h | ⟨_, h, _⟩ <;> omega
              refine ⟨⟨hsl.1, h12, h13, ?_, ?_, ?_, ?_⟩, ?_, ?_⟩
              all_goals (simp only; omega)
theorem beside_size {b u : U} {r : Bs} (hb : Sz b) (hb2 : b.path.length ≤ 502 ∧ tot b.path ≤ 501) (hr : r.length ≤ 500) (e : beside b r = .ok u) : Sz u := by
  unfold beside at e
  simp only at e
  obtain ⟨t1, t2, t3⟩ := tail_size r
  cases hq : (tail r).query with
  | none => rw [hq] at e; cases e
  | some q =>
    cases hf : (tail r).fragment with
    | none => rw [hq, hf] at e; cases e
    | some f =>
      cases hg2 : segments (bare (tail r).path) with
      | none => rw [hq, hf, hg2] at e; cases e
      | some l =>
        rw [hq, hf, hg2] at e
        simp only at e
        have h7 := t2 q hq
        have h8 := t3 f hf
        have h9 := segments_size hg2
        have h10 := bare_size (tail r).path
        split at e
        · injection e with e
          subst e
          refine ⟨hb.scheme, hb.host, hb.port, hb.seg, hb.tot, ?_, by simp only; omega⟩
          simp only
          split
          · omega
          · exact hb.query
        · injection e with e
          subst e
          have h11 := tidy_tot (if (tail r).path.head? = some 47 then l else b.path.dropLast ++ l)
          have h12 : tot (if (tail r).path.head? = some 47 then l else b.path.dropLast ++ l) ≤ 1002 ∧ (if (tail r).path.head? = some 47 then l else b.path.dropLast ++ l).length ≤ 1003 := by
            have := tot_drop b.path
            split
            · omega
            · rw [tot_append, List.length_append]; simp only [List.length_dropLast]; omega
          refine ⟨hb.scheme, hb.host, hb.port, ?_, ?_, ?_, ?_⟩
          all_goals (simp only; omega)
end Urly
