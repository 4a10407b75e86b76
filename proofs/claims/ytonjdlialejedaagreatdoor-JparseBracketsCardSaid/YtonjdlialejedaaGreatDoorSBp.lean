/-
  Texts that the law leans on: PlP, PxE. Conditions: as each says.
-/
import Derived.Test.YtonjdlialejedaaGreatDoorSBk
import Derived.Test.YtonjdlialejedaaGreatDoorSBm
import Derived.Test.YtonjdlialejedaaGreatDoorSAa
import Derived.Test.YtonjdlialejedaaGreatDoorSBn
import Derived.Test.YtonjdlialejedaaGreatDoorSBo
set_option linter.unusedSimpArgs false
set_option linter.unusedVariables false
namespace Lexy
theorem lexT_of {p : Nat} {l : Bs} {c : List Tok} (h : Lex p l c) : LexT l (c.map (·.toTk)) := by
 have key : ∀ {a : Nat} {b : Bs} {c : List Tok}, Lex a b c → ∀ q, ∃ full, Lex q b full ∧ full.map (·.toTk) = c.map (·.toTk) := by
  intro a b c hc
  induction hc with
  | done a b hd => intro q; exact ⟨[], .done _ _ hd, rfl⟩
  | more a b t n c hne hn _ ih =>
   intro q
   obtain ⟨full, g1, g2⟩ := ih (q + skp false b + n)
   exact ⟨_, .more q b t n full hne hn g1, by simp [g2]⟩
 exact key h 0
theorem lexT_uniq {l : Bs} {a b : List Tk} (h1 : LexT l a) (h2 : LexT l b) : a = b := by
 obtain ⟨x, hx, rfl⟩ := h1
 obtain ⟨y, hy, rfl⟩ := h2
 rw [Wri.lex_uniq hx hy]
theorem lexT_off {a z : Bs} {t : Tk} {ts : List Tk} (hs : skp false (a ++ z) = 0) (ha : a ≠ []) (hn : next (a ++ z) = .ok (t, a.length)) (h : LexT (a ++ z) ts) : ∃ zs, ts = t :: zs ∧ LexT z zs := by
 obtain ⟨full, h1, rfl⟩ := h
 have e : (a ++ z).drop (skp false (a ++ z)) = a ++ z := by rw [hs]; rfl
 cases h1 with
 | done _ _ hd => rw [e] at hd; exact absurd (List.append_eq_nil_iff.1 hd).1 ha
 | more _ _ t' n ts' hne hn' hr =>
  rw [e] at hn' hr
  rw [hn] at hn'
  simp only [Res.ok.injEq, Prod.mk.injEq] at hn'
  obtain ⟨rfl, rfl⟩ := hn'
  rw [List.drop_left' rfl] at hr
  exact ⟨_, rfl, lexT_of hr⟩
theorem lexT_unblank {z : Bs} {ts : List Tk} (h : LexT (32 :: z) ts) : LexT z ts := by
 obtain ⟨full, h1, rfl⟩ := h
 have hs : skp false (32 :: z) = 1 + skp false z := by simp [skp, isBlank]
 have hd : (32 :: z).drop (skp false (32 :: z)) = z.drop (skp false z) := by rw [hs, Nat.add_comm, List.drop_succ_cons]
 cases h1 with
 | done _ _ he => rw [hd] at he; exact ⟨[], .done _ _ he, rfl⟩
 | more _ _ t n ts hne hn hr =>
  rw [hd] at hne hn hr
  have hm := lexT_of hr
  obtain ⟨full, g1, g2⟩ := hm.at_ (0 + skp false z + n)
  exact ⟨_, .more 0 z t n full hne hn g1, by simp [g2]⟩
theorem skp_end : ∀ (b : Bool) (s : Bs) (c : UInt8) (q : Bs), (∀ d ∈ c :: q, d = 41 ∨ d = 59) → (skp b (s ++ c :: q) < s.length → skp b s = skp b (s ++ c :: q)) ∧ (s.length ≤ skp b (s ++ c :: q) → skp b s = s.length ∧ (skp b (s ++ c :: q) = s.length ∨ skp b (s ++ c :: q) = s.length + (c :: q).length))
 | b, [], c, q, h => by
  have htr : ∀ q : Bs, (∀ d ∈ q, d = 41 ∨ d = 59) → skp true q = q.length := by
   intro q
   induction q with
   | nil => intro _; rfl
   | cons d q ih =>
    intro h
    have hd : (d == 10) = false := by rcases h d (by simp) with rfl | rfl <;> decide
    simp only [skp, hd, Bool.false_eq_true, if_false, List.length_cons]
    rw [ih fun e he => h e (by simp [he])]; omega
  have hfa : skp false (c :: q) = 0 := by
   have h1 : isBlank c = false := by rcases h c (by simp) with rfl | rfl <;> decide
   have h2 : (c == 47) = false := by rcases h c (by simp) with rfl | rfl <;> decide
   simp [skp, h1, h2]
  cases b with
  | true => rw [List.nil_append, htr _ h]; simp [skp]
  | false => rw [List.nil_append, hfa]; simp [skp]
 | true, a :: s, c, q, h => by
  have i1 := skp_end false s c q h
  have i2 := skp_end true s c q h
  simp only [List.cons_append, skp, List.length_cons] at i1 i2 ⊢
  split
  ·constructor
   ·intro hl; rw [i1.1 (by omega)]
   ·intro hl; obtain ⟨e1, e2⟩ := i1.2 (by omega); exact ⟨by omega, by omega⟩
  ·constructor
   ·intro hl; rw [i2.1 (by omega)]
   ·intro hl; obtain ⟨e1, e2⟩ := i2.2 (by omega); exact ⟨by omega, by omega⟩
 | false, a :: s, c, q, h => by
  have i1 := skp_end false s c q h
  have i2 := skp_end true s c q h
  have hh : ((s ++ c :: q).head? == some 47) = (s.head? == some 47) := by
   cases s with
   | nil => rcases h c (by simp) with rfl | rfl <;> simp
   | cons d s => rfl
  simp only [List.cons_append, skp, List.length_cons] at i1 i2 ⊢
  rw [hh]
  split
  ·constructor
   ·intro hl; rw [i1.1 (by omega)]
   ·intro hl; obtain ⟨e1, e2⟩ := i1.2 (by omega); exact ⟨by omega, by omega⟩
  ·split
   ·constructor
    ·intro hl; rw [i2.1 (by omega)]
    ·intro hl; obtain ⟨e1, e2⟩ := i2.2 (by omega); exact ⟨by omega, by omega⟩
   ·constructor
    ·intro _; rfl
    ·intro hl; omega
theorem txt_last : ∀ (f : Nat) (l t : Bs) (m : Nat), txtF f l = some (t, m) → (l.take m).getLast? = some 34 := by
 intro f
 induction f with
 | zero => intro l t m h; simp [txtF] at h
 | succ f ih =>
  intro l t m h
  cases l with
  | nil => simp [txtF] at h
  | cons c r =>
   simp only [txtF] at h
   by_cases h1 : (c == 34) = true
   ·rw [if_pos h1] at h
    simp at h
    obtain ⟨rfl, rfl⟩ := h
    simp [eq_of_beq h1]
   rw [if_neg h1] at h
   split at h
   ·cases h
   split at h
   ·split at h
    ·cases h
    ·rename_i b n he
     split at h
     ·cases h
     ·rename_i t' m' hr
      simp at h
      obtain ⟨rfl, rfl⟩ := h
      have i := ih _ _ _ hr
      have e1 : (c :: r).take (1 + n + m') = (c :: r.take n) ++ (r.drop n).take m' := by
       rw [show 1 + n + m' = (n + m') + 1 by omega, List.take_succ_cons, List.take_add]; rfl
      rw [e1, List.getLast?_append, i]; rfl
   ·split at h
    ·cases h
    ·rename_i t' m' hr
     simp at h
     obtain ⟨rfl, rfl⟩ := h
     have i := ih _ _ _ hr
     rw [show 1 + m' = m' + 1 by omega, List.take_succ_cons]
     have : (c :: r.take m') = [c] ++ r.take m' := rfl
     rw [this, List.getLast?_append, i]; rfl
theorem next_end {s q : Bs} {c : UInt8} {t : Tk} {n : Nat} (hs : s ≠ []) (h : ∀ d ∈ c :: q, d = 41 ∨ d = 59) (hn : next (s ++ c :: q) = .ok (t, n)) : n ≤ s.length := by
 refine Nat.le_of_not_lt fun hlt => ?_
 cases s with
 | nil => exact hs rfl
 | cons a s =>
  have hrun : ∀ p : UInt8 → Bool, p 41 = false → p 59 = false → ((a :: s ++ c :: q).takeWhile p).length ≤ (a :: s).length := by
   intro p h1 h2
   have hc : p c = false := by rcases h c (by simp) with rfl | rfl <;> assumption
   generalize a :: s = z
   induction z with
   | nil => simp [hc]
   | cons b z ih =>
    simp only [List.cons_append, List.takeWhile_cons]
    split
    ·simp only [List.length_cons]; omega
    ·simp
  simp only [List.cons_append, next] at hn
  by_cases h1 : isLetter a = true
  ·rw [if_pos h1] at hn
   simp only [Res.ok.injEq, Prod.mk.injEq] at hn
   have := hrun isNameB (by decide) (by decide)
   have h2 := hn.2
   unfold nameLen at h2
   rw [← List.cons_append] at h2
   omega
  rw [if_neg h1] at hn
  by_cases h2 : isDigit a = true
  ·rw [if_pos h2] at hn
   have := hrun isDigit (by decide) (by decide)
   split at hn
   ·cases hn
   ·split at hn
    ·cases hn
    ·simp only [Res.ok.injEq, Prod.mk.injEq] at hn
     have h3 := hn.2
     unfold digLen at h3
     rw [← List.cons_append] at h3
     omega
  rw [if_neg h2] at hn
  by_cases h3 : (a == 34) = true
  ·rw [if_pos h3] at hn
   split at hn
   ·cases hn
   ·rename_i t' m ht
    simp only [Res.ok.injEq, Prod.mk.injEq] at hn
    obtain ⟨rfl, rfl⟩ := hn
    have hl := txt_last _ _ _ _ ht
    simp only [List.length_cons] at hlt
    have e : (s ++ c :: q).take m = s ++ (c :: q).take (m - s.length) := by rw [List.take_append, List.take_of_length_le (by omega)]
    have hne : (c :: q).take (m - s.length) ≠ [] := by
     intro hx
     have := congrArg List.length hx
     simp at this
     omega
    rw [e, List.getLast?_append, List.getLast?_eq_some_getLast hne] at hl
    simp only [Option.some_or, Option.some.injEq] at hl
    have hm := List.mem_of_mem_take (List.getLast_mem hne)
    rw [hl] at hm
    rcases h 34 hm with hx | hx <;> exact absurd hx (by decide)
  rw [if_neg h3] at hn
  unfold sign at hn
  split at hn
  ·rename_i hg
   simp only [Res.ok.injEq, Prod.mk.injEq] at hn
   have hz : s = [] := by
    have := hn.2
    cases s with
    | nil => rfl
    | cons b s => simp only [List.length_cons] at hlt; omega
   subst hz
   have h4 := hg.2
   simp only [List.nil_append, List.take_succ_cons, List.take_zero] at h4
   rcases h c (by simp) with rfl | rfl
   ·simp [signs] at h4
   ·simp [signs] at h4
  ·split at hn
   ·simp only [Res.ok.injEq, Prod.mk.injEq] at hn
    simp only [List.length_cons] at hlt
    omega
   ·cases hn
theorem lexT_end {c : UInt8} {q : Bs} {Y : List Tk} (h : ∀ d ∈ c :: q, d = 41 ∨ d = 59) (hY : LexT (c :: q) Y) : ∀ {p : Nat} {l : Bs} {ts : List Tok}, Lex p l ts → ∀ s, l = s ++ c :: q → ∃ S, LexT s S ∧ (ts.map (·.toTk) = S ∨ ts.map (·.toTk) = S ++ Y) := by
 intro p l ts hl
 induction hl with
 | done p l hd =>
  intro s e
  subst e
  have hlen : (s ++ c :: q).length ≤ skp false (s ++ c :: q) := by
   have := congrArg List.length hd
   simp only [List.length_drop, List.length_nil] at this
   omega
  have := (skp_end false s c q h).2 (by simp only [List.length_append] at hlen; omega)
  exact ⟨[], ⟨[], .done _ _ (by rw [this.1, List.drop_length]), rfl⟩, .inl rfl⟩
 | more p l t n ts hne hn hr ih =>
  intro s e
  subst e
  obtain ⟨k1, k2⟩ := skp_end false s c q h
  rcases Nat.lt_or_ge (skp false (s ++ c :: q)) s.length with hlt | hge
  ·have hsk := k1 hlt
   have hd : (s ++ c :: q).drop (skp false (s ++ c :: q)) = s.drop (skp false s) ++ c :: q := by rw [← hsk]; exact List.drop_append_of_le_length (by omega)
   rw [hd] at hn hr ih
   have hs' : s.drop (skp false s) ≠ [] := by
    intro hx
    have := congrArg List.length hx
    simp only [List.length_drop, List.length_nil] at this
    omega
   have hle := next_end hs' h hn
   have hdd : (s.drop (skp false s) ++ c :: q).drop n = (s.drop (skp false s)).drop n ++ c :: q := List.drop_append_of_le_length hle
   obtain ⟨S, g1, g2⟩ := ih _ hdd
   obtain ⟨_, _, _, e4⟩ := next_split hn
   have htk : (s.drop (skp false s) ++ c :: q).take n = (s.drop (skp false s)).take n := List.take_append_of_le_length hle
   have hsoft : Soft ((s.drop (skp false s)).drop n) ((s.drop (skp false s) ++ c :: q).drop n) := by
    rw [hdd]
    cases (s.drop (skp false s)).drop n with
    | nil => exact .inr (fun d hd => by cases hd)
    | cons d r => exact .inl rfl
   have hnx := e4 _ hsoft
   rw [htk, List.take_append_drop] at hnx
   obtain ⟨full, f1, f2⟩ := g1.at_ (0 + skp false s + n)
   refine ⟨t :: S, ⟨_, .more 0 s t n full hs' hnx f1, by simp [f2]⟩, ?_⟩
   rcases g2 with g2 | g2
   ·exact .inl (by simp [g2])
   ·exact .inr (by simp [g2])
  ·obtain ⟨j1, j2⟩ := k2 hge
   refine ⟨[], ⟨[], .done _ _ (by rw [j1, List.drop_length]), rfl⟩, .inr ?_⟩
   have hsk : skp false (s ++ c :: q) = s.length := by
    rcases j2 with j2 | j2
    ·exact j2
    ·exfalso
     apply hne
     exact List.drop_eq_nil_of_le (by rw [j2]; simp)
   have hd : (s ++ c :: q).drop (skp false (s ++ c :: q)) = c :: q := by rw [hsk, List.drop_left' rfl]
   rw [hd] at hn hr
   rw [List.nil_append]
   have hz : skp false (c :: q) = 0 := by
    have h1 : isBlank c = false := by rcases h c (by simp) with rfl | rfl <;> decide
    have h2 : (c == 47) = false := by rcases h c (by simp) with rfl | rfl <;> decide
    simp [skp, h1, h2]
   have hm : LexT (c :: q) (t :: ts.map (·.toTk)) := by
    obtain ⟨full, f1, f2⟩ := (lexT_of hr).at_ (0 + skp false (c :: q) + n)
    exact ⟨_, .more 0 (c :: q) t n full (by rw [hz]; simp) (by rw [hz]; exact hn) (by rw [hz] at f1 ⊢; exact f1), by simp [f2]⟩
   exact lexT_uniq hm hY
end Lexy
namespace Pars
open Lexy (Tk sg nm)
variable {fn lp : Bool}
theorem dead_paren {l : List Tk} (hin : ∀ n, run n .inner fn lp (sg [40] :: l) = none) : ∀ n nt, (nt = .expression ∨ nt = .cond ∨ (∃ k, nt = .binary k) ∨ nt = .unary ∨ nt = .first) → run n nt fn lp (sg [40] :: l) = none
 | 0, _, _ => rfl
 | n + 1, nt, h => by
  have ih := dead_paren hin n
  have hw : ∀ s : Bs, [40] ≠ s → is s (sg [40] :: l) = none := fun s hs => no_sg hs l
  rcases h with rfl | rfl | ⟨k, rfl⟩ | rfl | rfl
  ·simp only [run, ih .cond (by simp), andThen]
  ·simp only [run, ih (.binary 0) (by simp), andThen]
  ·simp only [run, ih .unary (by simp), ih (.binary (k + 1)) (by simp), andThen, ite_self]
  ·simp only [run, signs, anyOf, hw [33] (by decide), hw [45] (by decide), ih .first (by simp), andThen]
  ·simp only [run, alt, tok, show (sg [40]).kind = 4 from rfl, show ¬ (4 = 2) from by decide, show ¬ (4 = 3) from by decide, show ¬ (4 = 1) from by decide, if_false, hw wTrue (by decide), hw wFalse (by decide), hw wNull (by decide), hw wFn (by decide), hw [91] (by decide), hw [123] (by decide), hin n]
theorem no_paren {l r : List Tk} {x : Node} (h : Ev .expression fn lp l x r) (hr : is [41] r = none) {y : Node} {q : List Tk} (hp : Ev .expression fn lp (sg [40] :: l) y q) : False := by
 have hin : ∀ n, run n .inner fn lp (sg [40] :: l) = none := by
  intro n
  cases n with
  | zero => rfl
  | succ n =>
   simp only [run]
   rw [must_some (is_sg _ _)]
   cases hc : run n .expression fn lp l with
   | none => rfl
   | some z =>
    obtain ⟨z, r'⟩ := z
    obtain ⟨rfl, rfl⟩ := ev_uniq (ev_run hc) h
    simp only [andThen]
    exact must_no hr
 obtain ⟨n, hp⟩ := hp.one
 rw [dead_paren hin _ .expression (.inl rfl)] at hp
 cases hp
theorem ev_set {t : Bs} {l r : List Tk} {e : Node} (h : Ev .expression fn lp (nm t :: sg [61] :: l) e r) : ∃ v, e = .mk 19 0 [] [.mk 5 0 t [], v] ∧ Ev .expression fn lp l v r := by
 have hf : Ev .first fn lp (nm t :: sg [61] :: l) (.mk 5 0 t []) (sg [61] :: l) := ev_of 0 fun G _ => by simp [run, tok, nm]
 have h0 : Stop 0 (sg [61] :: l) := stop_sg (by decide) l
 obtain ⟨F, hb⟩ := ev_all (ev_bin6 (ev_unary hf (ev_post _ (h0.le (by omega))))) 0 (by omega) h0
 obtain ⟨F2, h⟩ := h
 have h := h (max F F2 + 1 + 1) (by omega)
 have hc : run (max F F2 + 1) .cond fn lp (nm t :: sg [61] :: l) = some (.mk 5 0 t [], sg [61] :: l) := by
  simp only [run]
  rw [and_some (hb _ (by omega)), alt_no (no_sg (by decide) l)]
 rw [run, and_some hc, alt_some (is_sg _ _), if_pos (.inl rfl)] at h
 cases hv : run (max F F2 + 1) .expression fn lp l with
 | none => rw [hv] at h; cases h
 | some y =>
  obtain ⟨v, q⟩ := y
  rw [hv] at h
  simp only [andThen, Option.some.injEq, Prod.mk.injEq] at h
  obtain ⟨rfl, rfl⟩ := h
  exact ⟨v, rfl, ev_run hv⟩
theorem stmt_nm {t : Bs} {l r : List Tk} {k : Node} (h : Ev .statement fn lp (nm t :: l) k r) : ∃ e q, k = .mk 31 0 [] [e] ∧ Ev .expression fn lp (nm t :: l) e q ∧ is [59] q = some r := by
 obtain ⟨n, h⟩ := h.one
 simp only [run, alt, no_nm] at h
 rw [show ∀ a b : R, peek [123] (nm t :: l) a b = b from fun a b => by simp [peek, nm]] at h
 cases he : run n .expression fn lp (nm t :: l) with
 | none => rw [he] at h; cases h
 | some y =>
  obtain ⟨e, q⟩ := y
  rw [he] at h
  simp only [andThen, ended, must, alt] at h
  cases hq : is [59] q with
  | none => rw [hq] at h; cases h
  | some r' =>
   rw [hq] at h
   simp only [Option.some.injEq, Prod.mk.injEq] at h
   obtain ⟨rfl, rfl⟩ := h
   exact ⟨e, q, rfl, ev_run he, hq⟩
theorem top_kids : ∀ (n : Nat) (acc : List Node) (l : List Tk) (k : List Node), top n acc l = some k → ∃ m, k = acc ++ m ∧ (l ≠ [] → m ≠ [])
 | n, acc, [], k, h => by
  have : k = acc := by cases n <;> simp [top] at h <;> exact h.symm
  exact ⟨[], by simp [this], fun h => absurd rfl h⟩
 | 0, acc, t :: l, k, h => by simp [top] at h
 | n + 1, acc, t :: l, k, h => by
  simp only [top] at h
  cases hr : run (fuel (t :: l)) .statement false false (t :: l) with
  | none => rw [hr] at h; cases h
  | some y =>
   obtain ⟨x, r⟩ := y
   rw [hr] at h
   obtain ⟨m, h1, _⟩ := top_kids n _ _ _ h
   exact ⟨x :: m, by rw [h1]; simp, fun _ => by simp⟩
theorem tree_head {t : Tk} {l : List Tk} {n : Node} (h : tree (t :: l) = some n) : ∃ k r m, Ev .statement false false (t :: l) k r ∧ n = .mk 30 0 [] (k :: m) ∧ (r ≠ [] → m ≠ []) ∧ (r = [] → m = []) := by
 unfold tree at h
 simp only [List.length_cons, top] at h
 cases hr : run (fuel (t :: l)) .statement false false (t :: l) with
 | none => rw [hr] at h; cases h
 | some y =>
  obtain ⟨k, r⟩ := y
  rw [hr] at h
  simp only at h
  cases ht : top l.length ([] ++ [k]) r with
  | none => rw [ht] at h; cases h
  | some q =>
   rw [ht] at h
   injection h with h
   obtain ⟨m, h1, h2⟩ := top_kids _ _ _ _ ht
   refine ⟨k, r, m, ev_run hr, by rw [← h, h1]; rfl, h2, ?_⟩
   rintro rfl
   have : q = [] ++ [k] := by cases hl : l.length <;> rw [hl] at ht <;> simp [top] at ht <;> exact ht.symm
   rw [this] at h1
   simpa using h1
end Pars
namespace Wri
open Pars
open Lexy (Tk sg nm LexT)
theorem lex_x (z : Bs) {ts : List Tk} (h : LexT ([120, 32, 61, 32] ++ z) ts) : ∃ zs, ts = nm [120] :: sg [61] :: zs ∧ LexT z zs := by
 obtain ⟨t1, rfl, h1⟩ := Lexy.lexT_off (a := [120]) (z := 32 :: 61 :: 32 :: z) (t := nm [120]) (by simp [Lexy.skp, Lexy.isBlank]) (by simp) (by simp [Lexy.next, Lexy.isLetter, Lexy.nameLen, Lexy.isNameB, Lexy.isDigit, Lexy.kws, nm]) h
 obtain ⟨t2, rfl, h2⟩ := Lexy.lexT_off (a := [61]) (z := 32 :: z) (t := sg [61]) (by simp [Lexy.skp, Lexy.isBlank]) (by simp) (by simp [Lexy.next, Lexy.isLetter, Lexy.isDigit, Lexy.sign, Lexy.signs, sg]) (Lexy.lexT_unblank h1)
 exact ⟨t2, rfl, Lexy.lexT_unblank h2⟩
theorem lex_p (z : Bs) {ts : List Tk} (h : LexT (40 :: z) ts) : ∃ zs, ts = sg [40] :: zs ∧ LexT z zs := by
 have e : ∀ d r, z = d :: r → [40, d] ∉ Lexy.signs := by intro d r _; simp [Lexy.signs]
 have h3 : Lexy.sign (40 :: z) = .ok (sg [40], 1) := by
  unfold Lexy.sign
  have hn : ¬ (2 ≤ (40 :: z).length ∧ (40 :: z).take 2 ∈ Lexy.signs) := by
   rintro ⟨a, b⟩
   cases z with
   | nil => simp at a
   | cons d r => exact e d r rfl (by simpa using b)
  rw [if_neg hn, if_pos ⟨by simp, by simp [Lexy.signs]⟩]
  rfl
 exact Lexy.lexT_off (a := [40]) (z := z) (t := sg [40]) (by simp [Lexy.skp, Lexy.isBlank]) (by simp) (by
  have h2 : Lexy.isLetter 40 = false ∧ Lexy.isDigit 40 = false ∧ ((40 : UInt8) == 34) = false := by decide
  simp only [List.cons_append, List.nil_append, Lexy.next, h2.1, h2.2.1, h2.2.2, if_false, Bool.false_eq_true, h3, List.length_cons, List.length_nil]) h
theorem lex_semi : LexT [59] [sg [59]] := by
 have := Lexy.w_sign1 59 (by decide) [] [] (fun c hc => by cases hc) Lexy.lexT_nil
 simpa using this
theorem lex_psemi : LexT [41, 59] [sg [41], sg [59]] := by
 have := Lexy.w_sign1 41 (by decide) [59] [sg [59]] (fun c hc => rfl) lex_semi
 simpa using this
theorem brackets {s : Bs} {n m : Node} (h1 : parse ([120, 32, 61, 32] ++ s ++ [59]) = .ok n) (h2 : parse ([120, 32, 61, 32, 40] ++ s ++ [41, 59]) = .ok m) (hk : n.kids.length = 1) : n = m := by
 have tr : ∀ {s : Bs} {n : Node}, parse s = .ok n → ∃ T, LexT s T ∧ tree T = some n := by
  intro s n h
  obtain ⟨full, e1, e2, _⟩ := parse_right h
  unfold parse at h
  rw [e1] at h
  simp only at h
  cases ht : tree (full.map (·.toTk)) with
  | none => rw [ht] at h; cases h
  | some k =>
   rw [ht] at h
   simp only at h
   split at h
   ·cases h
   ·injection h with h
    subst h
    exact ⟨_, ⟨full, e2, rfl⟩, ht⟩
 obtain ⟨A, a1, a2⟩ := tr h1
 obtain ⟨B, b1, b2⟩ := tr h2
 rw [List.append_assoc] at a1
 obtain ⟨T1, rfl, t1⟩ := lex_x (s ++ [59]) a1
 rw [show [120, 32, 61, 32, 40] ++ s ++ [41, 59] = [120, 32, 61, 32] ++ (40 :: (s ++ [41, 59])) by simp] at b1
 obtain ⟨B1, rfl, b3⟩ := lex_x _ b1
 obtain ⟨T2, rfl, t2⟩ := lex_p _ b3
 obtain ⟨k, r, ml, g1, rfl, g3, g4⟩ := tree_head a2
 obtain ⟨k', r', ml', f1, rfl, f3, f4⟩ := tree_head b2
 have hm0 : ml = [] := by simpa [Node.kids] using hk
 subst hm0
 have hr : r = [] := by
  by_cases hr : r = []
  ·exact hr
  ·exact absurd rfl (g3 hr)
 subst hr
 obtain ⟨e, q, rfl, g5, g6⟩ := stmt_nm g1
 obtain ⟨e', q', rfl, f5, f6⟩ := stmt_nm f1
 obtain ⟨V, rfl, g7⟩ := ev_set g5
 obtain ⟨V', rfl, f7⟩ := ev_set f5
 obtain ⟨⟨t, rfl, htk, htt⟩, _⟩ := is_some g6
 obtain ⟨full1, u1, u2⟩ := t1
 obtain ⟨full2, v1, v2⟩ := t2
 obtain ⟨S, s1, s2⟩ := Lexy.lexT_end (c := 59) (q := []) (by simp) lex_semi u1 s rfl
 obtain ⟨S', s1', s2'⟩ := Lexy.lexT_end (c := 41) (q := [59]) (by simp) lex_psemi v1 s rfl
 obtain rfl := Lexy.lexT_uniq s1 s1'
 rw [u2] at s2
 rw [v2] at s2'
 have h41 : is [41] (t :: ([] : List Tk)) = none := by
  simp only [is]; rw [if_neg]; rintro ⟨_, hx⟩; rw [htt] at hx; exact absurd hx (by decide)
 rcases s2 with rfl | rfl
 ·exfalso
  rcases s2' with rfl | rfl
  ·exact no_paren g7 h41 f7
  ·exact no_paren (ev_more g7 (by simp) [sg [41], sg [59]]) (by
    simp only [List.cons_append, List.nil_append, is]; rw [if_neg]; rintro ⟨_, hx⟩; rw [htt] at hx; exact absurd hx (by decide)) f7
 ·obtain ⟨u, hu⟩ := ev_split g7
  have hu2 := List.append_inj' hu (by simp)
  obtain ⟨rfl, ht⟩ := hu2
  rw [← ht] at g7
  have hcut := ev_cut g7
  rcases s2' with rfl | rfl
  ·exact (no_paren hcut rfl f7).elim
  ·have hE : NoE (sg [41] :: [sg [59]]) := ⟨noF_sg _ (by decide) _, stopE_sg (by decide) (by decide) (by decide) _⟩
   have hsw := ev_swap (r := []) (by simpa using hcut) hE
   have hup := ev_up (ev_paren hsw) (stopE_sg (by decide) (by decide) (by decide) [])
   obtain ⟨e1, e2⟩ := ev_uniq hup f7
   subst e1 e2
   rw [is_sg] at f6
   injection f6 with f6
   rw [f4 f6.symm]
end Wri
namespace Go.Proofs.YtonjdlialejedaaGreatDoor
open Go.Lib (hid)
open Go.RowKit
set_option maxRecDepth 100000 in
set_option maxHeartbeats 4000000 in
theorem brackets_true (s : List UInt8) (w : World) (he : EnvW w) (hs : s.length ≤ 140737488355328) : Calls Tryz.prog 5 #[.string (byt s)] w (TruthOut w) := by
 have hsz : (byt s).size ≤ 140737488355328 := by rw [byt_size]; exact hs
 have g0a : (⟨#[120, 32, 61, 32]⟩ : ByteArray).size = 4 := rfl
 have g0b : (⟨#[59]⟩ : ByteArray).size = 1 := rfl
 have q0a : ¬ 9223372036854775807 < 4 + (byt s).size := by omega
 have q0b : ¬ 9223372036854775807 < 4 + (byt s).size + 1 := by omega
 have HPT0 : Hid ((⟨#[120, 32, 61, 32]⟩ ++ byt s ++ ⟨#[59]⟩ : ByteArray) = byt ([120, 32, 61, 32] ++ s ++ [59])) := hid (by rw [← byt_append, ← byt_append]; rfl)
 have hl0 : ([120, 32, 61, 32] ++ s ++ [59]).length ≤ 9223372036854775807 := by simp only [ln]; omega
 have g1a : (⟨#[120, 32, 61, 32, 40]⟩ : ByteArray).size = 5 := rfl
 have g1b : (⟨#[41, 59]⟩ : ByteArray).size = 2 := rfl
 have q1a : ¬ 9223372036854775807 < 5 + (byt s).size := by omega
 have q1b : ¬ 9223372036854775807 < 5 + (byt s).size + 2 := by omega
 have HPT1 : Hid ((⟨#[120, 32, 61, 32, 40]⟩ ++ byt s ++ ⟨#[41, 59]⟩ : ByteArray) = byt ([120, 32, 61, 32, 40] ++ s ++ [41, 59])) := hid (by rw [← byt_append, ← byt_append]; rfl)
 have hl1 : ([120, 32, 61, 32, 40] ++ s ++ [41, 59]).length ≤ 9223372036854775807 := by simp only [ln]; omega
 have HE := hid he
 have hbig := he.big
 have HU := hid (Below.refl w.heap.size w)
 clear he
 go_enter Tryz.func5, Tryz.ntmps5
 go_wp2_with fail
 rw [HPT0.out]
 refine (parse_c ([120, 32, 61, 32] ++ s ++ [59]) _ (HE.out.below HU.out hbig) hl0).mono ?_
 rintro e w1 ⟨n0, cs0, k0, rfl, hn, hb, hpc⟩
 replace HU := hid (HU.out.trans (hb.mono HU.out.size))
 have HN0 := hid hn
 have HPC0 := hid hpc
 have HINF0 : Hid ((Tryz.prog.info? 24).map (·.size) = some cs0.size) := hid (by rw [NodeAt.size hn]; exact info_nod)
 have H40 : Hid ((4 : Nat) = cs0.size) := hid (NodeAt.size hn).symm
 have HONE0 := hid (NodeAt.one hn)
 clear hn hb hpc
 go_upto_region 2 with (refine wpList_store_box rfl 24 (.tmp 3) (.tmp 12) rfl w1.heap.size cs0 rfl rfl 24 _ (Box.new w1 _ _) HINF0.out H40.out HONE0.out ?_; intro w2 hx hu hz; have HZ := hid hz; clear hz)
 have hb : Below w1.heap.size w1 w2 := (below1 w1 _).trans (hu.own (Nat.le_refl _) (by simp))
 have EB0 := hid hx
 replace HN0 := hid (HN0.out.below hb)
 replace HU := hid (HU.out.trans (hb.mono HU.out.size))
 clear hx hu hb
 go_wp2_with fail
 rw [HPT1.out]
 refine (parse_c ([120, 32, 61, 32, 40] ++ s ++ [41, 59]) _ (HE.out.below HU.out hbig) hl1).mono ?_
 rintro e w3 ⟨n1, cs1, k1, rfl, hn, hb, hpc⟩
 replace HN0 := hid (HN0.out.below hb)
 replace EB0 := bl EB0 hb
 replace HU := hid (HU.out.trans (hb.mono HU.out.size))
 have HN1 := hid hn
 have HPC1 := hid hpc
 have HINF1 : Hid ((Tryz.prog.info? 24).map (·.size) = some cs1.size) := hid (by rw [NodeAt.size hn]; exact info_nod)
 have H41 : Hid ((4 : Nat) = cs1.size) := hid (NodeAt.size hn).symm
 have HONE1 := hid (NodeAt.one hn)
 clear hn hb hpc
 go_upto_region 3 with (refine wpList_store_box rfl 24 (.tmp 5) (.tmp 19) rfl w3.heap.size cs1 rfl rfl 24 _ (Box.new w3 _ _) HINF1.out H41.out HONE1.out ?_; intro w4 hx hu hz; have HZ := hid hz; clear hz)
 have hb : Below w3.heap.size w3 w4 := (below1 w3 _).trans (hu.own (Nat.le_refl _) (by simp))
 have EB1 := hid hx
 replace HN0 := hid (HN0.out.below hb)
 replace HN1 := hid (HN1.out.below hb)
 replace EB0 := bl EB0 hb
 replace HU := hid (HU.out.trans (hb.mono HU.out.size))
 clear hx hu hb
 clear g0a g0b q0a q0b g1a g1b q1a q1b hl0 hl1 hsz
 go_wp2_with fail
 refine (lives_true _ (HE.out.below HU.out hbig)).mono ?_
 rintro e w5 ⟨rfl, hb⟩
 replace HN0 := hid (HN0.out.below hb)
 replace HN1 := hid (HN1.out.below hb)
 replace EB0 := bl EB0 hb
 replace EB1 := bl EB1 hb
 replace HU := hid (HU.out.trans (hb.mono HU.out.size))
 clear hb
 go_wp2_with fail
 refine (ok2_any k0 k1 w5).mono ?_
 rintro e w6 ⟨rfl, hb⟩
 replace HN0 := hid (HN0.out.below hb)
 replace HN1 := hid (HN1.out.below hb)
 replace EB0 := bl EB0 hb
 replace EB1 := bl EB1 hb
 replace HU := hid (HU.out.trans (hb.mono HU.out.size))
 clear hb
 obtain ⟨okb, hok⟩ : ∃ b, (decide (k0 = 0) && decide (k1 = 0)) = b := ⟨_, rfl⟩
 rw [hok]
 have HOK := hid hok
 clear hok
 cases okb with
 | false =>
  go_wp2_with fail
  refine (lives_true _ (HE.out.below HU.out hbig)).mono ?_
  rintro e w7 ⟨rfl, hb⟩
  replace HN0 := hid (HN0.out.below hb)
  replace HN1 := hid (HN1.out.below hb)
  replace EB0 := bl EB0 hb
  replace EB1 := bl EB1 hb
  replace HU := hid (HU.out.trans (hb.mono HU.out.size))
  clear hb
  go_wp2
  go_ret
  exact ⟨rfl, HU.out⟩
 | true =>
  obtain ⟨rfl, rfl⟩ : k0 = 0 ∧ k1 = 0 := by have := HOK.out; simpa using this
  have hp0 : Pars.parse ([120, 32, 61, 32] ++ s ++ [59]) = .ok n0 := by
   rcases HPC0.out with ⟨h, _⟩ | ⟨_, ⟨h, _⟩ | ⟨h, _⟩⟩
   ·exact h
   ·cases h
   ·cases h
  have hp1 : Pars.parse ([120, 32, 61, 32, 40] ++ s ++ [41, 59]) = .ok n1 := by
   rcases HPC1.out with ⟨h, _⟩ | ⟨_, ⟨h, _⟩ | ⟨h, _⟩⟩
   ·exact h
   ·cases h
   ·cases h
  have HBR : Hid (n0.kids.length = 1 → n0 = n1) := hid (Wri.brackets hp0 hp1)
  clear hp0 hp1
  obtain ⟨A0, kc0, hk3⟩ : ∃ A c, cs0[3]? = some (.slice A n0.kids.length c) := by
   have h := HN0.out
   obtain ⟨k, nu, t, l⟩ := n0
   unfold NodeAt at h
   obtain ⟨A, cap, css, rfl, _⟩ := h
   exact ⟨A, cap, rfl⟩
  have HK30 := hid hk3
  clear hk3
  have c3 := EB0.out.cell 3
  rw [HK30.out] at c3
  have hkl : n0.kids.length ≤ 3001 := by
   have h1 := pc_wg HPC0.out
   obtain ⟨k, nu, t, l⟩ := n0
   have := Wri.wgs_len l
   simp only [Wri.wg] at h1
   show l.length ≤ 3001
   omega
  obtain ⟨kl, hkle⟩ : ∃ q, n0.kids.length = q := ⟨_, rfl⟩
  rw [hkle] at c3 hkl HBR
  have HKL := hid hkle
  clear hkle
  by_cases h1 : kl = 1
  ·subst h1
   have e1 : (((1 : Nat) : Int) != 1) = false := rfl
   have HE1 := hid (HBR.out rfl)
   go_upto_region 5 with fail
   clear c3
   have eb0 := EB0.out
   have eb1 := EB1.out
   go_wp2_with (first | (refine wpList_load_row rfl 24 (.tmp 3) rfl w1.heap.size rfl _ cs0 (0, 0) _ eb0 Tryz.underlying24 rfl HINF0.out ?_) | (refine wpList_load_row rfl 24 (.tmp 5) rfl w3.heap.size rfl _ cs1 (0, 0) _ eb1 Tryz.underlying24 rfl HINF1.out ?_))
   refine (same_any (pc_size HPC0.out) HN0.out HN1.out).mono ?_
   rintro e w7 ⟨rfl, hb⟩
   clear eb0 eb1
   replace HN0 := hid (HN0.out.below hb)
   replace HN1 := hid (HN1.out.below hb)
   replace EB0 := bl EB0 hb
   replace EB1 := bl EB1 hb
   replace HU := hid (HU.out.trans (hb.mono HU.out.size))
   clear hb
   have HSM : Hid (Pars.same n0 n1 = true) := hid (by rw [← HE1.out]; exact Pars.same_refl n0)
   rw [HSM.out]
   go_wp2
   go_ret
   exact ⟨rfl, HU.out⟩
  ·have e1 : ((kl : Int) == 1) = false := by rw [beq_eq_false_iff_ne]; omega
   have e2 : ((kl : Int) != 1) = true := by simp [bne, e1]
   have e3 : ¬ (kl : Int) = 1 := by omega
   go_wp2_with fail
   refine (lives_true _ (HE.out.below HU.out hbig)).mono ?_
   rintro e w7 ⟨rfl, hb⟩
   replace HN0 := hid (HN0.out.below hb)
   replace HN1 := hid (HN1.out.below hb)
   replace EB0 := bl EB0 hb
   replace EB1 := bl EB1 hb
   replace HU := hid (HU.out.trans (hb.mono HU.out.size))
   clear hb
   go_wp2
   go_ret
   exact ⟨rfl, HU.out⟩
end Go.Proofs.YtonjdlialejedaaGreatDoor
