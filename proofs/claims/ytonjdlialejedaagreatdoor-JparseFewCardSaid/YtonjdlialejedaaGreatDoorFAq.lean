/-
  Texts that the law leans on: LexW, PlA, PlD, PlE, PlR, PxA, PlQ. Conditions: as each says.
-/
import Derived.Test.YtonjdlialejedaaGreatDoorFAa
import Derived.Test.YtonjdlialejedaaGreatDoorFAp
import Derived.Lib.ItoaLen
import Derived.Test.YtonjdlialejedaaGreatDoorFAb
set_option linter.unusedSimpArgs false
set_option linter.unusedVariables false
namespace Lexy
def shift (q : Nat) (x : Tok) : Tok := ⟨x.toTk, x.lo + q, x.hi + q⟩
theorem lex_shift {p : Nat} {l : Bs} {ts : List Tok} (h : Lex p l ts) (q : Nat) : Lex (p + q) l (ts.map (shift q)) := by
 induction h with
 | done p l hd => exact .done _ _ hd
 | more p l t n ts hne hn _ ih =>
  have e1 : p + skp false l + q = p + q + skp false l := by omega
  have e2 : p + skp false l + n + q = p + q + skp false l + n := by omega
  simp only [List.map_cons, shift]
  rw [e1, e2]
  rw [e2] at ih
  exact .more _ _ t n _ hne hn ih
theorem lex_gap {p k : Nat} {l r : Bs} {ts : List Tok} (hs : skp false r = k + skp false l) (hd : r.drop (k + skp false l) = l.drop (skp false l)) (h : Lex (p + k) l ts) : Lex p r ts := by
 generalize hq : p + k = q at h
 cases h with
 | done _ _ he => exact .done _ _ (by rw [hs, hd]; exact he)
 | more _ _ t n ts hne hn hr =>
  subst hq
  have e1 : p + k + skp false l = p + skp false r := by omega
  rw [e1] at hr ⊢
  have hd' : r.drop (skp false r) = l.drop (skp false l) := by rw [hs]; exact hd
  rw [← hd'] at hne hn hr
  exact .more _ _ t n _ hne hn hr
end Lexy
namespace Lexy
def LexT (l : Bs) (ts : List Tk) : Prop := ∃ full, Lex 0 l full ∧ full.map (·.toTk) = ts
theorem map_shift (q : Nat) (l : List Tok) : (l.map (shift q)).map (·.toTk) = l.map (·.toTk) := by
 rw [List.map_map]; rfl
theorem LexT.at_ {l : Bs} {ts : List Tk} (h : LexT l ts) (p : Nat) : ∃ full, Lex p l full ∧ full.map (·.toTk) = ts := by
 obtain ⟨full, h1, h2⟩ := h
 exact ⟨_, by have := lex_shift h1 p; rwa [Nat.zero_add] at this, by rw [map_shift]; exact h2⟩
theorem lexT_nil : LexT [] [] := ⟨[], .done _ _ rfl, rfl⟩
theorem lexT_blank {z : Bs} {zs : List Tk} (h : LexT z zs) : LexT (32 :: z) zs := by
 obtain ⟨full, h1, h2⟩ := h.at_ 1
 refine ⟨full, lex_gap (p := 0) (k := 1) (l := z) ?_ ?_ h1, h2⟩
 ·simp [skp, isBlank]
 ·rw [Nat.add_comm, List.drop_succ_cons]
theorem lexT_tok {a z : Bs} {t : Tk} {zs : List Tk} (hs : skp false (a ++ z) = 0) (ha : a ≠ []) (hn : next (a ++ z) = .ok (t, a.length)) (h : LexT z zs) : LexT (a ++ z) (t :: zs) := by
 obtain ⟨full, h1, h2⟩ := h.at_ a.length
 have e : (a ++ z).drop (skp false (a ++ z)) = a ++ z := by rw [hs]; rfl
 refine ⟨⟨t, 0 + skp false (a ++ z), 0 + skp false (a ++ z) + a.length⟩ :: full, .more 0 (a ++ z) t a.length full ?_ ?_ ?_, ?_⟩
 ·rw [e]; intro h; exact ha (List.append_eq_nil_iff.1 h).1
 ·rw [e]; exact hn
 ·rw [e, hs, List.drop_left' rfl]; simpa using h1
 ·simp [h2]
def W (P : UInt8 → Bool) (b : Bs) (ts : List Tk) : Prop := ∀ z zs, (∀ c, z.head? = some c → P c = true) → LexT z zs → LexT (b ++ z) (ts ++ zs)
def all : UInt8 → Bool := fun _ => true
def noN : UInt8 → Bool := fun c => !isNameB c
theorem W.weak {P Q : UInt8 → Bool} {b : Bs} {ts : List Tk} (h : W P b ts) (hq : ∀ c, Q c = true → P c = true) : W Q b ts := fun z zs hz => h z zs fun c hc => hq c (hz c hc)
theorem W.n {b : Bs} {ts : List Tk} (h : W all b ts) : W noN b ts := h.weak fun _ _ => rfl
theorem w_nil (P : UInt8 → Bool) : W P [] [] := fun _ _ _ h => h
theorem W.app {P Q : UInt8 → Bool} {b c : Bs} {ts us : List Tk} (h : W P b ts) (h2 : W Q c us) (hp : ∀ z : Bs, (∀ d, z.head? = some d → Q d = true) → ∀ d, (c ++ z).head? = some d → P d = true) : W Q (b ++ c) (ts ++ us) := by
 intro z zs hz hl
 rw [List.append_assoc, List.append_assoc]
 exact h _ _ (hp z hz) (h2 z zs hz hl)
theorem W.after {Q : UInt8 → Bool} {b c : Bs} {ts us : List Tk} (h : W all b ts) (h2 : W Q c us) : W Q (b ++ c) (ts ++ us) := h.app h2 fun _ _ _ _ => rfl
theorem W.ahead {P Q : UInt8 → Bool} {b c : Bs} {d : UInt8} {ts us : List Tk} (h : W P b ts) (hd : P d = true) (h2 : W Q (d :: c) us) : W Q (b ++ (d :: c)) (ts ++ us) := h.app h2 fun z _ e he => by simp at he; subst he; exact hd
theorem w_blank : W all [32] [] := fun z zs _ h => lexT_blank h
def sg (s : Bs) : Tk := ⟨4, s, 0⟩
def kw (s : Bs) : Tk := ⟨5, s, 0⟩
def nm (s : Bs) : Tk := ⟨1, s, 0⟩
theorem w_sign1 (c : UInt8) (hc : c ∈ [40, 41, 91, 93, 123, 125, 44, 59, 58, 46, 63, 43, 45, 42, 37]) : W all [c] [sg [c]] := by
 intro z zs _ h
 simp only [List.mem_cons, List.not_mem_nil, or_false] at hc
 refine lexT_tok (a := [c]) ?_ (by simp) ?_ h
 ·rcases hc with rfl | rfl | rfl | rfl | rfl | rfl | rfl | rfl | rfl | rfl | rfl | rfl | rfl | rfl | rfl <;> simp [skp, isBlank]
 ·have e : ∀ d r, z = d :: r → [c, d] ∉ signs := by
   intro d r _
   rcases hc with rfl | rfl | rfl | rfl | rfl | rfl | rfl | rfl | rfl | rfl | rfl | rfl | rfl | rfl | rfl <;> simp [signs]
  have h1 : [c] ∈ signs := by
   rcases hc with rfl | rfl | rfl | rfl | rfl | rfl | rfl | rfl | rfl | rfl | rfl | rfl | rfl | rfl | rfl <;> decide
  have h2 : isLetter c = false ∧ isDigit c = false ∧ (c == 34) = false := by
   rcases hc with rfl | rfl | rfl | rfl | rfl | rfl | rfl | rfl | rfl | rfl | rfl | rfl | rfl | rfl | rfl <;> decide
  have h3 : sign (c :: z) = .ok (sg [c], 1) := by
   unfold sign
   have hn : ¬ (2 ≤ (c :: z).length ∧ (c :: z).take 2 ∈ signs) := by
    rintro ⟨a, b⟩
    cases z with
    | nil => simp at a
    | cons d r => exact e d r rfl (by simpa using b)
   rw [if_neg hn, if_pos ⟨by simp, by simpa using h1⟩]
   rfl
  simp only [List.cons_append, List.nil_append, next, h2.1, h2.2.1, h2.2.2, if_false, Bool.false_eq_true, h3, List.length_cons, List.length_nil]
theorem w_sign (s : Bs) (hs : s ∈ signs) : W all (s ++ [32]) [sg s] := by
 intro z zs _ h
 rw [List.append_assoc]
 refine lexT_tok (a := s) ?_ ?_ ?_ (lexT_blank h)
 ·simp only [signs, List.mem_cons, List.not_mem_nil, or_false] at hs
  rcases hs with rfl | rfl | rfl | rfl | rfl | rfl | rfl | rfl | rfl | rfl | rfl | rfl | rfl | rfl | rfl | rfl | rfl | rfl | rfl | rfl | rfl | rfl | rfl | rfl | rfl | rfl <;> simp [skp, isBlank]
 ·rintro rfl; exact absurd hs (by decide)
 ·have hz : ∀ q : Bs, [32] ++ q = 32 :: q := fun q => rfl
  rw [hz]
  simp only [signs, List.mem_cons, List.not_mem_nil, or_false] at hs
  rcases hs with rfl | rfl | rfl | rfl | rfl | rfl | rfl | rfl | rfl | rfl | rfl | rfl | rfl | rfl | rfl | rfl | rfl | rfl | rfl | rfl | rfl | rfl | rfl | rfl | rfl | rfl <;> simp [next, sign, signs, isLetter, isDigit, sg]
theorem w_not : W (fun c => c != 61) [33] [sg [33]] := by
 intro z zs hz h
 refine lexT_tok (a := [33]) (by simp [skp, isBlank]) (by simp) ?_ h
 have e : ∀ d r, z = d :: r → [33, d] ∉ signs := by
  intro d r hr
  have hd := hz d (by rw [hr]; rfl)
  simp at hd
  simp [signs, hd]
 have h3 : sign (33 :: z) = .ok (sg [33], 1) := by
  unfold sign
  have hn : ¬ (2 ≤ (33 :: z).length ∧ (33 :: z).take 2 ∈ signs) := by
   rintro ⟨a, b⟩
   cases z with
   | nil => simp at a
   | cons d r => exact e d r rfl (by simpa using b)
  rw [if_neg hn, if_pos ⟨by simp, by simp [signs]⟩]
  rfl
 have h2 : isLetter 33 = false ∧ isDigit 33 = false ∧ ((33 : UInt8) == 34) = false := by decide
 simp only [List.cons_append, List.nil_append, next, h2.1, h2.2.1, h2.2.2, if_false, Bool.false_eq_true, h3, List.length_cons, List.length_nil]
theorem w_word (w : Bs) (c : UInt8) (r : Bs) (hw : w = c :: r) (hc : isLetter c = true) (ha : ∀ d ∈ w, isNameB d = true) : W noN w [⟨if w ∈ kws then 5 else 1, w, 0⟩] := by
 intro z zs hz h
 have hlen : nameLen (w ++ z) = w.length := by
  unfold nameLen
  rw [List.takeWhile_append_of_pos ha]
  cases z with
  | nil => simp
  | cons d q =>
   have := hz d rfl
   simp only [noN, Bool.not_eq_true'] at this
   simp [this]
 refine lexT_tok (a := w) ?_ (by rw [hw]; simp) ?_ h
 ·rw [hw]
  have h1 : isBlank c = false := by
   cases hb : isBlank c with
   | false => rfl
   | true =>
    simp only [isBlank, Bool.or_eq_true, beq_iff_eq] at hb
    rcases hb with ((rfl | rfl) | rfl) | rfl <;> exact absurd hc (by decide)
  have h2 : (c == 47) = false := by
   cases hb : (c == 47) with
   | false => rfl
   | true => have := eq_of_beq hb; subst this; exact absurd hc (by decide)
  simp [skp, h1, h2]
 ·rw [show next (w ++ z) = .ok (⟨if (w ++ z).take (nameLen (w ++ z)) ∈ kws then 5 else 1, (w ++ z).take (nameLen (w ++ z)), 0⟩, nameLen (w ++ z)) from by
   rw [hw]; simp only [List.cons_append, next, hc, if_true]]
  rw [hlen, List.take_left' rfl]
theorem w_kw (w : Bs) (hw : w ∈ kws) : W noN w [kw w] := by
 have h : ∃ c r, w = c :: r ∧ isLetter c = true ∧ ∀ d ∈ w, isNameB d = true := by
  simp only [kws, List.mem_cons, List.not_mem_nil, or_false] at hw
  rcases hw with rfl | rfl | rfl | rfl | rfl | rfl | rfl | rfl | rfl | rfl | rfl | rfl | rfl | rfl | rfl | rfl | rfl <;> exact ⟨_, _, rfl, by decide, by decide⟩
 obtain ⟨c, r, h1, h2, h3⟩ := h
 have := w_word w c r h1 h2 h3
 rwa [if_pos hw] at this
theorem w_kwb (w : Bs) (hw : w ∈ kws) : W all (w ++ [32]) [kw w] := (w_kw w hw).ahead (c := []) (by decide) w_blank
structure IsName (w : Bs) : Prop where
 head : ∃ c r, w = c :: r ∧ isLetter c = true
 all : ∀ d ∈ w, isNameB d = true
 no : w ∉ kws
theorem IsName.w {w : Bs} (h : IsName w) : W noN w [nm w] := by
 obtain ⟨c, r, h1, h2⟩ := h.head
 have := w_word w c r h1 h2 h.all
 rwa [if_neg h.no] at this
theorem isName_of {s : Bs} (h : Wri.name s = true) : IsName s := by
 unfold Wri.name at h
 split at h
 case h_2 => cases h
 rename_i t heq
 simp only [Bool.and_eq_true, decide_eq_true_eq] at h
 obtain ⟨hk, ht⟩ := h
 unfold toks at heq
 split at heq
 ·cases heq
 have hl := (lex_of _ _ _ _ heq).1
 cases hl with
 | more _ _ tk n ts hne hn _ =>
  simp only at hk ht
  have hsk := skp_le false s
  cases hd : s.drop (skp false s) with
  | nil => exact absurd hd hne
  | cons c r =>
   rw [hd] at hn
   simp only [next] at hn
   by_cases h1 : isLetter c = true
   ·rw [if_pos h1] at hn
    simp only [Res.ok.injEq, Prod.mk.injEq] at hn
    obtain ⟨rfl, hn⟩ := hn
    simp only at ht hk
    have hle : ((c :: r).take (nameLen (c :: r))).length ≤ (c :: r).length := by rw [List.length_take]; omega
    rw [ht, ← hd, List.length_drop] at hle
    have hz : skp false s = 0 := by
     cases s with
     | nil => simp [skp]
     | cons a b => simp only [List.length_cons] at hle hsk ⊢; omega
    rw [hz, List.drop_zero] at hd
    subst hd
    have hall := all_tw isNameB (c :: r)
    unfold nameLen at ht
    rw [take_tw] at ht
    rw [ht] at hall
    refine ⟨⟨c, r, rfl, h1⟩, hall, ?_⟩
    intro hin
    unfold nameLen at hk
    rw [take_tw, ht, if_pos hin] at hk
    cases hk
   ·exfalso
    rw [if_neg h1] at hn
    split at hn
    ·split at hn
     ·cases hn
     ·split at hn
      ·cases hn
      ·simp only [Res.ok.injEq, Prod.mk.injEq] at hn; obtain ⟨rfl, _⟩ := hn; cases hk
    ·split at hn
     ·split at hn
      ·cases hn
      ·simp only [Res.ok.injEq, Prod.mk.injEq] at hn; obtain ⟨rfl, _⟩ := hn; cases hk
     ·unfold sign at hn
      split at hn
      ·simp only [Res.ok.injEq, Prod.mk.injEq] at hn; obtain ⟨rfl, _⟩ := hn; cases hk
      ·split at hn
       ·simp only [Res.ok.injEq, Prod.mk.injEq] at hn; obtain ⟨rfl, _⟩ := hn; cases hk
       ·cases hn
theorem w_quote (l : Bs) : W Lexy.all (quote l) [⟨3, l, 0⟩] := by
 intro z zs _ h
 refine lexT_tok (a := quote l) (by simp [quote, skp, isBlank]) (by simp [quote]) ?_ h
 have h1 := toks_quote l
 have h2 := txt_quote l
 unfold txt at h2
 have h3 := (txtF_app _ z.length _ z _ _ h2).1
 have h4 : txt ((l.flatMap qb ++ [34]) ++ z) = some (l, (l.flatMap qb).length + 1) := by
  unfold txt; rw [List.length_append]; exact h3
 have e : quote l ++ z = 34 :: ((l.flatMap qb ++ [34]) ++ z) := by simp [quote]
 rw [e]
 simp only [next]
 rw [if_neg (by decide), if_neg (by decide), if_pos (by decide), h4]
 simp [quote]; omega
end Lexy
namespace Lexy
theorem numF_app : ∀ (a b : Bs) (n : Nat), numF n (a ++ b) = (numF n a).bind fun m => numF m b
 | [], b, n => rfl
 | c :: a, b, n => by
  simp only [List.cons_append, numF]
  split
  ·rfl
  ·exact numF_app a b _
theorem dig_nat {d : Nat} (h : d < 10) : (UInt8.ofNat (48 + d)).toNat = 48 + d := by
 rw [UInt8.toNat_ofNat']; omega
theorem numF_dec (u : Nat) : u ≤ 9007199254740992 → numF 0 (Go.Lib.decDigits u) = some u := by
 induction u using Nat.strongRecOn with
 | _ u ih =>
  intro hu
  by_cases h : u < 10
  ·rw [Go.Lib.decDigits, dif_pos h]
   simp only [numF, dig_nat h]
   rw [if_neg (by omega)]
   simp
  ·rw [Go.Lib.decDigits, dif_neg h, numF_app, ih (u / 10) (by omega) (by omega)]
   simp only [Option.bind_some, numF, dig_nat (show u % 10 < 10 by omega)]
   rw [if_neg (by omega)]
   congr 1
   omega
theorem dec_digit (u : Nat) : ∀ d ∈ Go.Lib.decDigits u, isDigit d = true := by
 induction u using Nat.strongRecOn with
 | _ u ih =>
  have key : ∀ k, k < 10 → isDigit (UInt8.ofNat (48 + k)) = true := fun k hk => by
   unfold isDigit; rw [dig_nat hk]; simp; omega
  by_cases h : u < 10
  ·rw [Go.Lib.decDigits, dif_pos h]
   intro d hd
   simp only [List.mem_cons, List.not_mem_nil, or_false] at hd
   subst hd
   exact key u h
  ·rw [Go.Lib.decDigits, dif_neg h]
   intro d hd
   rcases List.mem_append.1 hd with hd | hd
   ·exact ih (u / 10) (by omega) d hd
   ·simp only [List.mem_cons, List.not_mem_nil, or_false] at hd
    subst hd
    exact key _ (by omega)
theorem dec_ne (u : Nat) : Go.Lib.decDigits u ≠ [] := by
 rw [Go.Lib.decDigits]
 split <;> simp
theorem digit_no {c : UInt8} (h : isDigit c = true) : isLetter c = false ∧ isBlank c = false ∧ (c == 47) = false ∧ (c == 34) = false := by
 have h0 : 48 ≤ c.toNat ∧ c.toNat ≤ 57 := by unfold isDigit at h; simpa using h
 have e : ∀ n : UInt8, (c.toNat ≠ n.toNat) → (c == n) = false := fun n hn => by
  cases hb : (c == n) with
  | false => rfl
  | true => exact absurd (congrArg UInt8.toNat (eq_of_beq hb)) hn
 refine ⟨?_, ?_, e _ (by show _ ≠ 47; omega), e _ (by show _ ≠ 34; omega)⟩
 ·unfold isLetter
  rw [e 95 (by show _ ≠ 95; omega)]
  simp; omega
 ·unfold isBlank
  rw [e 32 (by show _ ≠ 32; omega), e 9 (by show _ ≠ 9; omega), e 10 (by show _ ≠ 10; omega), e 13 (by show _ ≠ 13; omega)]
  rfl
theorem w_num (u : Nat) (hu : u ≤ 9007199254740992) : W noN (Go.Lib.decDigits u) [⟨2, [], u⟩] := by
 intro z zs hz h
 have hne := dec_ne u
 have hd := dec_digit u
 have hn := numF_dec u hu
 generalize Go.Lib.decDigits u = w at hne hd hn
 cases w with
 | nil => exact absurd rfl hne
 | cons c r =>
  have hc := digit_no (hd c (by simp))
  have hlen : digLen ((c :: r) ++ z) = (c :: r).length := by
   unfold digLen
   rw [List.takeWhile_append_of_pos hd]
   cases z with
   | nil => simp
   | cons d q =>
    have := hz d rfl
    simp only [noN, isNameB, Bool.not_eq_true', Bool.or_eq_false_iff] at this
    simp [this.2]
  refine lexT_tok (a := c :: r) ?_ (by simp) ?_ h
  ·simp [skp, hc.2.1, hc.2.2.1]
  ·rw [List.cons_append]
   simp only [next, hc.1, hd c (by simp), if_true, if_false, Bool.false_eq_true]
   rw [← List.cons_append, hlen, List.take_left' rfl, List.drop_left' rfl, hn]
   simp only
   rw [if_neg]
   cases z with
   | nil => simp
   | cons d q =>
    have := hz d rfl
    simp only [noN, isNameB, Bool.not_eq_true', Bool.or_eq_false_iff] at this
    simp [this.1]
end Lexy
namespace Wri
open Pars (Node Bs)
open Lexy (Tk sg kw nm W noN all IsName LexT)
abbrev G := M → List Tk
def tkid (f : List G) (i : Nat) : G := f.getD i (fun _ => [])
def tjoin : List (List Tk) → List Tk
 | [] => []
 | [a] => a
 | a :: l => a ++ [sg [44]] ++ tjoin l
def tlisted (o c : Bs) (l : List (List Tk)) : List Tk := [sg o] ++ tjoin l ++ [sg c]
def tFn (t : Bs) (f : List G) : List Tk := [kw Pars.wFn] ++ (if t = [] then [] else [nm t]) ++ tlisted [40] [41] ((f.take (f.length - 1)).map (· .param)) ++ tkid f (f.length - 1) .block
def tFst (k nu : Int) (t : Bs) (f : List G) : List Tk :=
 if k = 1 then [⟨2, [], nu.toNat⟩] else if k = 2 then [⟨3, t, 0⟩] else if k = 3 then (if nu = 0 then [kw Pars.wFalse] else [kw Pars.wTrue]) else if k = 4 then [kw Pars.wNull] else if k = 5 then [nm t]
 else if k = 6 then tlisted [91] [93] (f.map (· (.at (-2)))) else if k = 7 then tlisted [123] [125] (f.map (· .pair)) else if k = 9 then tFn t f else []
def tEx (k nu : Int) (t : Bs) (f : List G) : List Tk :=
 if k = 19 then tkid f 0 (.at 7) ++ [sg [61]] ++ tkid f 1 (.at (-2))
 else if k = 18 then tkid f 0 (.at 0) ++ [sg [63]] ++ tkid f 1 (.at (-2)) ++ [sg [58]] ++ tkid f 2 (.at (-2))
 else if k = 17 ∨ k = 16 ∨ k = 15 then tkid f 0 (.at (rank (.mk k nu t []))) ++ [sg (sgn k t)] ++ tkid f 1 (.at (rank (.mk k nu t []) + 1))
 else if k = 14 then [sg t] ++ tkid f 0 (.at 6)
 else if k = 11 then tkid f 0 (.at 7) ++ tlisted [40] [41] ((f.drop 1).map (· (.at (-2))))
 else if k = 12 then tkid f 0 (.at 7) ++ [sg [91]] ++ tkid f 1 (.at (-2)) ++ [sg [93]]
 else if k = 13 then tkid f 0 (.at 7) ++ [sg [46], nm t]
 else tFst k nu t f
def tBlock (f : List G) : List Tk := [sg [123]] ++ (f.flatMap fun g => g .stmt) ++ [sg [125]]
def tIfs (l : List Node) (f : List G) : List Tk :=
 [kw Pars.wIf, sg [40]] ++ tkid f 0 (.at (-2)) ++ [sg [41]] ++ tkid f 1 .block ++
  (if f.length = 3 then [kw Pars.wElse] ++ (if (l.getD 2 default).kind = 22 then tkid f 2 .ifs else tkid f 2 .block) else [])
def tTries (nu : Int) (t : Bs) (f : List G) : List Tk :=
 [kw Pars.wTry] ++ tkid f 0 .block ++ (if nu = 2 then [] else [kw Pars.wCatch, sg [40], nm t, sg [41]] ++ tkid f 1 .block) ++
  (if 1 < nu then [kw Pars.wFinally] ++ tkid f (if nu = 2 then 1 else 2) .block else [])
def tStmt (k nu : Int) (t : Bs) (l : List Node) (f : List G) : List Tk :=
 if k = 20 then [kw Pars.wLet, nm t, sg [61]] ++ tkid f 0 (.at (-2)) ++ [sg [59]]
 else if k = 21 then tkid f 0 .fn
 else if k = 22 then tIfs l f
 else if k = 23 then [kw Pars.wWhile, sg [40]] ++ tkid f 0 (.at (-2)) ++ [sg [41]] ++ tkid f 1 .block
 else if k = 24 then [kw Pars.wFor, sg [40], kw Pars.wLet, nm t, kw Pars.wOf] ++ tkid f 0 (.at (-2)) ++ [sg [41]] ++ tkid f 1 .block
 else if k = 25 then [kw Pars.wReturn] ++ (if 0 < f.length then tkid f 0 (.at (-2)) else []) ++ [sg [59]]
 else if k = 26 then [kw Pars.wBreak, sg [59]]
 else if k = 27 then [kw Pars.wContinue, sg [59]]
 else if k = 28 then [kw Pars.wThrow] ++ tkid f 0 (.at (-2)) ++ [sg [59]]
 else if k = 29 then tTries nu t f
 else if k = 30 then tBlock f
 else if k = 31 then (if front (l.getD 0 default) = 7 ∨ front (l.getD 0 default) = 9 then [sg [40]] ++ tkid f 0 (.at (-2)) ++ [sg [41]] else tkid f 0 (.at (-2))) ++ [sg [59]]
 else []
def tstep (k nu : Int) (t : Bs) (l : List Node) (f : List G) : G
 | .ex => tEx k nu t f
 | .at q => if q ≤ rank (.mk k nu t []) then tEx k nu t f else [sg [40]] ++ tEx k nu t f ++ [sg [41]]
 | .fst => tFst k nu t f
 | .fn => tFn t f
 | .block => tBlock f
 | .ifs => tIfs l f
 | .tries => tTries nu t f
 | .stmt => tStmt k nu t l f
 | .param => [nm t]
 | .pair => [nm t, sg [58]] ++ tkid f 0 (.at (-2))
mutual
def tw : Node → G
 | .mk k nu t l => tstep k nu t l (tws l)
def tws : List Node → List G
 | [] => []
 | n :: l => tw n :: tws l
end
def ttext (n : Node) : List Tk := n.kids.flatMap fun x => tw x .stmt
theorem tws_map : ∀ l : List Node, tws l = l.map tw
 | [] => rfl
 | n :: l => by simp only [tws, List.map_cons, tws_map l]
def HD (b : Bs) : Prop := ∃ c r, b = c :: r ∧ c ≠ 61
theorem HD.app {a : Bs} (h : HD a) (b : Bs) : HD (a ++ b) := by obtain ⟨c, r, rfl, hc⟩ := h; exact ⟨c, r ++ b, rfl, hc⟩
theorem name_hd {t : Bs} (h : name t = true) : HD t := by
 obtain ⟨c, r, h1, h2⟩ := (Lexy.isName_of h).head
 exact ⟨c, r, h1, by rintro rfl; exact absurd h2 (by decide)⟩
theorem dec_hd (u : Nat) : HD (Go.Lib.decDigits u) := by
 have h1 := Lexy.dec_ne u
 have h2 := Lexy.dec_digit u
 cases h : Go.Lib.decDigits u with
 | nil => exact absurd h h1
 | cons c r => exact ⟨c, r, rfl, by rintro rfl; exact absurd (h2 61 (by rw [h]; simp)) (by decide)⟩
theorem itoa_dec {nu : Int} (h : 0 ≤ nu) : Go.Lib.itoa nu = Go.Lib.decDigits nu.toNat := by unfold Go.Lib.itoa; rw [if_neg (by omega)]
theorem wr_at (n : Node) (q : Int) : wr n (.at q) = if q ≤ rank n then wr n .ex else [40] ++ wr n .ex ++ [41] := by
 cases n with | mk k nu t l => rfl
theorem tw_at (n : Node) (q : Int) : tw n (.at q) = if q ≤ rank n then tw n .ex else [sg [40]] ++ tw n .ex ++ [sg [41]] := by
 cases n with | mk k nu t l => rfl
theorem at_hd {n : Node} (h : HD (wr n .ex)) (q : Int) : HD (wr n (.at q)) := by
 rw [wr_at]
 split
 ·exact h
 ·exact ⟨40, _, rfl, by decide⟩
theorem ex_hd {n : Node} {fn lp : Bool} (h : Rt fn lp n) : isE n → HD (wr n .ex) := by
 induction h with
 | num fn lp nu h1 h2 => intro _; show HD (Go.Lib.itoa nu); rw [itoa_dec h1]; exact dec_hd _
 | str fn lp t => intro _; exact ⟨34, _, rfl, by decide⟩
 | bool fn lp nu h => intro _; rcases h with rfl | rfl <;> exact ⟨_, _, rfl, by decide⟩
 | null => intro _; exact ⟨_, _, rfl, by decide⟩
 | var fn lp t h => intro _; exact name_hd h
 | list fn lp l h1 h2 ih => intro _; exact ⟨91, _, rfl, by decide⟩
 | recd fn lp l h1 h2 ih => intro _; exact ⟨123, _, rfl, by decide⟩
 | func fn lp t ps b h1 h2 h3 h4 ih => intro _; exact ⟨102, _, rfl, by decide⟩
 | call fn lp a l h1 h2 h3 h4 ih1 ih2 => intro _; exact (at_hd (ih1 h1) 7).app _
 | index fn lp a b h1 h2 h3 h4 ih1 ih2 => intro _; exact (((at_hd (ih1 h1) 7).app _).app _).app _
 | dot fn lp t a h1 h2 h3 ih => intro _; exact (at_hd (ih h2) 7).app _
 | unary fn lp t a h1 h2 h3 ih => intro _; rcases h1 with rfl | rfl <;> exact ⟨_, _, rfl, by decide⟩
 | binary fn lp t a b h1 h2 h3 h4 h5 ih1 ih2 => intro _; exact ((at_hd (ih1 h2) _).app _).app _
 | and_ fn lp a b h1 h2 h3 h4 ih1 ih2 => intro _; exact ((at_hd (ih1 h1) _).app _).app _
 | or_ fn lp a b h1 h2 h3 h4 ih1 ih2 => intro _; exact ((at_hd (ih1 h1) _).app _).app _
 | cond fn lp a b c h1 h2 h3 h4 h5 h6 ih1 ih2 ih3 => intro _; exact ((((at_hd (ih1 h1) 0).app _).app _).app _).app _
 | assign fn lp a b h1 h2 h3 h4 ih1 ih2 =>
  intro _
  have : isE a := by unfold isT at h1; unfold isE; omega
  exact ((at_hd (ih1 this) 7).app _).app _
 | _ => intro h; unfold isE at h; simp [Node.kind] at h
theorem w_join (Q : UInt8 → Bool) (hq : Q 44 = true) : ∀ (l : List (Bs × List Tk)), (∀ x ∈ l, W Q x.1 x.2) → W Q (joinC (l.map (·.1))) (tjoin (l.map (·.2)))
 | [], _ => Lexy.w_nil Q
 | [a], h => h a (by simp)
 | a :: b :: l, h => by
  have ih := w_join Q hq (b :: l) fun x hx => h x (by simp only [List.mem_cons] at hx ⊢; exact .inr hx)
  have h1 := h a (by simp)
  have h2 : W Q (a.1 ++ ([44, 32] ++ joinC ((b :: l).map (·.1)))) (a.2 ++ ([sg [44]] ++ tjoin ((b :: l).map (·.2)))) :=
   h1.ahead (d := 44) (c := [32] ++ joinC ((b :: l).map (·.1))) hq (((Lexy.w_sign1 44 (by decide)).after Lexy.w_blank).after ih)
  simpa [joinC, tjoin, List.append_assoc] using h2
theorem w_listed (Q : UInt8 → Bool) (hq : Q 44 = true) (o c : UInt8) (ho : o ∈ [40, 41, 91, 93, 123, 125, 44, 59, 58, 46, 63, 43, 45, 42, 37]) (hc : c ∈ [40, 41, 91, 93, 123, 125, 44, 59, 58, 46, 63, 43, 45, 42, 37]) (hqc : Q c = true) (l : List (Bs × List Tk)) (h : ∀ x ∈ l, W Q x.1 x.2) : W all (listed [o] [c] (l.map (·.1))) (tlisted [o] [c] (l.map (·.2))) :=
 (((Lexy.w_sign1 o ho).after (w_join Q hq l h)).ahead hqc (Lexy.w_sign1 c hc))
theorem w_kids (m : M) (l : List Node) (h : ∀ x ∈ l, W noN (wr x m) (tw x m)) (o c : UInt8) (ho : o ∈ [40, 41, 91, 93, 123, 125, 44, 59, 58, 46, 63, 43, 45, 42, 37]) (hc : c ∈ [40, 41, 91, 93, 123, 125, 44, 59, 58, 46, 63, 43, 45, 42, 37]) (hqc : noN c = true) : W all (listed [o] [c] (l.map (wr · m))) (tlisted [o] [c] (l.map (tw · m))) := by
 have := w_listed noN (by decide) o c ho hc hqc (l.map fun x => (wr x m, tw x m)) (by
  intro x hx
  obtain ⟨y, hy, rfl⟩ := List.mem_map.1 hx
  exact h y hy)
 simpa [List.map_map, Function.comp_def] using this
end Wri
namespace Wri
open Pars (Node Bs)
open Lexy (Tk sg kw nm W noN all IsName LexT)
structure LX (n : Node) : Prop where
 ex : isE n → W noN (wr n .ex) (tw n .ex)
 stmt : 20 ≤ n.kind → W noN (wr n .stmt) (tw n .stmt)
 fn : n.kind = 9 → W noN (wr n .fn) (tw n .fn)
 block : n.kind = 30 → W noN (wr n .block) (tw n .block)
 ifs : n.kind = 22 → W noN (wr n .ifs) (tw n .ifs)
 pair : n.kind = 8 → W noN (wr n .pair) (tw n .pair)
theorem LX.e {n : Node} (h : W noN (wr n .ex) (tw n .ex)) (hk : n.kind ≤ 19 := by simp [Node.kind]) (h8 : n.kind ≠ 8 := by simp [Node.kind]) (h9 : n.kind ≠ 9 := by simp [Node.kind]) : LX n :=
 ⟨fun _ => h, fun e => by omega, fun e => absurd e h9, fun e => by omega, fun e => by omega, fun e => absurd e h8⟩
theorem LX.s {n : Node} (h : W noN (wr n .stmt) (tw n .stmt)) (hk : 20 ≤ n.kind := by simp [Node.kind]) (h2 : n.kind ≠ 22 := by simp [Node.kind]) (h3 : n.kind ≠ 30 := by simp [Node.kind]) : LX n :=
 ⟨fun e => by unfold isE at e; omega, fun _ => h, fun e => by omega, fun e => absurd e h3, fun e => absurd e h2, fun e => by omega⟩
theorem LX.at_ {n : Node} (h : LX n) (he : isE n) (q : Int) : W noN (wr n (.at q)) (tw n (.at q)) := by
 rw [wr_at, tw_at]
 split
 ·exact h.ex he
 ·exact (((Lexy.w_sign1 40 (by decide)).after (h.ex he)).ahead (by decide) (Lexy.w_sign1 41 (by decide))).n
theorem glue (s : Bs) (hs : s ∈ Lexy.signs) : W all (32 :: (s ++ [32])) [sg s] := Lexy.w_blank.after (Lexy.w_sign s hs)
theorem sgn_signs {k : Int} {t : Bs} (h : k = 17 ∨ k = 16 ∨ t ∈ binS) : sgn k t ∈ Lexy.signs := by
 unfold sgn
 by_cases h1 : k = 17
 ·rw [if_pos h1]; decide
 rw [if_neg h1]
 by_cases h2 : k = 16
 ·rw [if_pos h2]; decide
 rw [if_neg h2]
 have : ∀ t ∈ binS, t ∈ Lexy.signs := by decide
 rcases h with h | h | h
 ·exact absurd h h1
 ·exact absurd h h2
 ·exact this t h
theorem w_nm {t : Bs} (h : name t = true) : W noN t [nm t] := (Lexy.isName_of h).w
theorem w_sgs (c : UInt8) (hc : c ∈ [40, 41, 91, 93, 123, 125, 44, 59, 58, 46, 63, 43, 45, 42, 37]) : W all [c] [sg [c]] := Lexy.w_sign1 c hc
theorem w_sgb (c : UInt8) (hc : c ∈ [40, 41, 91, 93, 123, 125, 44, 59, 58, 46, 63, 43, 45, 42, 37]) : W all [c, 32] [sg [c]] := (Lexy.w_sign1 c hc).after Lexy.w_blank
theorem w_flat : ∀ l : List Node, (∀ x ∈ l, W noN (wr x .stmt) (tw x .stmt)) → W all (l.flatMap fun x => wr x .stmt ++ [32]) (l.flatMap fun x => tw x .stmt)
 | [], _ => Lexy.w_nil _
 | n :: l, h => by
  rw [List.flatMap_cons, List.flatMap_cons]
  exact (((h n (by simp)).ahead (d := 32) (c := []) (by decide) Lexy.w_blank).after (w_flat l fun x hx => h x (by simp [hx]))).weak (fun _ h => h) |> fun q => by simpa using q
theorem wr_blk (nu : Int) (t : Bs) (l : List Node) : wr (.mk 30 nu t l) .block = [123, 32] ++ (l.flatMap fun x => wr x .stmt ++ [32]) ++ [125] := by
 show wBlock (wrs l) = _
 unfold wBlock
 rw [wrs_map, List.flatMap_map]
theorem tw_blk (nu : Int) (t : Bs) (l : List Node) : tw (.mk 30 nu t l) .block = [sg [123]] ++ (l.flatMap fun x => tw x .stmt) ++ [sg [125]] := by
 show tBlock (tws l) = _
 unfold tBlock
 rw [tws_map, List.flatMap_map]
theorem wr_func (t : Bs) (ps : List Bs) (b : Node) : wr (.mk 9 0 t (ps.map (fun p => .mk 10 0 p []) ++ [b])) .fn = [102, 110] ++ (if t = [] then [] else 32 :: t) ++ listed [40] [41] ps ++ [32] ++ wr b .block := by
 show wFn t (wrs _) = _
 unfold wFn
 have e : ((ps.map (fun p => wr (.mk 10 0 p [])) ++ [wr b]).take ((ps.map (fun p => wr (.mk 10 0 p [])) ++ [wr b]).length - 1)).map (fun x => x M.param) = ps := by
  rw [show (ps.map (fun p => wr (.mk 10 0 p [])) ++ [wr b]).length - 1 = (ps.map (fun p => wr (.mk 10 0 p []))).length by simp, List.take_left' rfl, List.map_map]
  have : ((fun x : F => x M.param) ∘ fun p => wr (.mk 10 0 p [])) = (id : Bs → Bs) := rfl
  rw [this, List.map_id]
 have e2 : kid (ps.map (fun p => wr (.mk 10 0 p [])) ++ [wr b]) ((ps.map (fun p => wr (.mk 10 0 p [])) ++ [wr b]).length - 1) = wr b := by
  unfold kid
  rw [show (ps.map (fun p => wr (.mk 10 0 p [])) ++ [wr b]).length - 1 = (ps.map (fun p => wr (.mk 10 0 p []))).length by simp, List.getD_eq_getElem?_getD, List.getElem?_append_right (Nat.le_refl _)]
  simp
 rw [wrs_map, List.map_append, List.map_map, List.map_cons, List.map_nil]
 have e3 : (wr ∘ fun p : Bs => Node.mk 10 0 p []) = fun p => wr (.mk 10 0 p []) := rfl
 rw [e3, e, e2]
theorem tw_func (t : Bs) (ps : List Bs) (b : Node) : tw (.mk 9 0 t (ps.map (fun p => .mk 10 0 p []) ++ [b])) .fn = [kw Pars.wFn] ++ (if t = [] then [] else [nm t]) ++ tlisted [40] [41] (ps.map fun p => [nm p]) ++ tw b .block := by
 show tFn t (tws _) = _
 unfold tFn
 have e : ((ps.map (fun p => tw (.mk 10 0 p [])) ++ [tw b]).take ((ps.map (fun p => tw (.mk 10 0 p [])) ++ [tw b]).length - 1)).map (fun x => x M.param) = ps.map fun p => [nm p] := by
  rw [show (ps.map (fun p => tw (.mk 10 0 p [])) ++ [tw b]).length - 1 = (ps.map (fun p => tw (.mk 10 0 p []))).length by simp, List.take_left' rfl, List.map_map]
  rfl
 have e2 : tkid (ps.map (fun p => tw (.mk 10 0 p [])) ++ [tw b]) ((ps.map (fun p => tw (.mk 10 0 p [])) ++ [tw b]).length - 1) = tw b := by
  unfold tkid
  rw [show (ps.map (fun p => tw (.mk 10 0 p [])) ++ [tw b]).length - 1 = (ps.map (fun p => tw (.mk 10 0 p []))).length by simp, List.getD_eq_getElem?_getD, List.getElem?_append_right (Nat.le_refl _)]
  simp
 rw [tws_map, List.map_append, List.map_map, List.map_cons, List.map_nil]
 have e3 : (tw ∘ fun p : Bs => Node.mk 10 0 p []) = fun p => tw (.mk 10 0 p []) := rfl
 rw [e3, e, e2]
theorem w_fn {t : Bs} {ps : List Bs} {b : Node} (h1 : t = [] ∨ name t = true) (h2 : ∀ x ∈ ps, name x = true) (hb : W noN (wr b .block) (tw b .block)) : W noN (wr (.mk 9 0 t (ps.map (fun p => .mk 10 0 p []) ++ [b])) .fn) (tw (.mk 9 0 t (ps.map (fun p => .mk 10 0 p []) ++ [b])) .fn) := by
 rw [wr_func, tw_func]
 have hl := w_listed noN (by decide) 40 41 (by decide) (by decide) (by decide) (ps.map fun p => (p, [nm p])) (by
  intro x hx
  obtain ⟨p, hp, rfl⟩ := List.mem_map.1 hx
  exact w_nm (h2 p hp))
 rw [List.map_map, List.map_map] at hl
 have e1 : ps.map ((fun x : Bs × List Tk => x.1) ∘ fun p => (p, [nm p])) = ps := by
  have : ((fun x : Bs × List Tk => x.1) ∘ fun p => (p, [nm p])) = (id : Bs → Bs) := rfl
  rw [this, List.map_id]
 have e2 : ps.map ((fun x : Bs × List Tk => x.2) ∘ fun p => (p, [nm p])) = ps.map fun p => [nm p] := rfl
 rw [e1, e2] at hl
 have hf : W noN ([102, 110] ++ (if t = [] then [] else 32 :: t)) ([kw Pars.wFn] ++ (if t = [] then [] else [nm t])) := by
  rcases h1 with rfl | h1
  ·exact Lexy.w_kw [102, 110] (by decide)
  ·have ht : t ≠ [] := not3 h1
   rw [if_neg ht, if_neg ht]
   exact (Lexy.w_kwb [102, 110] (by decide)).after (w_nm h1) |> fun q => by simpa using q
 have h3 := (hf.ahead (d := 40) (c := joinC ps ++ [41]) (by decide) hl)
 have h4 := (h3.after Lexy.w_blank).after hb
 simpa [listed, List.append_assoc] using h4
theorem lx {n : Node} {fn lp : Bool} (h : Rt fn lp n) : LX n := by
 induction h with
 | num fn lp nu h1 h2 =>
  refine .e ?_
  show W noN (Go.Lib.itoa nu) [⟨2, [], nu.toNat⟩]
  rw [itoa_dec h1]
  exact Lexy.w_num _ (by omega)
 | str fn lp t => exact .e (Lexy.w_quote t).n
 | bool fn lp nu h =>
  refine .e ?_
  rcases h with rfl | rfl
  ·exact Lexy.w_kw Pars.wFalse (by decide)
  ·exact Lexy.w_kw Pars.wTrue (by decide)
 | null => exact .e (Lexy.w_kw Pars.wNull (by decide))
 | var fn lp t h => exact .e (w_nm h)
 | list fn lp l h1 h2 ih =>
  refine .e ?_
  show W noN (listed [91] [93] ((wrs l).map (· (.at (-2))))) (tlisted [91] [93] ((tws l).map (· (.at (-2)))))
  rw [wrs_map, tws_map, List.map_map, List.map_map]
  exact (w_kids (.at (-2)) l (fun x hx => (ih x hx).at_ (h1 x hx) _) 91 93 (by decide) (by decide) (by decide)).n
 | recd fn lp l h1 h2 ih =>
  refine .e ?_
  show W noN (listed [123] [125] ((wrs l).map (· .pair))) (tlisted [123] [125] ((tws l).map (· .pair)))
  rw [wrs_map, tws_map, List.map_map, List.map_map]
  exact (w_kids .pair l (fun x hx => (ih x hx).pair (h1 x hx)) 123 125 (by decide) (by decide) (by decide)).n
 | pair fn lp t a h1 h2 h3 ih =>
  refine ⟨fun e => by simp [isE, Node.kind] at e, fun e => by simp [Node.kind] at e, fun e => by simp [Node.kind] at e, fun e => by simp [Node.kind] at e, fun e => by simp [Node.kind] at e, fun _ => ?_⟩
  exact ((w_nm h1).ahead (by decide) (w_sgb 58 (by decide))).after (ih.at_ h2 (-2))
 | func fn lp t ps b h1 h2 h3 h4 ih =>
  have hw := w_fn h1 h2 (ih.block h3)
  exact ⟨fun _ => hw, fun e => by simp [Node.kind] at e, fun _ => hw, fun e => by simp [Node.kind] at e, fun e => by simp [Node.kind] at e, fun e => by simp [Node.kind] at e⟩
 | param fn lp t h => exact ⟨fun e => by simp [isE, Node.kind] at e, fun e => by simp [Node.kind] at e, fun e => by simp [Node.kind] at e, fun e => by simp [Node.kind] at e, fun e => by simp [Node.kind] at e, fun e => by simp [Node.kind] at e⟩
 | call fn lp a l h1 h2 h3 h4 ih1 ih2 =>
  refine .e ?_
  show W noN (wr a (.at 7) ++ listed [40] [41] ((wrs l).map (· (.at (-2))))) (tw a (.at 7) ++ tlisted [40] [41] ((tws l).map (· (.at (-2)))))
  rw [wrs_map, tws_map, List.map_map, List.map_map]
  exact ((ih1.at_ h1 7).ahead (by decide) (w_kids (.at (-2)) l (fun x hx => (ih2 x hx).at_ (h3 x hx) _) 40 41 (by decide) (by decide) (by decide))).n
 | index fn lp a b h1 h2 h3 h4 ih1 ih2 =>
  refine .e ?_
  exact ((((ih1.at_ h1 7).ahead (by decide) (w_sgs 91 (by decide))).after (ih2.at_ h3 (-2))).ahead (by decide) (w_sgs 93 (by decide))).n
 | dot fn lp t a h1 h2 h3 ih =>
  refine .e ?_
  exact (ih.at_ h2 7).ahead (d := 46) (c := t) (by decide) ((w_sgs 46 (by decide)).after (w_nm h1))
 | unary fn lp t a h1 h2 h3 ih =>
  refine .e ?_
  rcases h1 with rfl | rfl
  ·refine Lexy.w_not.app (ih.at_ h2 6) ?_
   intro z _ d hd
   obtain ⟨c, r, hc, hne⟩ := at_hd (ex_hd h3 h2) 6
   have hd2 : ((wr a (.at 6)) ++ z).head? = some d := hd
   rw [hc] at hd2
   simp at hd2
   subst hd2
   simpa using hne
  ·exact (w_sgs 45 (by decide)).after (ih.at_ h2 6)
 | binary fn lp t a b h1 h2 h3 h4 h5 ih1 ih2 =>
  refine .e ?_
  exact ((ih1.at_ h2 (rank (.mk 15 0 t []))).ahead (by decide) (glue (sgn 15 t) (sgn_signs (.inr (.inr h1))))).after (ih2.at_ h4 (rank (.mk 15 0 t []) + 1))
 | and_ fn lp a b h1 h2 h3 h4 ih1 ih2 =>
  refine .e ?_
  exact ((ih1.at_ h1 (rank (.mk 16 0 [] []))).ahead (by decide) (glue (sgn 16 []) (sgn_signs (.inr (.inl rfl))))).after (ih2.at_ h3 (rank (.mk 16 0 [] []) + 1))
 | or_ fn lp a b h1 h2 h3 h4 ih1 ih2 =>
  refine .e ?_
  exact ((ih1.at_ h1 (rank (.mk 17 0 [] []))).ahead (by decide) (glue (sgn 17 []) (sgn_signs (.inl rfl)))).after (ih2.at_ h3 (rank (.mk 17 0 [] []) + 1))
 | cond fn lp a b c h1 h2 h3 h4 h5 h6 ih1 ih2 ih3 =>
  refine .e ?_
  exact ((((ih1.at_ h1 0).ahead (by decide) (glue [63] (by decide))).after (ih2.at_ h3 (-2))).ahead (by decide) (glue [58] (by decide))).after (ih3.at_ h5 (-2))
 | assign fn lp a b h1 h2 h3 h4 ih1 ih2 =>
  refine .e ?_
  have ha : isE a := by unfold isT at h1; unfold isE; omega
  exact ((ih1.at_ ha 7).ahead (by decide) (glue [61] (by decide))).after (ih2.at_ h3 (-2))
 | let_ fn lp t a h1 h2 h3 ih =>
  refine .s ?_
  exact (((((Lexy.w_kwb Pars.wLet (by decide)).after (w_nm h1)).ahead (by decide) (glue [61] (by decide))).after (ih.at_ h2 (-2))).ahead (by decide) (w_sgs 59 (by decide))).n
 | def_ fn lp f h1 h2 h3 ih =>
  exact .s (ih.fn h1)
 | if2 fn lp c b h1 h2 h3 h4 ih1 ih2 =>
  have hw : W noN (wr (.mk 22 0 [] [c, b]) .ifs) (tw (.mk 22 0 [] [c, b]) .ifs) := by
   have e1 : wr (.mk 22 0 [] [c, b]) .ifs = [105, 102, 32, 40] ++ wr c (.at (-2)) ++ [41, 32] ++ wr b .block := by show _ ++ [] = _; rw [List.append_nil]; rfl
   have e2 : tw (.mk 22 0 [] [c, b]) .ifs = [kw Pars.wIf, sg [40]] ++ tw c (.at (-2)) ++ [sg [41]] ++ tw b .block := by show _ ++ [] = _; rw [List.append_nil]; rfl
   rw [e1, e2]
   exact ((((Lexy.w_kwb Pars.wIf (by decide)).after (w_sgs 40 (by decide))).after (ih1.at_ h1 (-2))).ahead (by decide) (w_sgb 41 (by decide))).after (ih2.block h3)
  exact ⟨fun e => by simp [isE, Node.kind] at e, fun _ => hw, fun e => by simp [Node.kind] at e, fun e => by simp [Node.kind] at e, fun _ => hw, fun e => by simp [Node.kind] at e⟩
 | if3 fn lp c b e h1 h2 h3 h4 h5 h6 ih1 ih2 ih3 =>
  have hw : W noN (wr (.mk 22 0 [] [c, b, e]) .ifs) (tw (.mk 22 0 [] [c, b, e]) .ifs) := by
   have e1 : wr (.mk 22 0 [] [c, b, e]) .ifs = [105, 102, 32, 40] ++ wr c (.at (-2)) ++ [41, 32] ++ wr b .block ++ ([32, 101, 108, 115, 101, 32] ++ (if e.kind = 22 then wr e .ifs else wr e .block)) := rfl
   have e2 : tw (.mk 22 0 [] [c, b, e]) .ifs = [kw Pars.wIf, sg [40]] ++ tw c (.at (-2)) ++ [sg [41]] ++ tw b .block ++ ([kw Pars.wElse] ++ (if e.kind = 22 then tw e .ifs else tw e .block)) := rfl
   rw [e1, e2]
   have hx : W noN (if e.kind = 22 then wr e .ifs else wr e .block) (if e.kind = 22 then tw e .ifs else tw e .block) := by
    by_cases hk : e.kind = 22
    ·rw [if_pos hk, if_pos hk]; exact ih3.ifs hk
    ·rw [if_neg hk, if_neg hk]; exact ih3.block (by omega)
   exact (((((Lexy.w_kwb Pars.wIf (by decide)).after (w_sgs 40 (by decide))).after (ih1.at_ h1 (-2))).ahead (by decide) (w_sgb 41 (by decide))).after (ih2.block h3)).ahead (by decide) ((Lexy.w_blank.after (Lexy.w_kwb Pars.wElse (by decide))).after hx)
  exact ⟨fun e => by simp [isE, Node.kind] at e, fun _ => hw, fun e => by simp [Node.kind] at e, fun e => by simp [Node.kind] at e, fun _ => hw, fun e => by simp [Node.kind] at e⟩
 | while_ fn lp c b h1 h2 h3 h4 ih1 ih2 =>
  refine .s ?_
  exact ((((Lexy.w_kwb Pars.wWhile (by decide)).after (w_sgs 40 (by decide))).after (ih1.at_ h1 (-2))).ahead (by decide) (w_sgb 41 (by decide))).after (ih2.block h3)
 | for_ fn lp t c b h0 h1 h2 h3 h4 ih1 ih2 =>
  refine .s ?_
  have hg : W all [32, 111, 102, 32] [kw Pars.wOf] := Lexy.w_blank.after (Lexy.w_kwb Pars.wOf (by decide))
  have q := ((((((((Lexy.w_kwb Pars.wFor (by decide)).after (w_sgs 40 (by decide))).after (Lexy.w_kwb Pars.wLet (by decide))).after (w_nm h0)).ahead (by decide) hg).after (ih1.at_ h1 (-2))).ahead (by decide) (w_sgb 41 (by decide))).after (ih2.block h3))
  have e1 : wr (.mk 24 0 t [c, b]) .stmt = [102, 111, 114, 32, 40, 108, 101, 116, 32] ++ t ++ [32, 111, 102, 32] ++ wr c (.at (-2)) ++ [41, 32] ++ wr b .block := rfl
  have e2 : tw (.mk 24 0 t [c, b]) .stmt = [kw Pars.wFor, sg [40], kw Pars.wLet, nm t, kw Pars.wOf] ++ tw c (.at (-2)) ++ [sg [41]] ++ tw b .block := rfl
  rw [e1, e2]
  simpa using q
 | ret0 lp => exact .s ((Lexy.w_kw Pars.wReturn (by decide)).ahead (by decide) (w_sgs 59 (by decide))).n
 | ret1 lp a h1 h2 ih =>
  refine .s ?_
  have q := ((((Lexy.w_kwb Pars.wReturn (by decide)).after (ih.at_ h1 (-2))).ahead (by decide) (w_sgs 59 (by decide))).n)
  have e1 : wr (.mk 25 0 [] [a]) .stmt = [114, 101, 116, 117, 114, 110] ++ (32 :: wr a (.at (-2))) ++ [59] := rfl
  have e2 : tw (.mk 25 0 [] [a]) .stmt = [kw Pars.wReturn] ++ tw a (.at (-2)) ++ [sg [59]] := rfl
  rw [e1, e2]
  simpa using q
 | brk fn => exact .s ((Lexy.w_kw Pars.wBreak (by decide)).ahead (by decide) (w_sgs 59 (by decide))).n
 | cont fn => exact .s ((Lexy.w_kw Pars.wContinue (by decide)).ahead (by decide) (w_sgs 59 (by decide))).n
 | throw fn lp a h1 h2 ih =>
  refine .s ?_
  exact (((Lexy.w_kwb Pars.wThrow (by decide)).after (ih.at_ h1 (-2))).ahead (by decide) (w_sgs 59 (by decide))).n
 | try1 fn lp t b c h0 h1 h2 h3 h4 ih1 ih2 =>
  refine .s ?_
  have e1 : wr (.mk 29 1 t [b, c]) .stmt = [116, 114, 121, 32] ++ wr b .block ++ ([32, 99, 97, 116, 99, 104, 32, 40] ++ t ++ [41, 32] ++ wr c .block) ++ [] := rfl
  have e2 : tw (.mk 29 1 t [b, c]) .stmt = [kw Pars.wTry] ++ tw b .block ++ ([kw Pars.wCatch, sg [40], nm t, sg [41]] ++ tw c .block) ++ [] := rfl
  rw [e1, e2, List.append_nil, List.append_nil]
  have q := ((((Lexy.w_blank.after (Lexy.w_kwb Pars.wCatch (by decide))).after (w_sgs 40 (by decide))).after (w_nm h0)).ahead (by decide) (w_sgb 41 (by decide))).after (ih2.block h3)
  exact ((Lexy.w_kwb Pars.wTry (by decide)).after (ih1.block h1)).ahead (by decide) q
 | try2 fn lp b d h1 h2 h3 h4 ih1 ih2 =>
  refine .s ?_
  have e1 : wr (.mk 29 2 [] [b, d]) .stmt = [116, 114, 121, 32] ++ wr b .block ++ [] ++ ([32, 102, 105, 110, 97, 108, 108, 121, 32] ++ wr d .block) := rfl
  have e2 : tw (.mk 29 2 [] [b, d]) .stmt = [kw Pars.wTry] ++ tw b .block ++ [] ++ ([kw Pars.wFinally] ++ tw d .block) := rfl
  rw [e1, e2, List.append_nil, List.append_nil]
  exact ((Lexy.w_kwb Pars.wTry (by decide)).after (ih1.block h1)).ahead (by decide) ((Lexy.w_blank.after (Lexy.w_kwb Pars.wFinally (by decide))).after (ih2.block h3))
 | try3 fn lp t b c d h0 h1 h2 h3 h4 h5 h6 ih1 ih2 ih3 =>
  refine .s ?_
  have e1 : wr (.mk 29 3 t [b, c, d]) .stmt = [116, 114, 121, 32] ++ wr b .block ++ ([32, 99, 97, 116, 99, 104, 32, 40] ++ t ++ [41, 32] ++ wr c .block) ++ ([32, 102, 105, 110, 97, 108, 108, 121, 32] ++ wr d .block) := rfl
  have e2 : tw (.mk 29 3 t [b, c, d]) .stmt = [kw Pars.wTry] ++ tw b .block ++ ([kw Pars.wCatch, sg [40], nm t, sg [41]] ++ tw c .block) ++ ([kw Pars.wFinally] ++ tw d .block) := rfl
  rw [e1, e2]
  have q := ((((Lexy.w_blank.after (Lexy.w_kwb Pars.wCatch (by decide))).after (w_sgs 40 (by decide))).after (w_nm h0)).ahead (by decide) (w_sgb 41 (by decide))).after (ih2.block h3)
  exact (((Lexy.w_kwb Pars.wTry (by decide)).after (ih1.block h1)).ahead (by decide) q).ahead (by decide) ((Lexy.w_blank.after (Lexy.w_kwb Pars.wFinally (by decide))).after (ih3.block h5))
 | block fn lp l h1 h2 ih =>
  have hw : W noN (wr (.mk 30 0 [] l) .block) (tw (.mk 30 0 [] l) .block) := by
   rw [wr_blk, tw_blk]
   exact (((w_sgb 123 (by decide)).after (w_flat l fun x hx => (ih x hx).stmt (h1 x hx).1)).after (w_sgs 125 (by decide))).n
  exact ⟨fun e => by simp [isE, Node.kind] at e, fun _ => hw, fun e => by simp [Node.kind] at e, fun _ => hw, fun e => by simp [Node.kind] at e, fun e => by simp [Node.kind] at e⟩
 | expr fn lp a h1 h2 ih =>
  refine .s ?_
  have e1 : wr (.mk 31 0 [] [a]) .stmt = (if front a = 7 ∨ front a = 9 then [40] ++ wr a (.at (-2)) ++ [41] else wr a (.at (-2))) ++ [59] := rfl
  have e2 : tw (.mk 31 0 [] [a]) .stmt = (if front a = 7 ∨ front a = 9 then [sg [40]] ++ tw a (.at (-2)) ++ [sg [41]] else tw a (.at (-2))) ++ [sg [59]] := rfl
  rw [e1, e2]
  have ha := ih.at_ h1 (-2)
  by_cases hf : front a = 7 ∨ front a = 9
  ·rw [if_pos hf, if_pos hf]
   exact (((((w_sgs 40 (by decide)).after ha).ahead (by decide) (w_sgs 41 (by decide)))).after (w_sgs 59 (by decide))).n
  ·rw [if_neg hf, if_neg hf]
   exact (ha.ahead (by decide) (w_sgs 59 (by decide))).n
theorem w_joinB : ∀ l : List Node, (∀ x ∈ l, W noN (wr x .stmt) (tw x .stmt)) → W noN (joinB (l.map fun x => wr x .stmt)) (l.flatMap fun x => tw x .stmt)
 | [], _ => Lexy.w_nil _
 | [a], h => by simpa [joinB] using h a (by simp)
 | a :: b :: l, h => by
  have ih := w_joinB (b :: l) fun x hx => h x (by simp only [List.mem_cons] at hx ⊢; exact .inr hx)
  have := ((h a (by simp)).ahead (d := 32) (c := []) (by decide) Lexy.w_blank).after ih
  simpa [joinB, List.append_assoc] using this
theorem lex_text {n : Node} {fn lp : Bool} (h : Rt fn lp n) (hk : n.kind = 30) : LexT (text n) (ttext n) := by
 cases h with
 | block fn lp l h1 h2 =>
  have := w_joinB l (fun x hx => (lx (h2 x hx)).stmt (h1 x hx).1) [] [] (fun c hc => by cases hc) Lexy.lexT_nil
  rw [List.append_nil, List.append_nil] at this
  exact this
 | _ => simp [Node.kind] at hk
theorem toks_text {n : Node} {fn lp : Bool} (h : Rt fn lp n) (hk : n.kind = 30) (hl : (text n).length ≤ 2000) : if (ttext n).length ≤ 1000 then ∃ full, Lexy.toks (text n) = .ok full ∧ full.map (·.toTk) = ttext n ∧ Lexy.Lex 0 (text n) full else Lexy.toks (text n) = .err 2 := by
 obtain ⟨full, h1, h2⟩ := lex_text h hk
 have hlen : full.length = (ttext n).length := by rw [← h2, List.length_map]
 have ht : Lexy.toks (text n) = if full.length ≤ 1000 then .ok full else .err 2 := by
  unfold Lexy.toks
  rw [if_neg (Nat.not_lt.2 hl), Lexy.of_lex h1]
 rw [hlen] at ht
 by_cases h : (ttext n).length ≤ 1000
 ·rw [if_pos h] at ht ⊢
  exact ⟨full, ht, h2, h1⟩
 ·rw [if_neg h] at ht ⊢
  exact ht
end Wri
namespace Wri
open Go (ln bn)
open Pars (Node Bs)
theorem rt_kids {a b : Bool} {k nu : Int} {t : Bs} {l : List Node} (h : Rt a b (.mk k nu t l)) : (k = 1 → 0 ≤ nu ∧ nu ≤ 9007199254740992) ∧ ∀ x ∈ l, ∃ a b, Rt a b x := by
  cases h with
  | func _ _ _ ps b h1 h2 h3 h4 =>
    refine ⟨fun hk => by omega, fun x hx => ?_⟩
    rcases List.mem_append.1 hx with hx | hx
    · obtain ⟨p, hp, rfl⟩ := List.mem_map.1 hx
      exact ⟨false, false, .param false false p (h2 p hp)⟩
    · simp only [List.mem_cons, List.not_mem_nil, or_false] at hx
      subst hx
      exact ⟨_, _, h4⟩
  | call _ _ c q h1 h2 h3 h4 =>
    refine ⟨fun hk => by omega, fun x hx => ?_⟩
    rcases List.mem_cons.1 hx with rfl | hx
    · exact ⟨_, _, h2⟩
    · exact ⟨_, _, h4 x hx⟩
  | list _ _ _ h1 h2 => exact ⟨fun hk => by omega, fun x hx => ⟨_, _, h2 x hx⟩⟩
  | recd _ _ _ h1 h2 => exact ⟨fun hk => by omega, fun x hx => ⟨_, _, h2 x hx⟩⟩
  | block _ _ _ h1 h2 => exact ⟨fun hk => by omega, fun x hx => ⟨_, _, h2 x hx⟩⟩
  | num _ _ _ h1 h2 => exact ⟨fun _ => ⟨h1, h2⟩, fun x hx => by cases hx⟩
  | _ =>
    refine ⟨fun hk => by omega, fun x hx => ?_⟩
    first
      | (cases hx; done)
      | (simp only [List.mem_cons, List.not_mem_nil, or_false] at hx
         rcases hx with rfl | rfl | rfl <;> exact ⟨_, _, by assumption⟩)
      | (simp only [List.mem_cons, List.not_mem_nil, or_false] at hx
         rcases hx with rfl | rfl <;> exact ⟨_, _, by assumption⟩)
      | (simp only [List.mem_cons, List.not_mem_nil, or_false] at hx
         subst hx
         exact ⟨_, _, by assumption⟩)
def sm : List Bs → Nat
 | [] => 0
 | a :: l => a.length + 2 + sm l
theorem joinC_len : ∀ l : List Bs, (joinC l).length ≤ sm l
 | [] => by simp [joinC, sm]
 | [a] => by simp [joinC, sm]
 | a :: b :: l => by
  have := joinC_len (b :: l)
  simp only [joinC, sm, List.length_append, List.length_cons, List.length_nil] at this ⊢
  omega
def KL (l : List Node) : Prop := ∀ x ∈ l, ∀ m, (wr x m).length + 8 ≤ 64 * wg x
theorem KL.tail {x : Node} {l : List Node} (h : KL (x :: l)) : KL l := fun y hy => h y (by simp [hy])
theorem sm_len (m : M) : ∀ l : List Node, KL l → sm (l.map (wr · m)) ≤ 64 * wgs l
 | [], _ => by simp [sm]
 | x :: l, h => by
  have h1 := h x (by simp) m
  have h2 := sm_len m l h.tail
  simp only [List.map_cons, sm, wgs]; omega
theorem flat_len' : ∀ l : List Node, KL l → (l.flatMap fun x => wr x .stmt ++ [32]).length ≤ 64 * wgs l
 | [], _ => by simp
 | x :: l, h => by
  have h1 := h x (by simp) .stmt
  have h2 := flat_len' l h.tail
  simp only [List.flatMap_cons, List.length_append, List.length_cons, List.length_nil, wgs] at h2 ⊢; omega
theorem joinB_len : ∀ l : List Node, KL l → (joinB (l.map fun x => wr x .stmt)).length ≤ 64 * wgs l
 | [], _ => by simp [joinB]
 | [a], h => by
  have := h a (by simp) .stmt
  simp only [List.map_cons, List.map_nil, joinB, wgs]; omega
 | a :: b :: l, h => by
  have h1 := h a (by simp) .stmt
  have h2 := joinB_len (b :: l) h.tail
  simp only [List.map_cons, joinB, wgs, List.length_append, List.length_cons, List.length_nil] at h2 ⊢; omega
theorem kid_nil (i : Nat) (m : M) : kid (wrs []) i m = [] := by simp [kid, wrs]
theorem kid_zero (x : Node) (l : List Node) : kid (wrs (x :: l)) 0 = wr x := by simp [kid, wrs]
theorem kid_succ (x : Node) (l : List Node) (i : Nat) : kid (wrs (x :: l)) (i + 1) = kid (wrs l) i := by simp [kid, wrs]
theorem kid1_len (i : Nat) (m : M) : ∀ l : List Node, KL l → (kid (wrs l) i m).length ≤ 64 * wgs l
 | [], _ => by rw [kid_nil]; simp
 | x :: l, h => by
  have h1 := h x (by simp) m
  cases i with
  | zero => rw [kid_zero]; simp only [wgs]; omega
  | succ i => rw [kid_succ]; have := kid1_len i m l h.tail; simp only [wgs]; omega
theorem kid3_len (a b c : M) (l : List Node) (h : KL l) : (kid (wrs l) 0 a).length + (kid (wrs l) 1 b).length + (kid (wrs l) 2 c).length ≤ 64 * wgs l := by
 cases l with
 | nil => rw [kid_nil, kid_nil, kid_nil]; simp
 | cons x l =>
  have h1 := h x (by simp) a
  rw [kid_zero, kid_succ, kid_succ]
  cases l with
  | nil => rw [kid_nil, kid_nil]; simp only [wgs, List.length_nil]; omega
  | cons y l =>
   have h2 := h.tail y (by simp) b
   have h3 := kid1_len 0 c l h.tail.tail
   rw [kid_zero, kid_succ]
   simp only [wgs]; omega
theorem kidr_len (a b : M) (l : List Node) (h : KL l) : (kid (wrs l) 0 a).length + (joinC (((wrs l).drop 1).map (· b))).length ≤ 64 * wgs l := by
 cases l with
 | nil => rw [kid_nil]; simp [wrs, joinC]
 | cons x l =>
  have h1 := h x (by simp) a
  rw [kid_zero]
  have e : ((wrs (x :: l)).drop 1).map (· b) = l.map (wr · b) := by simp only [wrs, List.drop_succ_cons, List.drop_zero]; rw [wrs_map, List.map_map]; rfl
  rw [e]
  have h2 := joinC_len (l.map (wr · b))
  have h3 := sm_len b l h.tail
  simp only [wgs]; omega
theorem kidf_len (a b : M) : ∀ (l : List Node) (q : Nat), KL l → sm (((wrs l).take q).map (· a)) + (kid (wrs l) q b).length ≤ 64 * wgs l
 | [], q, _ => by rw [kid_nil]; simp [wrs, sm]
 | x :: l, 0, h => by
  have h1 := h x (by simp) b
  rw [kid_zero]
  simp only [List.take_zero, List.map_nil, sm, wgs]; omega
 | x :: l, q + 1, h => by
  have h1 := h x (by simp) a
  have h2 := kidf_len a b l q h.tail
  rw [kid_succ]
  simp only [wrs, List.take_succ_cons, List.map_cons, sm, wgs]; omega
theorem listed_len (o c : Bs) (l : List Bs) : (listed o c l).length ≤ o.length + c.length + (joinC l).length := by simp only [listed, List.length_append]; omega
theorem quote_le (l : Bs) : (Lexy.quote l).length ≤ 4 * l.length + 2 := by
 have : (l.flatMap Lexy.qb).length ≤ 4 * l.length := by
  induction l with
  | nil => simp
  | cons c r ih => have := (Lexy.qb_len c).2; simp only [List.flatMap_cons, List.length_append, List.length_cons]; omega
 simp only [Lexy.quote, List.length_cons, List.length_append, List.length_nil]; omega
theorem sgn_len (k : Int) (t : Bs) : (sgn k t).length ≤ t.length + 2 := by
 unfold sgn; split
 ·simp
 ·split
  ·simp
  ·omega
section
variable {k nu : Int} {t : Bs} {l : List Node}
theorem fn_len (h : KL l) : (wFn t (wrs l)).length ≤ t.length + 64 * wgs l + 12 := by
 have h1 := kidf_len .param .block l ((wrs l).length - 1) h
 have h2 := joinC_len (((wrs l).take ((wrs l).length - 1)).map (· M.param))
 have h3 := listed_len [40] [41] (((wrs l).take ((wrs l).length - 1)).map (· M.param))
 unfold wFn
 simp only [ln] at h3 ⊢
 by_cases ht : t = []
 ·rw [if_pos ht]; simp only [List.length_nil]; omega
 ·rw [if_neg ht]; simp only [List.length_cons]; omega
theorem fst_len (hk : k = 1 → 0 ≤ nu ∧ nu ≤ 9007199254740992) (h : KL l) : (wFst k nu t (wrs l)).length ≤ 4 * t.length + 64 * wgs l + 24 := by
 have hj : ∀ m : M, (joinC ((wrs l).map (· m))).length ≤ 64 * wgs l := fun m => by
  have h1 := joinC_len ((wrs l).map (· m))
  have h2 := sm_len m l h
  have e : (wrs l).map (· m) = l.map (wr · m) := by rw [wrs_map, List.map_map]; rfl
  rw [e] at h1 ⊢; omega
 unfold wFst
 by_cases h1 : k = 1
 ·rw [if_pos h1]
  have := Go.Lib.itoa_length_le nu (by have := hk h1; omega) (by have := hk h1; omega)
  omega
 rw [if_neg h1]
 by_cases h2 : k = 2
 ·rw [if_pos h2]; have := quote_le t; omega
 rw [if_neg h2]
 by_cases h3 : k = 3
 ·rw [if_pos h3]; split <;> simp
 rw [if_neg h3]
 by_cases h4 : k = 4
 ·rw [if_pos h4]; simp
 rw [if_neg h4]
 by_cases h5 : k = 5
 ·rw [if_pos h5]; omega
 rw [if_neg h5]
 by_cases h6 : k = 6
 ·rw [if_pos h6]; have h7 := listed_len [91] [93] ((wrs l).map (· (M.at (-2)))); have := hj (.at (-2)); simp only [List.length_cons, List.length_nil] at h7; omega
 rw [if_neg h6]
 by_cases h7 : k = 7
 ·rw [if_pos h7]; have h8 := listed_len [123] [125] ((wrs l).map (· M.pair)); have := hj .pair; simp only [List.length_cons, List.length_nil] at h8; omega
 rw [if_neg h7]
 by_cases h9 : k = 9
 ·rw [if_pos h9]; have := fn_len (t := t) h; omega
 rw [if_neg h9]; simp
theorem ex_len (hk : k = 1 → 0 ≤ nu ∧ nu ≤ 9007199254740992) (h : KL l) : (wEx k nu t (wrs l)).length ≤ 4 * t.length + 64 * wgs l + 24 := by
 have h3 := fun a b c => kid3_len a b c l h
 unfold wEx
 split
 ·have := h3 (.at 7) (.at (-2)) (.at (-2)); simp only [ln]; omega
 split
 ·have := h3 (.at 0) (.at (-2)) (.at (-2)); simp only [ln]; omega
 split
 ·have := h3 (.at (rank (.mk k nu t []))) (.at (rank (.mk k nu t []) + 1)) (.at (-2))
  have := sgn_len k t
  simp only [ln]; omega
 split
 ·have := kid1_len 0 (.at 6) l h; simp only [List.length_append]; omega
 split
 ·have h4 := kidr_len (.at 7) (.at (-2)) l h
  have h5 := listed_len [40] [41] (((wrs l).drop 1).map (· (M.at (-2))))
  simp only [ln] at h5 ⊢; omega
 split
 ·have := h3 (.at 7) (.at (-2)) (.at (-2)); simp only [ln]; omega
 split
 ·have := kid1_len 0 (.at 7) l h; simp only [List.length_append, List.length_cons]; omega
 ·exact fst_len hk h
theorem block_len (h : KL l) : (wBlock (wrs l)).length ≤ 64 * wgs l + 8 := by
 have e : ((wrs l).flatMap fun g => g .stmt ++ [32]) = l.flatMap fun x => wr x .stmt ++ [32] := by rw [wrs_map, List.flatMap_map]
 have := flat_len' l h
 unfold wBlock
 rw [e]
 simp only [ln]; omega
theorem ifs_len (h : KL l) : (wIfs l (wrs l)).length ≤ 64 * wgs l + 16 := by
 have h1 := kid3_len (.at (-2)) .block .ifs l h
 have h2 := kid3_len (.at (-2)) .block .block l h
 unfold wIfs
 simp only [ln]
 split
 ·split <;> simp only [ln] <;> omega
 ·simp only [List.length_nil]; omega
theorem tries_len (h : KL l) : (wTries nu t (wrs l)).length ≤ t.length + 64 * wgs l + 24 := by
 have h1 := kid3_len .block .block .block l h
 unfold wTries
 simp only [ln]
 split
 ·split <;> simp only [ln] <;> omega
 ·split <;> simp only [ln] <;> omega
theorem stmt_len (h : KL l) : (wStmt k nu t l (wrs l)).length ≤ t.length + 64 * wgs l + 24 := by
 have h3 := fun a b c => kid3_len a b c l h
 have hb := block_len h
 have hi := ifs_len h
 have ht := tries_len (nu := nu) (t := t) h
 have e2 := h3 (.at (-2)) .block .block
 have e1 := kid1_len 0 (.at (-2)) l h
 have ef := kid1_len 0 .fn l h
 unfold wStmt
 by_cases y20 : k = 20
 ·rw [if_pos y20]
  simp only [ln]; omega
 rw [if_neg y20]
 by_cases y21 : k = 21
 ·rw [if_pos y21]
  omega
 rw [if_neg y21]
 by_cases y22 : k = 22
 ·rw [if_pos y22]
  omega
 rw [if_neg y22]
 by_cases y23 : k = 23
 ·rw [if_pos y23]
  simp only [ln]; omega
 rw [if_neg y23]
 by_cases y24 : k = 24
 ·rw [if_pos y24]
  simp only [ln]; omega
 rw [if_neg y24]
 by_cases y25 : k = 25
 ·rw [if_pos y25]
  split <;> simp only [ln] <;> omega
 rw [if_neg y25]
 by_cases y26 : k = 26
 ·rw [if_pos y26]
  simp only [List.length_cons, List.length_nil]; omega
 rw [if_neg y26]
 by_cases y27 : k = 27
 ·rw [if_pos y27]
  simp only [List.length_cons, List.length_nil]; omega
 rw [if_neg y27]
 by_cases y28 : k = 28
 ·rw [if_pos y28]
  simp only [ln]; omega
 rw [if_neg y28]
 by_cases y29 : k = 29
 ·rw [if_pos y29]
  omega
 rw [if_neg y29]
 by_cases y30 : k = 30
 ·rw [if_pos y30]
  omega
 rw [if_neg y30]
 by_cases y31 : k = 31
 ·rw [if_pos y31]
  by_cases hf : front (l.getD 0 default) = 7 ∨ front (l.getD 0 default) = 9
  ·rw [if_pos hf]; simp only [ln]; omega
  ·rw [if_neg hf]; simp only [ln]; omega
 rw [if_neg y31]
 simp only [List.length_nil]; omega
end
theorem wr_len : ∀ n : Node, (∃ a b, Rt a b n) → ∀ m, (wr n m).length + 8 ≤ 64 * wg n := by
 refine ind fun k nu t l ih hr m => ?_
 obtain ⟨a, b, hr⟩ := hr
 obtain ⟨hk, hkids⟩ := rt_kids hr
 have h : KL l := fun x hx m => ih x hx (hkids x hx) m
 have h1 := ex_len (t := t) hk h
 have h2 := fst_len (t := t) hk h
 have h3 := fn_len (t := t) h
 have h4 := block_len h
 have h5 := ifs_len h
 have h6 := tries_len (nu := nu) (t := t) h
 have h7 := stmt_len (k := k) (nu := nu) (t := t) h
 have h8 := kid1_len 0 (.at (-2)) l h
 show (step k nu t l (wrs l) m).length + 8 ≤ 64 * (t.length + wgs l + 1)
 cases m <;> simp only [step]
 case «at» q =>
  split
  ·omega
  ·simp only [ln]; omega
 case pair => simp only [ln]; omega
 all_goals omega
end Wri
namespace Go.Proofs.YtonjdlialejedaaGreatDoor
open Go.Lib (hid)
open Go.RowKit
def WriteOut (n : Pars.Node) (w : World) (e : Ending) (w' : World) : Prop :=
 (∃ s, Wri.write n = .ok s ∧ e = .returned (.tuple #[.string (byt s), .int .i64 0]) ∧ Below w.heap.size w w') ∨
 (∃ k : Nat, Wri.write n = .error k ∧ (k = 2 ∨ k = 3) ∧ e = .returned (.tuple #[.string ⟨#[]⟩, .int .i64 (k : Int)]) ∧ Below w.heap.size w w')
theorem wt_fresh {B : Nat} (w : World) (hB : B ≤ w.heap.size) : Wt B w.heap.size [] (w.alloc (.cells #[.pointer none, .slice none 0 0] 55)) := Or.inl ⟨hB, .slice none 0 0, (Box.new w _ _), World.ownsRow_nil _ _ _ _, by simp [Value.ownBlock]⟩
def jb (kl : List Pars.Node) (j : Nat) : List UInt8 := Wri.joinB ((kl.take j).map fun x => Wri.wr x .stmt)
theorem joinB_snoc : ∀ (l : List (List UInt8)) (a : List UInt8), l ≠ [] → Wri.joinB (l ++ [a]) = Wri.joinB l ++ [32] ++ a
 | [], _, h => absurd rfl h
 | [b], a, _ => by simp [Wri.joinB]
 | b :: c :: l, a, _ => by
  have ih := joinB_snoc (c :: l) a (by simp)
  simp only [List.cons_append, Wri.joinB] at ih ⊢
  rw [ih]; simp
theorem jb_zero (kl : List Pars.Node) : jb kl 0 = [] := rfl
theorem jb_one {kl : List Pars.Node} {x : Pars.Node} (h : kl[0]? = some x) : jb kl (0 + 1) = Wri.wr x .stmt := by
 unfold jb
 rw [List.take_add_one, h]; rfl
theorem jb_next {kl : List Pars.Node} {x : Pars.Node} {j : Nat} (h : kl[j]? = some x) (hj : 0 < j) : jb kl (j + 1) = jb kl j ++ [32] ++ Wri.wr x .stmt := by
 have hlt := (List.getElem?_eq_some_iff.1 h).1
 unfold jb
 rw [List.take_add_one, h, Option.toList_some, List.map_append, List.map_cons, List.map_nil, joinB_snoc]
 intro h0
 have h1 : ((kl.take j).map fun x => Wri.wr x .stmt).length = j := by rw [List.length_map, List.length_take]; omega
 rw [h0] at h1
 simp at h1
 omega
theorem jb_all (kl : List Pars.Node) {j : Nat} (h : kl.length ≤ j) : jb kl j = Wri.joinB (kl.map fun x => Wri.wr x .stmt) := by
 unfold jb; rw [List.take_of_length_le h]
theorem wgs_take (kl : List Pars.Node) (j : Nat) : Wri.wgs (kl.take j) ≤ Wri.wgs kl := by
 induction kl generalizing j with
 | nil => simp
 | cons x l ih =>
  cases j with
  | zero => simp [Wri.wgs]
  | succ j => simp only [List.take_succ_cons, Wri.wgs]; have := ih j; omega
theorem jb_len {kl : List Pars.Node} (h : Wri.KL kl) (j : Nat) : (jb kl j).length ≤ 64 * Wri.wgs kl := by
 have h1 := Wri.joinB_len (kl.take j) (fun x hx m => h x (List.mem_of_mem_take hx) m)
 have h2 := wgs_take kl j
 unfold jb; omega
theorem ri_check {n : Pars.Node} (h : Wri.check n = 0) : Ri n := by
 unfold Wri.check at h
 split at h
 ·cases h
 ·rename_i h1
  refine ⟨false, false, ?_⟩
  cases hr : Wri.right n false false with
  | true => rfl
  | false => exact absurd (.inr hr) h1
theorem ri_KL {k nu : Int} {t : List UInt8} {l : List Pars.Node} (h : Ri (.mk k nu t l)) : Wri.KL l := by
 obtain ⟨a, b, h⟩ := h
 exact fun x hx m => Wri.wr_len x ((Wri.rt_kids (Wri.rt_of _ _ _ h)).2 x hx) m
theorem check_vals (n : Pars.Node) : Wri.check n = 0 ∨ Wri.check n = 2 ∨ Wri.check n = 3 := by
 unfold Wri.check; split
 ·simp
 ·split <;> simp
set_option maxRecDepth 100000 in
set_option maxHeartbeats 4000000 in
theorem write_any {n : Pars.Node} {cs : Array Value} {w : World} {S : Nat → Prop} (hM : Wri.wg n ≤ 1048576) (hn : NodeAt w S n cs) (he : EnvW w) : Calls Tryz.prog 11 #[.agg cs] w (WriteOut n w) := by
 obtain ⟨k, nu, t, kl⟩ := n
 replace hn := NodeAt.keep (S1 := fun g => g < w.heap.size) (w1 := w) (fun g _ h => h) (Nat.le_refl _) (fun _ _ _ => rfl) hn
 have hn0 := hn
 unfold NodeAt at hn
 obtain ⟨A, cap, css, rfl, hc1, hc2, hrow, hk⟩ := hn
 have HROW := hid hrow
 have HK := hid hk
 have HN := hid hn0
 have HE := hid he
 have hll := Wri.wgs_len kl
 have h7 := he.big
 have HWG := hid hM
 clear hrow hk hn0 he
 have INF : (Tryz.prog.info? 24).map (·.size) = some (nc k nu t (.slice A kl.length cap)).size := info_nod
 obtain ⟨c, hc⟩ : ∃ c, Wri.check (.mk k nu t kl) = c := ⟨_, rfl⟩
 have hcv := check_vals (.mk k nu t kl)
 rw [hc] at hcv
 have HC := hid hc
 clear hc
 go_enter Tryz.func11, Tryz.ntmps11
 go_upto_region 1 with fail
 refine gen_world (F := fun W => Box W w.heap.size 24 (nc k nu t (.slice A kl.length cap)) ∧ Below w.heap.size w W) ⟨Box.new w _ _, below1 w _⟩ ?_
 rintro W0 ⟨b0, hU⟩
 have NB := hid b0
 have HU := hid hU
 have hB0 := hU.size
 clear b0 hU
 go_wp2_with (refine wpList_load_row rfl 24 (.tmp 1) rfl w.heap.size rfl _ (nc k nu t (.slice A kl.length cap)) (0, 0) _ NB.out Tryz.underlying24 rfl INF ?_)
 refine (check_is (by have := HWG.out; omega) (HN.out.belowB HU.out) (HE.out.below HU.out h7)).mono ?_
 rintro e w1 ⟨rfl, hb⟩
 rw [HC.out]
 replace NB := bl NB hb
 replace HU := hid (HU.out.trans (hb.mono hB0))
 replace hB0 := Nat.le_trans hB0 hb.size
 have hnw : w.heap.size < w1.heap.size := NB.out.lt
 clear hb
 by_cases hc0 : c = 0
 ·have HC0 := hid hc0
  have hR : Ri (.mk k nu t kl) := ri_check (by rw [HC.out]; exact hc0)
  have HKL := hid (ri_KL hR)
  have HJL := hid (fun j => jb_len (ri_KL hR) j)
  subst hc0
  go_upto_region 5 with fail
  refine gen_world (F := fun W => Wt w.heap.size w1.heap.size [] W ∧ Box W w.heap.size 24 (nc k nu t (.slice A kl.length cap)) ∧ Below w.heap.size w W) ⟨wt_fresh w1 hB0, NB.out.alloc _, HU.out.trans ((below1 w1 _).mono hB0)⟩ ?_
  clear NB HU
  rintro W1 ⟨wt0, b0, hU⟩
  have WT := hid wt0
  have NB := hid b0
  have HU := hid hU
  have hB1 := hU.size
  clear hB0
  have hB0 := hB1
  clear wt0 b0 hU
  have HNENB : Hid (w.heap.size ≠ w1.heap.size) := hid (by omega)
  clear hnw
  have c3 := NB.out.cell 3
  simp [nc] at c3
  go_wp2
  go_loopg [16] kl.length (fun gg s16 wr => ∃ j : Nat, j ≤ kl.length ∧ kl.length - j ≤ gg ∧ s16 = .int .i64 (j : Int) ∧ w.heap.size ≤ wr.heap.size ∧ Hid (Wt w.heap.size w1.heap.size (jb kl j) wr) ∧ Hid (Box wr w.heap.size 24 (nc k nu t (.slice A kl.length cap))) ∧ Hid (Below w.heap.size w wr))
  case atStart => exact ⟨0, Nat.zero_le _, by omega, rfl, hB0, by simpa [jb_zero] using WT, NB, HU⟩
  case round =>
   clear WT NB HU hB0 c3
   obtain ⟨j, hj, hg, rfl, hB0, WT, NB, HU⟩ := hrel
   by_cases hlt : j < kl.length
   ·have hltz : (j : Int) < (kl.length : Int) := by omega
    have hltd : decide ((j : Int) < (kl.length : Int)) = true := decide_eq_true hltz
    have wj : IntKind.i64.wrap ((j : Int) + 1) = (j : Int) + 1 := by rw [IntKind.wrap_i64]; simp only [Wri.wg] at hM; omega
    obtain ⟨x, hx⟩ : ∃ x, kl[j]? = some x := ⟨_, List.getElem?_eq_getElem hlt⟩
    have HX := hid hx
    have HXL := hid (HKL.out x (List.mem_of_getElem? hx) .stmt)
    have hxw := Wri.wg_mem (List.mem_of_getElem? hx)
    obtain ⟨xc, g0, o0, rfl, hg0, hx4, hnx, hrx⟩ := kid_at HK.out HROW.out hx
    have HR0 := hid hrx
    have HXN := hid hnx
    have HXR := hid (ri_kid hR x (List.mem_of_getElem? hx))
    have HXW : Hid (Wri.wg x ≤ 1048576) := hid (by simp only [Wri.wg] at hM; omega)
    have hinf : (Tryz.prog.info? 24).map (·.size) = some xc.toList.length := by rw [Array.length_toList, hx4]; exact info_nod
    have HXI := hid hinf
    have hinf2 : (Tryz.prog.info? 24).map (·.size) = some xc.size := by rw [hx4]; exact info_nod
    have HXI2 := hid hinf2
    have H4 : Hid ((4 : Nat) = xc.size) := hid hx4.symm
    have HONE := hid (NodeAt.one hnx)
    clear hxw hnx hrx hinf hinf2 hx4
    have hkl := hlt
    have hwx := HXW.out
    have HNEEB : Hid (wr.heap.size ≠ w1.heap.size) := hid (by have := WT.out.lt.2; omega)
    clear hx
    have hrr := HR0.out wr HU.out
    have c3 := NB.out.cell 3
    simp [nc] at c3
    have hwb2 := WT.out.lt.2
    go_upto_region 8 with (first | (refine wpList_load_mid rfl 24 (.tmp 19) rfl g0 (o0 + j * 4) rfl xc.toList _ hrr Tryz.underlying24 rfl HXI.out ?_) | (refine wpList_store_box rfl 24 (.tmp 7) (.tmp 20) rfl wr.heap.size xc rfl (by simp [Act.eval, Act.put]) 24 _ (Box.new wr _ _) HXI2.out H4.out HONE.out ?_; intro w2 hx2 hu2 hz2; have HZ2 := hid hz2; clear hz2))
    have hb2 : Below wr.heap.size wr w2 := ((Below.refl _ wr).alloc (Nat.le_refl _) _).trans (hu2.own (Nat.le_refl _) (by simp))
    have EB := hid hx2
    replace NB := bl NB hb2
    replace WT := hid (WT.out.below hb2)
    replace HU := hid (HU.out.trans (hb2.mono hB0))
    replace hB0 := Nat.le_trans hB0 hb2.size
    clear hx2 hu2 hb2 hrr c3 hwb2
    by_cases hj0 : j = 0
    ·have HJ0 := hid hj0
     have hjd : decide ((0 : Int) < (j : Int)) = false := decide_eq_false (by omega)
     have hje : decide (0 < j) = false := decide_eq_false (by omega)
     clear hj0
     replace WT : Hid (Wt w.heap.size w1.heap.size [] w2) := hid (by have := WT.out; rwa [HJ0.out, jb_zero] at this)
     have eb := EB.out
     go_wp2_with (refine wpList_load_row rfl 24 (.tmp 7) rfl wr.heap.size rfl _ xc (0, 0) _ eb Tryz.underlying24 rfl HXI2.out ?_)
     refine ((wall 1048576).stmt HXW.out HXW.out HXR.out (HXN.out.belowB HU.out) WT.out hB0 h7 (HE.out.below HU.out h7) (by have := HJL.out j; have := HXL.out; simp only [Wri.wg] at hM; (try simp only [ln]); omega)).mono ?_
     rintro e w3 ⟨rfl, hw, hb, hs⟩
     clear eb EB
     replace WT := hid hw
     replace NB := st hs NB HNENB
     replace HU := hid (HU.out.trans hb)
     replace hB0 := Nat.le_trans hB0 hb.size
     clear hw hb hs
     go_wp2
     go_roundg (kl.length - (j + 1))
     case measure => omega
     case rel =>
      have hx0 := HX.out
      rw [HJ0.out] at hx0
      have e0 := jb_one hx0
      rw [← HJ0.out] at e0
      exact ⟨j + 1, by omega, by omega, rfl, hB0, by rw [e0]; simpa using WT, NB, HU⟩
    ·have HJ0 : Hid (0 < j) := hid (by omega)
     have hjd : decide ((0 : Int) < (j : Int)) = true := decide_eq_true (by omega)
     have hje : decide (0 < j) = true := decide_eq_true (by omega)
     clear hj0
     go_wp2_with fail
     refine (wbyte w.heap.size w1.heap.size (jb kl j) 32 _ WT.out (by have := HJL.out j; simp only [Wri.wg] at hM; omega) hB0).mono ?_
     rintro e w3 ⟨rfl, hw, hb, hs⟩
     replace WT := hid hw
     replace NB := st hs NB HNENB
     replace EB := st hs EB HNEEB
     replace HU := hid (HU.out.trans hb)
     replace hB0 := Nat.le_trans hB0 hb.size
     clear hw hb hs
     have eb := EB.out
     go_wp2_with (refine wpList_load_row rfl 24 (.tmp 7) rfl wr.heap.size rfl _ xc (0, 0) _ eb Tryz.underlying24 rfl HXI2.out ?_)
     refine ((wall 1048576).stmt HXW.out HXW.out HXR.out (HXN.out.belowB HU.out) WT.out hB0 h7 (HE.out.below HU.out h7) (by have := HJL.out j; have := HXL.out; simp only [Wri.wg] at hM; (try simp only [ln]); omega)).mono ?_
     rintro e w4 ⟨rfl, hw, hb, hs⟩
     clear eb EB
     replace WT := hid hw
     replace NB := st hs NB HNENB
     replace HU := hid (HU.out.trans hb)
     replace hB0 := Nat.le_trans hB0 hb.size
     clear hw hb hs
     go_wp2
     go_roundg (kl.length - (j + 1))
     case measure => omega
     case rel => exact ⟨j + 1, by omega, by omega, rfl, hB0, by rw [jb_next HX.out HJ0.out]; simpa [List.append_assoc] using WT, NB, HU⟩
   ·have hltz : ¬ (j : Int) < (kl.length : Int) := by omega
    have hltd : decide ((j : Int) < (kl.length : Int)) = false := decide_eq_false hltz
    obtain ⟨s, hs0⟩ : ∃ s, Wri.text (.mk k nu t kl) = s := ⟨_, rfl⟩
    have HS0 := hid hs0
    have hjl := HJL.out j
    replace WT : Hid (Wt w.heap.size w1.heap.size s wr) := hid (by have := WT.out; rw [jb_all kl (by omega)] at this; rw [← hs0]; exact this)
    have hsl : s.length ≤ 64 * Wri.wgs kl := by rw [← hs0]; show (Wri.joinB (kl.map fun x => Wri.wr x .stmt)).length ≤ _; rw [← jb_all kl (j := j) (by omega)]; exact hjl
    clear hs0 hjl
    simp only [Wri.wg] at hM
    go_wp2_with fail
    refine (wlen w.heap.size w1.heap.size s _ WT.out).mono ?_
    rintro e w2 ⟨rfl, rfl⟩
    by_cases hs2 : 2000 < s.length
    ·have HS2 := hid hs2
     have d1 : decide ((2000 : Int) < (s.length : Int)) = true := decide_eq_true (by omega)
     have d2 : (2000 : Int) < (s.length : Int) := by omega
     go_wp2
     go_returns
     exact .inr ⟨2, by unfold Wri.write; rw [HC.out, if_neg (by decide), HS0.out, if_pos HS2.out], .inl rfl, rfl, HU.out⟩
    ·have HS2 := hid hs2
     have d1 : decide ((2000 : Int) < (s.length : Int)) = false := decide_eq_false (by omega)
     have d2 : ¬ (2000 : Int) < (s.length : Int) := by omega
     go_wp2_with fail
     refine (wstring w.heap.size w1.heap.size s _ WT.out hB0).mono ?_
     rintro e w3 ⟨rfl, hb⟩
     go_wp2
     go_returns
     exact .inl ⟨s, by unfold Wri.write; rw [HC.out, if_neg (by decide), HS0.out, if_neg HS2.out], rfl, HU.out.trans hb⟩
 have d1 : ((c : Int) == 0) = false := by rw [beq_eq_false_iff_ne]; omega
 have d2 : ((c : Int) != 0) = true := by simp [bne, d1]
 go_wp2
 go_returns
 exact .inr ⟨c, by unfold Wri.write; rw [HC.out, if_pos hc0], by omega, rfl, HU.out⟩
end Go.Proofs.YtonjdlialejedaaGreatDoor
namespace Pars
open Lexy (Tk)
open Wri (wg wgs)
def wt : List Tk → Int
 | [] => 0
 | t :: l => 1 + t.text.length + wt l
theorem wgs_append : ∀ a b : List Node, wgs (a ++ b) = wgs a + wgs b
 | [], b => by simp [wgs]
 | n :: a, b => by simp only [List.cons_append, wgs, wgs_append a b]; omega
theorem wgs_kids (n : Node) : (wgs n.kids : Int) + 1 ≤ wg n := by cases n; simp only [Node.kids, wg]; omega
def Cg (d : Int) (p : List Tk → R) : Prop := ∀ l x r, p l = some (x, r) → (wg x : Int) + wt r ≤ d + wt l
theorem cg_weak {d e : Int} {p : List Tk → R} (h : Cg d p) (hd : d ≤ e) : Cg e p := fun l x r q => by have := h l x r q; omega
theorem cg_none (d : Int) : Cg d (fun _ => none) := fun l x r h => by cases h
theorem cg_pure {d : Int} (x : Node) (hx : (wg x : Int) ≤ d) : Cg d (fun l => some (x, l)) := fun l y r h => by
 injection h with h; injection h with h1 h2; subst h1 h2; omega
theorem cg_alt {d : Int} {w : Bs} {f g : List Tk → R} (hf : Cg (d + 1 + w.length) f) (hg : Cg d g) : Cg d (fun l => alt w l f (g l)) := by
 intro l x r h
 cases hi : is w l with
 | none => simp only [alt, hi] at h; exact hg l x r h
 | some l' =>
  simp only [alt, hi] at h
  obtain ⟨⟨t, ht, _, hw⟩, _⟩ := is_some hi
  have := hf l' x r h
  subst ht
  simp only [wt, hw]; omega
theorem cg_must {d : Int} {w : Bs} {f : List Tk → R} (hf : Cg (d + 1 + w.length) f) : Cg d (fun l => must w l f) := cg_alt hf (cg_none _)
theorem cg_tok {d : Int} {k : Nat} {f : Tk → List Tk → R} {g : List Tk → R} (hf : ∀ t, Cg (d + 1 + t.text.length) (f t)) (hg : Cg d g) : Cg d (fun l => tok k l f (g l)) := by
 intro l x r h
 cases l with
 | nil => exact hg [] x r h
 | cons t l =>
  simp only [tok] at h
  by_cases hk : t.kind = k
  ·rw [if_pos hk] at h
   have := hf t l x r h
   simp only [wt]; omega
  ·rw [if_neg hk] at h; exact hg _ x r h
theorem cg_named {d : Int} {f : Bs → List Tk → R} (hf : ∀ n, Cg (d + 1 + n.length) (f n)) : Cg d (fun l => named l f) := cg_tok (fun t => hf t.text) (cg_none _)
theorem cg_and {a d : Int} {p : List Tk → R} {q : Node → List Tk → R} (hp : Cg a p) (hq : ∀ x, Cg (d - a + wg x) (q x)) : Cg d (fun l => andThen (p l) q) := by
 intro l x r h
 cases hi : p l with
 | none => simp only [andThen, hi] at h; cases h
 | some y =>
  obtain ⟨y, l1⟩ := y
  simp only [andThen, hi] at h
  have h1 := hp l y l1 hi
  have h2 := hq y l1 x r h
  omega
theorem cg_signs {d : Int} {ss : List Bs} {f : Bs → List Tk → R} {g : List Tk → R} (hf : ∀ n, Cg (d + 1 + n.length) (f n)) (hg : Cg d g) : Cg d (fun l => signs ss l f (g l)) := by
 induction ss with
 | nil => exact hg
 | cons a ss ih =>
  have e : (fun l => signs (a :: ss) l f (g l)) = fun l => alt a l (f a) (signs ss l f (g l)) := by
   funext l
   simp only [signs, anyOf, alt]
   cases is a l <;> rfl
  rw [e]
  exact cg_alt (hf a) ih
theorem cg_peek {d : Int} {w : Bs} {a b : List Tk → R} (ha : Cg d a) (hb : Cg d b) : Cg d (fun l => peek w l (a l) (b l)) := by
 intro l x r h
 cases l with
 | nil => exact hb [] x r h
 | cons t l =>
  simp only [peek] at h
  by_cases hk : t.kind = 4 ∧ t.text = w
  ·rw [if_pos hk] at h; exact ha _ x r h
  ·rw [if_neg hk] at h; exact hb _ x r h
theorem cg_sep {d : Int} {more : Bool} {f : List Tk → R} (hf : Cg d f) : Cg d (fun l => sep more l f) := by
 cases more
 ·exact hf
 ·exact cg_must (cg_weak hf (by omega))
theorem cg_ite {d : Int} {c : Prop} [Decidable c] {p q : List Tk → R} (hp : Cg d p) (hq : Cg d q) : Cg d (fun l => if c then p l else q l) := by
 by_cases h : c
 ·simpa [h] using hp
 ·simpa [h] using hq
def owes : Nt → Int
 | .block => -1
 | .body _ => -1
 | .inner => -2
 | .function s => s.length
 | .blockGo acc => wgs acc
 | .binGo _ e => wg e
 | .post e => wg e
 | .some _ _ _ acc => wgs acc
 | _ => 0
theorem wg_joined (s : Bs) (a b : Node) : wg (joined s a b) ≤ wg a + wg b + s.length + 1 := by unfold joined; split <;> (try split) <;> simp [wg, wgs] <;> omega
def goodW : Nt → Bool
 | .some _ .param _ _ => true
 | .some _ .expression _ _ => true
 | .some _ .pair _ _ => true
 | .some _ _ _ _ => false
 | _ => true
theorem goodW_some {f : Bs} {one : Nt} {m : Bool} {acc : List Node} (h : goodW (.some f one m acc) = true) : owes one = 0 ∧ goodW one = true ∧ ∀ m acc, goodW (.some f one m acc) = true := by
 cases one <;> first | (simp [goodW] at h; done) | exact ⟨rfl, rfl, fun _ _ => rfl⟩
set_option maxHeartbeats 1000000 in
theorem run_cg : ∀ n nt fn lp, goodW nt = true → Cg (owes nt) (fun l => run n nt fn lp l)
 | 0, nt, fn, lp, _ => by simp only [run]; exact cg_none _
 | n + 1, nt, fn, lp, hg => by
  have ih := run_cg n
  cases nt
  case some fin one more acc =>
   obtain ⟨h1, h2, h3⟩ := goodW_some hg
   simp only [run]
   refine cg_alt (cg_pure _ ?_) (cg_sep (cg_and (ih _ _ _ h2) fun x => cg_weak (ih _ _ _ (h3 _ _)) ?_))
   ·simp only [owes, wg, List.length_nil]; omega
   ·rw [h1]; simp only [owes, wgs_append, wgs]; omega
  case binGo r e =>
   simp only [run]
   refine cg_signs (fun s => cg_and (ih _ _ _ rfl) fun b => cg_weak (ih _ _ _ rfl) ?_) (cg_pure _ (by simp only [owes]; omega))
   have := wg_joined s e b
   simp only [owes]; omega
  all_goals
   simp only [run]
   repeat' first
    | exact cg_none _
    | (refine cg_must ?_)
    | (refine cg_named fun _ => ?_)
    | (refine cg_alt ?_ ?_)
    | (refine cg_and (ih _ _ _ rfl) fun _ => ?_)
    | (refine cg_tok (fun _ => ?_) ?_)
    | (refine cg_signs (fun _ => ?_) ?_)
    | (refine cg_peek ?_ ?_)
    | (refine cg_ite ?_ ?_)
    | (refine cg_weak (ih _ _ _ rfl) ?_; simp only [owes, wg, wgs, wgs_append, List.length_cons, List.length_nil]; omega)
    | (refine cg_pure _ ?_; simp only [owes, wg, wgs, wgs_append, List.length_cons, List.length_nil]; omega)
    | (rename_i y; have hy := wgs_kids y; refine cg_weak (ih _ _ _ rfl) ?_; simp only [owes, wg, wgs, wgs_append, List.length_cons, List.length_nil]; omega)
    | (rename_i y; have hy := wgs_kids y; refine cg_pure _ ?_; simp only [owes, wg, wgs, wgs_append, List.length_cons, List.length_nil]; omega)
    | (rename_i y z; have hy := wgs_kids y; refine cg_pure _ ?_; simp only [owes, wg, wgs, wgs_append, List.length_cons, List.length_nil]; omega)
theorem top_wg : ∀ n acc l k, top n acc l = some k → (wgs k : Int) ≤ wgs acc + wt l
 | _, acc, [], k, h => by
  have : k = acc := by cases ‹Nat› <;> simp [top] at h <;> exact h.symm
  subst this; simp [wt]
 | 0, _, _ :: _, k, h => by simp [top] at h
 | n + 1, acc, t :: l, k, h => by
  simp only [top] at h
  cases hr : run (fuel (t :: l)) .statement false false (t :: l) with
  | none => rw [hr] at h; cases h
  | some y =>
   obtain ⟨x, r⟩ := y
   rw [hr] at h
   have h1 := top_wg n _ _ _ h
   have h2 := run_cg _ .statement false false rfl (t :: l) x r hr
   simp only [owes] at h2
   rw [wgs_append] at h1
   simp only [wgs] at h1
   omega
theorem txt_le : ∀ (f : Nat) (l t : Bs) (m : Nat), Lexy.txtF f l = some (t, m) → t.length < m
 | 0, l, t, m, h => by simp [Lexy.txtF] at h
 | f + 1, [], t, m, h => by simp [Lexy.txtF] at h
 | f + 1, c :: r, t, m, h => by
  simp only [Lexy.txtF] at h
  split at h
  ·simp at h; obtain ⟨rfl, rfl⟩ := h; simp
  split at h
  ·cases h
  split at h
  ·split at h
   ·cases h
   ·split at h
    ·cases h
    ·rename_i hr
     simp at h
     obtain ⟨rfl, rfl⟩ := h
     have := txt_le f _ _ _ hr
     simp only [List.length_cons]; omega
  ·split at h
   ·cases h
   ·rename_i hr
    simp at h
    obtain ⟨rfl, rfl⟩ := h
    have := txt_le f _ _ _ hr
    simp only [List.length_cons]; omega
theorem next_le {l : Bs} {t : Tk} {n : Nat} (h : Lexy.next l = .ok (t, n)) : t.text.length ≤ n := by
 cases l with
 | nil => simp [Lexy.next] at h
 | cons c r =>
  simp only [Lexy.next] at h
  split at h
  ·simp only [Lexy.Res.ok.injEq, Prod.mk.injEq] at h
   obtain ⟨rfl, rfl⟩ := h
   simp only [List.length_take]; omega
  split at h
  ·split at h
   ·cases h
   ·split at h
    ·cases h
    ·simp only [Lexy.Res.ok.injEq, Prod.mk.injEq] at h
     obtain ⟨rfl, rfl⟩ := h
     simp
  split at h
  ·split at h
   ·cases h
   ·rename_i ht
    simp only [Lexy.Res.ok.injEq, Prod.mk.injEq] at h
    obtain ⟨rfl, rfl⟩ := h
    have := txt_le _ _ _ _ ht
    simp only; omega
  ·unfold Lexy.sign at h
   split at h
   ·simp only [Lexy.Res.ok.injEq, Prod.mk.injEq] at h
    obtain ⟨rfl, rfl⟩ := h
    simp only [List.length_take]; omega
   ·split at h
    ·simp only [Lexy.Res.ok.injEq, Prod.mk.injEq] at h
     obtain ⟨rfl, rfl⟩ := h
     simp only [List.length_take]; omega
    ·cases h
theorem lex_wt {p : Nat} {l : Bs} {ts : List Lexy.Tok} (h : Lexy.Lex p l ts) : wt (ts.map (·.toTk)) ≤ ts.length + l.length := by
 induction h with
 | done p l hd => simp [wt]
 | more p l t n ts hne hn _ ih =>
  have h1 := next_le hn
  have h2 := Lexy.next_len hn
  have h3 := Lexy.skp_le false l
  rw [List.length_drop] at h2
  rw [List.length_drop, List.length_drop] at ih
  simp only [List.map_cons, wt, List.length_cons]
  omega
theorem parse_wg {s : Bs} {n : Node} (h : parse s = .ok n) : wg n ≤ 3001 := by
 unfold parse at h
 cases ht : Lexy.toks s with
 | err e => rw [ht] at h; cases h
 | ok l =>
  rw [ht] at h
  simp only at h
  unfold Lexy.toks at ht
  split at ht
  ·cases ht
  ·rename_i hl
   obtain ⟨h1, h2⟩ := Lexy.lex_of _ _ _ _ ht
   unfold tree at h
   cases hr : top (l.map (·.toTk)).length [] (l.map (·.toTk)) with
   | none => rw [hr] at h; cases h
   | some k =>
    rw [hr] at h
    simp only [Option.map_some] at h
    split at h
    ·cases h
    ·injection h with h
     subst h
     have h3 := top_wg _ _ _ _ hr
     have h4 := lex_wt h1
     simp only [wgs, wg, List.length_nil] at h3 ⊢
     omega
end Pars
