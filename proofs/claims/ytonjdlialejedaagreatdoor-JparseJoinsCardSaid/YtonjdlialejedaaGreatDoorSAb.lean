/-
  Texts that the law leans on: Par, LexT, LexQ, Wri, Mem, Max, Row, Res. Conditions: as each says.
-/
import Derived.Test.YtonjdlialejedaaGreatDoorSAa
import Derived.Lib.ItoaNum
import Derived.Lib.IndexMore
import Derived.Lib.Strings
import Derived.Test.YtonjdlialejedaaGreatDoorRows
import Derived.WalkKit
import Derived.Below
import Derived.Deep.QuietTactic
import Derived.Laws.Tables
import Derived.Laws.Rows
import Derived.Laws.ResultCell
import Derived.WalkLawsBesides
import Derived.Laws.CopyOwn
import Derived.Deep.AppendLies
import Derived.Deep.MidRow
import Derived.Lib.SliceRun
import Derived.Lib.Hide
import Derived.Deep.RegionLaw
import Derived.Deep.RegionHeld3
set_option linter.unusedSimpArgs false
set_option linter.unusedVariables false
namespace Pars
open Lexy (Tk)
abbrev Bs := List UInt8
inductive Node where
 | mk (kind num : Int) (text : Bs) (kids : List Node)
instance : Inhabited Node := ⟨.mk 0 0 [] []⟩
namespace Node
def kind : Node → Int | .mk k _ _ _ => k
def num : Node → Int | .mk _ n _ _ => n
def text : Node → Bs | .mk _ _ t _ => t
def kids : Node → List Node | .mk _ _ _ l => l
end Node
abbrev R := Option (Node × List Tk)
def is (s : Bs) : List Tk → Option (List Tk)
 | t :: r => if (t.kind = 4 ∨ t.kind = 5) ∧ t.text = s then some r else none
 | [] => none
def anyOf : List Bs → List Tk → Option (Bs × List Tk)
 | [], _ => none
 | s :: ss, l => match is s l with
  | some r => some (s, r)
  | none => anyOf ss l
def andThen (r : R) (f : Node → List Tk → R) : R := match r with
 | none => none
 | some (x, l) => f x l
def alt (s : Bs) (l : List Tk) (f : List Tk → R) (g : R) : R := match is s l with
 | none => g
 | some r => f r
def must (s : Bs) (l : List Tk) (f : List Tk → R) : R := alt s l f none
def tok (k : Nat) (l : List Tk) (f : Tk → List Tk → R) (g : R) : R := match l with
 | [] => g
 | t :: r => if t.kind = k then f t r else g
def named (l : List Tk) (f : Bs → List Tk → R) : R := tok 1 l (fun t r => f t.text r) none
def signs (ss : List Bs) (l : List Tk) (f : Bs → List Tk → R) (g : R) : R := match anyOf ss l with
 | none => g
 | some (s, r) => f s r
def peek (s : Bs) (l : List Tk) (a b : R) : R := match l with
 | [] => b
 | t :: _ => if t.kind = 4 ∧ t.text = s then a else b
def sep (more : Bool) (l : List Tk) (f : List Tk → R) : R := if more then must [44] l f else f l
def ranks : List (List Bs) := [[[124, 124]], [[38, 38]], [[61, 61], [33, 61]], [[60], [60, 61], [62], [62, 61]], [[43], [45]], [[42], [47], [37]]]
def joined (sign : Bs) (a b : Node) : Node :=
 if sign = [124, 124] then .mk 17 0 [] [a, b] else if sign = [38, 38] then .mk 16 0 [] [a, b] else .mk 15 0 sign [a, b]
inductive Nt where
 | block | blockGo (acc : List Node) | body (fn : Bool) | function (name : Bs) | inner | ifs | loops | tries | statement | expression | cond
 | binary (rank : Nat) | binGo (rank : Nat) (e : Node) | unary | post (e : Node) | first
 | some (fin : Bs) (one : Nt) (more : Bool) (acc : List Node) | param | pair
abbrev wLet : Bs := [108, 101, 116]
abbrev wFn : Bs := [102, 110]
abbrev wIf : Bs := [105, 102]
abbrev wElse : Bs := [101, 108, 115, 101]
abbrev wWhile : Bs := [119, 104, 105, 108, 101]
abbrev wFor : Bs := [102, 111, 114]
abbrev wOf : Bs := [111, 102]
abbrev wReturn : Bs := [114, 101, 116, 117, 114, 110]
abbrev wBreak : Bs := [98, 114, 101, 97, 107]
abbrev wContinue : Bs := [99, 111, 110, 116, 105, 110, 117, 101]
abbrev wThrow : Bs := [116, 104, 114, 111, 119]
abbrev wTry : Bs := [116, 114, 121]
abbrev wCatch : Bs := [99, 97, 116, 99, 104]
abbrev wFinally : Bs := [102, 105, 110, 97, 108, 108, 121]
abbrev wTrue : Bs := [116, 114, 117, 101]
abbrev wFalse : Bs := [102, 97, 108, 115, 101]
abbrev wNull : Bs := [110, 117, 108, 108]
def ended (n : Node) (l : List Tk) : R := must [59] l fun r => some (n, r)
def run : Nat → Nt → Bool → Bool → List Tk → R
 | 0, _, _, _, _ => none
 | n + 1, .block, fn, lp, l => must [123] l fun l => run n (.blockGo []) fn lp l
 | n + 1, .blockGo acc, fn, lp, l => alt [125] l (fun r => some (.mk 30 0 [] acc, r)) (andThen (run n .statement fn lp l) fun k r => run n (.blockGo (acc ++ [k])) fn lp r)
 | n + 1, .body f, fn, lp, l => run n .block (fn || f) (!f) l
 | n + 1, .function nm, fn, lp, l => must [40] l fun l => andThen (run n (.some [41] .param false []) fn lp l) fun ps l => andThen (run n (.body true) fn lp l) fun b l => some (.mk 9 0 nm (ps.kids ++ [b]), l)
 | n + 1, .inner, fn, lp, l => must [40] l fun l => andThen (run n .expression fn lp l) fun e l => must [41] l fun l => some (e, l)
 | n + 1, .ifs, fn, lp, l => andThen (run n .inner fn lp l) fun c l => andThen (run n .block fn lp l) fun b l =>
   alt wElse l (fun l => alt wIf l (fun l => andThen (run n .ifs fn lp l) fun e l => some (.mk 22 0 [] [c, b, e], l)) (andThen (run n .block fn lp l) fun e l => some (.mk 22 0 [] [c, b, e], l)))
    (some (.mk 22 0 [] [c, b], l))
 | n + 1, .loops, fn, lp, l => must [40] l fun l => must wLet l fun l => named l fun nm l => must wOf l fun l => andThen (run n .expression fn lp l) fun e l => must [41] l fun l => andThen (run n (.body false) fn lp l) fun b l => some (.mk 24 0 nm [e, b], l)
 | n + 1, .tries, fn, lp, l => andThen (run n .block fn lp l) fun b l =>
   alt wCatch l (fun l => must [40] l fun l => named l fun nm l => must [41] l fun l => andThen (run n .block fn lp l) fun c l =>
     alt wFinally l (fun l => andThen (run n .block fn lp l) fun d l => some (.mk 29 3 nm [b, c, d], l)) (some (.mk 29 1 nm [b, c], l)))
    (alt wFinally l (fun l => andThen (run n .block fn lp l) fun d l => some (.mk 29 2 [] [b, d], l)) none)
 | n + 1, .statement, fn, lp, l =>
   alt wLet l (fun l => named l fun nm l => must [61] l fun l => andThen (run n .expression fn lp l) fun e l => ended (.mk 20 0 nm [e]) l) <|
   alt wFn l (fun l => named l fun nm l => andThen (run n (.function nm) fn lp l) fun f l => some (.mk 21 0 [] [f], l)) <|
   alt wIf l (fun l => run n .ifs fn lp l) <|
   alt wWhile l (fun l => andThen (run n .inner fn lp l) fun c l => andThen (run n (.body false) fn lp l) fun b l => some (.mk 23 0 [] [c, b], l)) <|
   alt wFor l (fun l => run n .loops fn lp l) <|
   alt wReturn l (fun l => if fn = false then none else alt [59] l (fun l => some (.mk 25 0 [] [], l)) (andThen (run n .expression fn lp l) fun e l => ended (.mk 25 0 [] [e]) l)) <|
   alt wBreak l (fun l => if lp = false then none else ended (.mk 26 0 [] []) l) <|
   alt wContinue l (fun l => if lp = false then none else ended (.mk 27 0 [] []) l) <|
   alt wThrow l (fun l => andThen (run n .expression fn lp l) fun e l => ended (.mk 28 0 [] [e]) l) <|
   alt wTry l (fun l => run n .tries fn lp l) <|
   peek [123] l (run n .block fn lp l) (andThen (run n .expression fn lp l) fun e l => ended (.mk 31 0 [] [e]) l)
 | n + 1, .expression, fn, lp, l => andThen (run n .cond fn lp l) fun e l =>
   alt [61] l (fun l => if e.kind = 5 ∨ e.kind = 12 ∨ e.kind = 13 then andThen (run n .expression fn lp l) fun v l => some (.mk 19 0 [] [e, v], l) else none) (some (e, l))
 | n + 1, .cond, fn, lp, l => andThen (run n (.binary 0) fn lp l) fun e l =>
   alt [63] l (fun l => andThen (run n .expression fn lp l) fun a l => must [58] l fun l => andThen (run n .expression fn lp l) fun b l => some (.mk 18 0 [] [e, a, b], l)) (some (e, l))
 | n + 1, .binary r, fn, lp, l => if r = 6 then run n .unary fn lp l else andThen (run n (.binary (r + 1)) fn lp l) fun e l => run n (.binGo r e) fn lp l
 | n + 1, .binGo r e, fn, lp, l => signs (ranks.getD r []) l (fun s l => andThen (run n (.binary (r + 1)) fn lp l) fun b l => run n (.binGo r (joined s e b)) fn lp l) (some (e, l))
 | n + 1, .unary, fn, lp, l => signs [[33], [45]] l (fun s l => andThen (run n .unary fn lp l) fun e l => some (.mk 14 0 s [e], l)) (andThen (run n .first fn lp l) fun e l => run n (.post e) fn lp l)
 | n + 1, .post e, fn, lp, l =>
   alt [40] l (fun l => andThen (run n (.some [41] .expression false []) fn lp l) fun ar l => run n (.post (.mk 11 0 [] (e :: ar.kids))) fn lp l) <|
   alt [91] l (fun l => andThen (run n .expression fn lp l) fun i l => must [93] l fun l => run n (.post (.mk 12 0 [] [e, i])) fn lp l) <|
   alt [46] l (fun l => named l fun nm l => run n (.post (.mk 13 0 nm [e])) fn lp l) (some (e, l))
 | n + 1, .first, fn, lp, l =>
   tok 2 l (fun t r => some (.mk 1 t.num [] [], r)) <| tok 3 l (fun t r => some (.mk 2 0 t.text [], r)) <| tok 1 l (fun t r => some (.mk 5 0 t.text [], r)) <|
   alt wTrue l (fun l => some (.mk 3 1 [] [], l)) <| alt wFalse l (fun l => some (.mk 3 0 [] [], l)) <| alt wNull l (fun l => some (.mk 4 0 [] [], l)) <|
   alt wFn l (fun l => run n (.function []) fn lp l) <|
   alt [91] l (fun l => andThen (run n (.some [93] .expression false []) fn lp l) fun ar l => some (.mk 6 0 [] ar.kids, l)) <|
   alt [123] l (fun l => andThen (run n (.some [125] .pair false []) fn lp l) fun ar l => some (.mk 7 0 [] ar.kids, l)) (run n .inner fn lp l)
 | n + 1, .some fin one more acc, fn, lp, l => alt fin l (fun r => some (.mk 0 0 [] acc, r)) (sep more l fun l => andThen (run n one fn lp l) fun x r => run n (.some fin one true (acc ++ [x])) fn lp r)
 | n + 1, .param, fn, lp, l => named l fun nm l => some (.mk 10 0 nm [], l)
 | n + 1, .pair, fn, lp, l => named l fun nm l => must [58] l fun l => andThen (run n .expression fn lp l) fun e l => some (.mk 8 0 nm [e], l)
def fuel (l : List Tk) : Nat := 20 * l.length + 20
def top : Nat → List Node → List Tk → Option (List Node)
 | _, acc, [] => some acc
 | 0, _, _ :: _ => none
 | n + 1, acc, t :: l => match run (fuel (t :: l)) .statement false false (t :: l) with
  | none => none
  | some (k, r) => top n (acc ++ [k]) r
mutual
def deep : Node → Nat
 | .mk _ _ _ l => deeps l + 1
def deeps : List Node → Nat
 | [] => 0
 | n :: l => max (deep n) (deeps l)
end
mutual
def same : Node → Node → Bool
 | .mk k n t l, .mk k' n' t' l' => decide (k = k') && (decide (n = n') && (decide (t = t') && sames l l'))
def sames : List Node → List Node → Bool
 | [], [] => true
 | a :: l, b :: m => same a b && sames l m
 | [], _ :: _ => false
 | _ :: _, [] => false
end
def tree (l : List Tk) : Option Node := (top l.length [] l).map (.mk 30 0 [])
def parse (s : Bs) : Except Nat Node := match Lexy.toks s with
 | .err e => .error e
 | .ok l => match tree (l.map (·.toTk)) with
  | none => .error 4
  | some n => if 40 < deep n then .error 2 else .ok n
theorem try1 : (match parse [120, 61, 49, 43, 50, 42, 40, 51, 45, 121, 41, 59] with | .ok n => deep n | .error e => 100 + e) = 7 := by decide +kernel
end Pars
namespace Lexy
theorem txtF_enough : ∀ (f g : Nat) (l : Bs), l.length ≤ f → l.length ≤ g → txtF f l = txtF g l := by
 intro f
 induction f with
 | zero =>
  intro g l hf hg
  have : l = [] := List.eq_nil_of_length_eq_zero (by omega)
  subst this
  cases g <;> simp [txtF]
 | succ f ih =>
  intro g l hf hg
  cases l with
  | nil => cases g <;> simp [txtF]
  | cons c r =>
   cases g with
   | zero => simp at hg
   | succ g =>
    simp only [List.length_cons] at hf hg
    simp only [txtF]
    by_cases h1 : (c == 34) = true
    ·rw [if_pos h1, if_pos h1]
    rw [if_neg h1, if_neg h1]
    by_cases h2 : c.toNat < 32
    ·rw [if_pos h2, if_pos h2]
    rw [if_neg h2, if_neg h2]
    by_cases h3 : (c == 92) = true
    ·rw [if_pos h3, if_pos h3]
     cases esc r with
     | none => rfl
     | some bn =>
      obtain ⟨b, n⟩ := bn
      simp only
      rw [ih g (r.drop n) (by simp; omega) (by simp; omega)]
    ·rw [if_neg h3, if_neg h3, ih g r (by omega) (by omega)]
theorem txt_nil : txt [] = none := by simp [txt, txtF]
theorem txt_cons (c : UInt8) (r : Bs) : txt (c :: r) =
  if c == 34 then some ([], 1)
  else if c.toNat < 32 then none
  else if c == 92 then
   match esc r with
   | none => none
   | some (b, n) => match txt (r.drop n) with
    | none => none
    | some (t, m) => some (b :: t, 1 + n + m)
  else match txt r with
   | none => none
   | some (t, m) => some (c :: t, 1 + m) := by
 have e : ∀ n, txt (r.drop n) = txtF r.length (r.drop n) := fun n => txtF_enough _ _ _ (Nat.le_refl _) (by simp)
 have e0 : txt r = txtF r.length r := rfl
 simp only [e, e0]
 rfl
def fin (acc : Bs) (k : Nat) (l : Bs) : Option (Bs × Nat) := (txt l).map fun x => (acc ++ x.1, k + x.2)
theorem fin_quote (acc : Bs) (k : Nat) (r : Bs) : fin acc k (34 :: r) = some (acc, k + 1) := by
 unfold fin; rw [txt_cons]; simp
theorem fin_low (acc : Bs) (k : Nat) {c : UInt8} (r : Bs) (h : c.toNat < 32) : fin acc k (c :: r) = none := by
 unfold fin; rw [txt_cons, if_neg (by intro hc; rw [eq_of_beq hc] at h; simp at h), if_pos h]; rfl
theorem fin_bad (acc : Bs) (k : Nat) (r : Bs) (h : esc r = none) : fin acc k (92 :: r) = none := by
 unfold fin; rw [txt_cons, if_neg (by decide), if_neg (by decide), if_pos (by decide), h]; rfl
theorem fin_esc (acc : Bs) (k : Nat) (r : Bs) {b : UInt8} {n : Nat} (h : esc r = some (b, n)) : fin acc k (92 :: r) = fin (acc ++ [b]) (k + 1 + n) (r.drop n) := by
 unfold fin; rw [txt_cons, if_neg (by decide), if_neg (by decide), if_pos (by decide), h]
 simp only
 cases txt (r.drop n) with
 | none => rfl
 | some x => simp; omega
theorem fin_byte (acc : Bs) (k : Nat) {c : UInt8} (r : Bs) (h1 : c ≠ 34) (h2 : ¬ c.toNat < 32) (h3 : c ≠ 92) : fin acc k (c :: r) = fin (acc ++ [c]) (k + 1) r := by
 unfold fin; rw [txt_cons, if_neg (by simpa using h1), if_neg h2, if_neg (by simpa using h3)]
 cases txt r with
 | none => rfl
 | some x => simp; omega
theorem fin_nil (acc : Bs) (k : Nat) : fin acc k [] = none := by unfold fin; rw [txt_nil]; rfl
end Lexy
namespace Lexy
def hexd (n : UInt8) : UInt8 := if n < 10 then n + 48 else n + 87
def qb (c : UInt8) : Bs :=
 if c == 34 || c == 92 then [92, c] else if c == 10 then [92, 110] else if c == 9 then [92, 116]
 else if decide (c.toNat < 32) || decide (126 < c.toNat) then [92, 120, hexd (c / 16), hexd (c % 16)] else [c]
def quote (l : Bs) : Bs := 34 :: (l.flatMap qb ++ [34])
theorem all_bytes {p : UInt8 → Prop} [DecidablePred p] (h : ∀ n : Fin 256, p (UInt8.ofNat n)) (c : UInt8) : p c := by
 have := h ⟨c.toNat, c.toNat_lt⟩
 simpa using this
theorem hex_back : ∀ c : UInt8, hexv (hexd (c / 16)) = some (c / 16) ∧ hexv (hexd (c % 16)) = some (c % 16) ∧ c / 16 * 16 + c % 16 = c :=
 all_bytes (by decide +kernel)
theorem qb_len : ∀ c : UInt8, 1 ≤ (qb c).length ∧ (qb c).length ≤ 4 := all_bytes (by decide +kernel)
theorem fin_qb (acc : Bs) (k : Nat) (c : UInt8) (r : Bs) : fin acc k (qb c ++ r) = fin (acc ++ [c]) (k + (qb c).length) r := by
 unfold qb
 by_cases h1 : (c == 34 || c == 92) = true
 ·rw [if_pos h1]
  have he : esc (c :: r) = some (c, 1) := by simp only [esc]; rw [if_pos h1]
  have := fin_esc acc k (c :: r) he
  simpa [Nat.add_assoc] using this
 rw [if_neg h1]
 by_cases h2 : (c == 10) = true
 ·rw [if_pos h2]
  have hc := eq_of_beq h2
  subst hc
  have he : esc (110 :: r) = some (10, 1) := by simp [esc]
  have := fin_esc acc k (110 :: r) he
  simpa [Nat.add_assoc] using this
 rw [if_neg h2]
 by_cases h3 : (c == 9) = true
 ·rw [if_pos h3]
  have hc := eq_of_beq h3
  subst hc
  have he : esc (116 :: r) = some (9, 1) := by simp [esc]
  have := fin_esc acc k (116 :: r) he
  simpa [Nat.add_assoc] using this
 rw [if_neg h3]
 by_cases h4 : (decide (c.toNat < 32) || decide (126 < c.toNat)) = true
 ·rw [if_pos h4]
  obtain ⟨e1, e2, e3⟩ := hex_back c
  have he : esc (120 :: hexd (c / 16) :: hexd (c % 16) :: r) = some (c, 3) := by
   simp only [esc]
   rw [if_neg (by decide), if_neg (by decide), if_neg (by decide), if_pos (by decide), e1, e2]
   simp only [e3]
  have := fin_esc acc k (120 :: hexd (c / 16) :: hexd (c % 16) :: r) he
  simpa [Nat.add_assoc] using this
 ·rw [if_neg h4]
  simp only [Bool.or_eq_true, decide_eq_true_eq, not_or] at h4
  simp only [Bool.or_eq_true, beq_iff_eq, not_or] at h1
  have := fin_byte acc k r h1.1 h4.1 h1.2
  simpa using this
theorem fin_all (l : Bs) : ∀ (acc : Bs) (k : Nat), fin acc k (l.flatMap qb ++ [34]) = some (acc ++ l, k + (l.flatMap qb).length + 1) := by
 induction l with
 | nil => intro acc k; have := fin_quote acc k []; simpa using this
 | cons c r ih =>
  intro acc k
  rw [List.flatMap_cons, List.append_assoc, fin_qb, ih]
  simp; omega
theorem txt_quote (l : Bs) : txt (l.flatMap qb ++ [34]) = some (l, (l.flatMap qb).length + 1) := by
 have h := fin_all l [] 0
 unfold fin at h
 cases ht : txt (l.flatMap qb ++ [34]) with
 | none => rw [ht] at h; simp at h
 | some x =>
  rw [ht] at h
  obtain ⟨x1, x2⟩ := x
  simp only [Option.map_some, List.nil_append, Nat.zero_add, Option.some.injEq, Prod.mk.injEq] at h
  rw [h.1, h.2]
theorem toks_quote (l : Bs) : toks (quote l) = if 2000 < (quote l).length then .err 2 else .ok [⟨⟨3, l, 0⟩, 0, (quote l).length⟩] := by
 unfold toks
 split
 ·rfl
 ·have hlen : (quote l).length = 1 + ((l.flatMap qb).length + 1) := by simp [quote]; omega
  have hn : next (quote l) = .ok (⟨3, l, 0⟩, (quote l).length) := by
   rw [hlen]
   simp only [quote, next]
   rw [if_neg (by decide), if_neg (by decide), if_pos (by decide), txt_quote]
  have hs : skp false (quote l) = 0 := by simp [quote, skp, isBlank]
  rw [toksR_eq, hs]
  have hd : (quote l).drop 0 = 34 :: (l.flatMap qb ++ [34]) := rfl
  rw [hd]
  have hn' : next (34 :: (l.flatMap qb ++ [34])) = .ok (⟨3, l, 0⟩, (quote l).length) := hn
  simp only [hn']
  have he : (34 :: (l.flatMap qb ++ [34])).drop (quote l).length = [] := List.drop_eq_nil_of_le (by rw [hlen]; simp; omega)
  rw [he, toksR_eq]
  simp
end Lexy
namespace Wri
open Pars (Node Bs)
def plain (k : Int) (m : Nat) : Bs × Bool :=
 if k = 1 ∨ k = 2 ∨ k = 3 ∨ k = 4 ∨ k = 5 ∨ k = 10 ∨ k = 25 ∨ k = 26 ∨ k = 27 then ([], true)
 else if k = 6 then ([101, 42], true)
 else if k = 7 then ([112, 42], true)
 else if k = 8 ∨ k = 13 ∨ k = 14 ∨ k = 20 ∨ k = 28 ∨ k = 31 then ([101], true)
 else if k = 11 then ([101, 101, 42], true)
 else if k = 12 ∨ k = 15 ∨ k = 16 ∨ k = 17 then ([101, 101], true)
 else if k = 18 then ([101, 101, 101], true)
 else if k = 19 then ([116, 101], true)
 else if k = 21 then ([100], true)
 else if k = 22 then ([101, 98], true)
 else if k = 23 ∨ k = 24 then ([101, 108], true)
 else if k = 29 then ([98, 98], true)
 else if k = 30 then ([115, 42], true)
 else if k = 9 then (List.replicate (m - 1) 113 ++ [103], true)
 else ([], false)
def form (k nu : Int) (m : Nat) : Bs × Bool :=
 (if k = 22 ∧ m = 3 then [101, 98, 105] else if k = 25 ∧ m = 1 then [101] else if k = 29 ∧ nu = 3 then [98, 98, 98] else (plain k m).1, (plain k m).2)
def sort (n : Node) (c : UInt8) : Bool :=
 if c = 112 then decide (n.kind = 8)
 else if c = 116 then decide (n.kind = 5 ∨ n.kind = 12 ∨ n.kind = 13)
 else if c = 100 then decide (n.kind = 9 ∧ n.text ≠ [])
 else if c = 98 ∨ c = 108 ∨ c = 103 then decide (n.kind = 30)
 else if c = 105 then decide (n.kind = 30 ∨ n.kind = 22)
 else if c = 113 then decide (n.kind = 10)
 else if c = 115 then decide (20 ≤ n.kind ∧ n.kind ≤ 31)
 else decide (1 ≤ n.kind ∧ n.kind ≤ 19 ∧ n.kind ≠ 8 ∧ n.kind ≠ 10 ∧ (n.kind ≠ 9 ∨ n.text = []))
def unaryS : Bs := [33, 32, 45]
def binaryS : Bs := [61, 61, 32, 33, 61, 32, 60, 32, 60, 61, 32, 62, 32, 62, 61, 32, 43, 32, 45, 32, 42, 32, 47, 32, 37]
def one (s words : Bs) : Bool := Go.Lib.contains ([32] ++ words ++ [32]) ([32] ++ s ++ [32]) && (!decide (s = []) && !decide (0 ≤ Go.Lib.indexByte s 32))
def name (s : Bs) : Bool := match Lexy.toks s with
 | .ok [t] => decide (t.kind = 1) && decide (t.text = s)
 | _ => false
def fields (k nu : Int) (t : Bs) : Bool :=
 if k = 1 then decide (0 ≤ nu ∧ nu ≤ 9007199254740992) && decide (t = [])
 else if k = 3 then decide (nu = 0 ∨ nu = 1) && decide (t = [])
 else if k = 29 then decide (1 ≤ nu ∧ nu ≤ 3) && ((decide (nu = 2) && decide (t = [])) || (!decide (nu = 2) && name t))
 else if k = 2 then decide (nu = 0)
 else if k = 5 ∨ k = 8 ∨ k = 10 ∨ k = 13 ∨ k = 20 ∨ k = 24 then decide (nu = 0) && name t
 else if k = 9 then decide (nu = 0) && (decide (t = []) || name t)
 else if k = 14 then decide (nu = 0) && one t unaryS
 else if k = 15 then decide (nu = 0) && one t binaryS
 else decide (nu = 0) && decide (t = [])
def star (f : Bs) : Bool := Go.Lib.hasSuffix f [42]
def bare (f : Bs) : Bs := Go.Lib.trimSuffix f [42]
def count (f : Bs) (m : Nat) : Bool := decide (m = (bare f).length) || (star f && decide ((bare f).length ≤ m + 1))
mutual
def right : Node → Bool → Bool → Bool
 | .mk k nu t l, fn, lp => (form k nu l.length).2 && (fields k nu t && (!(decide (k = 25) && !fn) && (!(decide (k = 26 ∨ k = 27) && !lp) && (count (form k nu l.length).1 l.length && rights (bare (form k nu l.length).1) k fn lp 0 l))))
def rights (g : Bs) (k : Int) (fn lp : Bool) : Nat → List Node → Bool
 | _, [] => true
 | i, x :: l => sort x (g.getD (min i (g.length - 1)) 0) && (right x (fn || decide (g.getD (min i (g.length - 1)) 0 = 103)) (decide (g.getD (min i (g.length - 1)) 0 = 108) || (lp && (!decide (g.getD (min i (g.length - 1)) 0 = 103) && !decide (k = 9)))) && rights g k fn lp (i + 1) l)
end
def check (n : Node) : Nat := if n.kind ≠ 30 ∨ right n false false = false then 3 else if 40 < Pars.deep n then 2 else 0
def rankOf : Nat → List (List Bs) → Bs → Int
 | _, [], _ => 8
 | i, r :: l, t => if t ∈ r then i else rankOf (i + 1) l t
def rank (n : Node) : Int :=
 if n.kind = 19 then -2 else if n.kind = 18 then -1 else if n.kind = 17 then 0 else if n.kind = 16 then 1 else if n.kind = 15 then rankOf 0 Pars.ranks n.text
 else if n.kind = 14 then 6 else if n.kind = 11 ∨ n.kind = 12 ∨ n.kind = 13 then 7 else 8
def sgn (k : Int) (t : Bs) : Bs := if k = 17 then [124, 124] else if k = 16 then [38, 38] else t
def least (n : Node) : Int := if n.kind = 19 ∨ n.kind = 11 ∨ n.kind = 12 ∨ n.kind = 13 then 7 else if n.kind = 18 then 0 else rank n
def heads (k : Int) : Bool := decide (k = 19 ∨ k = 18 ∨ k = 17 ∨ k = 16 ∨ k = 15 ∨ k = 11 ∨ k = 12 ∨ k = 13)
mutual
def front : Node → Int
 | .mk k nu t l => if heads k then frontL (least (.mk k nu t l)) l else k
def frontL (q : Int) : List Node → Int
 | [] => 0
 | x :: _ => if rank x < q then 0 else front x
end
inductive M where
 | ex | at (q : Int) | fst | fn | block | ifs | tries | stmt | param | pair
def joinC : List Bs → Bs
 | [] => []
 | [a] => a
 | a :: l => a ++ [44, 32] ++ joinC l
def listed (o c : Bs) (l : List Bs) : Bs := o ++ joinC l ++ c
abbrev F := M → Bs
def kid (f : List F) (i : Nat) : F := f.getD i (fun _ => [])
def wFn (t : Bs) (f : List F) : Bs := [102, 110] ++ (if t = [] then [] else 32 :: t) ++ listed [40] [41] ((f.take (f.length - 1)).map (· .param)) ++ [32] ++ kid f (f.length - 1) .block
def wFst (k nu : Int) (t : Bs) (f : List F) : Bs :=
 if k = 1 then Go.Lib.itoa nu else if k = 2 then Lexy.quote t else if k = 3 then (if nu = 0 then Pars.wFalse else Pars.wTrue) else if k = 4 then Pars.wNull else if k = 5 then t
 else if k = 6 then listed [91] [93] (f.map (· (.at (-2)))) else if k = 7 then listed [123] [125] (f.map (· .pair)) else if k = 9 then wFn t f else []
def wEx (k nu : Int) (t : Bs) (f : List F) : Bs :=
 if k = 19 then kid f 0 (.at 7) ++ [32, 61, 32] ++ kid f 1 (.at (-2))
 else if k = 18 then kid f 0 (.at 0) ++ [32, 63, 32] ++ kid f 1 (.at (-2)) ++ [32, 58, 32] ++ kid f 2 (.at (-2))
 else if k = 17 ∨ k = 16 ∨ k = 15 then kid f 0 (.at (rank (.mk k nu t []))) ++ ([32] ++ sgn k t ++ [32]) ++ kid f 1 (.at (rank (.mk k nu t []) + 1))
 else if k = 14 then t ++ kid f 0 (.at 6)
 else if k = 11 then kid f 0 (.at 7) ++ listed [40] [41] ((f.drop 1).map (· (.at (-2))))
 else if k = 12 then kid f 0 (.at 7) ++ [91] ++ kid f 1 (.at (-2)) ++ [93]
 else if k = 13 then kid f 0 (.at 7) ++ (46 :: t)
 else wFst k nu t f
def wBlock (f : List F) : Bs := [123, 32] ++ (f.flatMap fun g => g .stmt ++ [32]) ++ [125]
def wIfs (l : List Node) (f : List F) : Bs :=
 [105, 102, 32, 40] ++ kid f 0 (.at (-2)) ++ [41, 32] ++ kid f 1 .block ++
  (if f.length = 3 then [32, 101, 108, 115, 101, 32] ++ (if (l.getD 2 default).kind = 22 then kid f 2 .ifs else kid f 2 .block) else [])
def wTries (nu : Int) (t : Bs) (f : List F) : Bs :=
 [116, 114, 121, 32] ++ kid f 0 .block ++ (if nu = 2 then [] else [32, 99, 97, 116, 99, 104, 32, 40] ++ t ++ [41, 32] ++ kid f 1 .block) ++
  (if 1 < nu then [32, 102, 105, 110, 97, 108, 108, 121, 32] ++ kid f (if nu = 2 then 1 else 2) .block else [])
def wStmt (k nu : Int) (t : Bs) (l : List Node) (f : List F) : Bs :=
 if k = 20 then [108, 101, 116, 32] ++ t ++ [32, 61, 32] ++ kid f 0 (.at (-2)) ++ [59]
 else if k = 21 then kid f 0 .fn
 else if k = 22 then wIfs l f
 else if k = 23 then [119, 104, 105, 108, 101, 32, 40] ++ kid f 0 (.at (-2)) ++ [41, 32] ++ kid f 1 .block
 else if k = 24 then [102, 111, 114, 32, 40, 108, 101, 116, 32] ++ t ++ [32, 111, 102, 32] ++ kid f 0 (.at (-2)) ++ [41, 32] ++ kid f 1 .block
 else if k = 25 then [114, 101, 116, 117, 114, 110] ++ (if 0 < f.length then 32 :: kid f 0 (.at (-2)) else []) ++ [59]
 else if k = 26 then [98, 114, 101, 97, 107, 59]
 else if k = 27 then [99, 111, 110, 116, 105, 110, 117, 101, 59]
 else if k = 28 then [116, 104, 114, 111, 119, 32] ++ kid f 0 (.at (-2)) ++ [59]
 else if k = 29 then wTries nu t f
 else if k = 30 then wBlock f
 else if k = 31 then (if front (l.getD 0 default) = 7 ∨ front (l.getD 0 default) = 9 then [40] ++ kid f 0 (.at (-2)) ++ [41] else kid f 0 (.at (-2))) ++ [59]
 else []
def step (k nu : Int) (t : Bs) (l : List Node) (f : List F) : F
 | .ex => wEx k nu t f
 | .at q => if q ≤ rank (.mk k nu t []) then wEx k nu t f else [40] ++ wEx k nu t f ++ [41]
 | .fst => wFst k nu t f
 | .fn => wFn t f
 | .block => wBlock f
 | .ifs => wIfs l f
 | .tries => wTries nu t f
 | .stmt => wStmt k nu t l f
 | .param => t
 | .pair => t ++ [58, 32] ++ kid f 0 (.at (-2))
mutual
def wr : Node → F
 | .mk k nu t l => step k nu t l (wrs l)
def wrs : List Node → List F
 | [] => []
 | n :: l => wr n :: wrs l
end
def joinB : List Bs → Bs
 | [] => []
 | [a] => a
 | a :: l => a ++ [32] ++ joinB l
def text (n : Node) : Bs := joinB (n.kids.map fun x => wr x .stmt)
def write (n : Node) : Except Nat Bs := if check n ≠ 0 then .error (check n) else if 2000 < (text n).length then .error 2 else .ok (text n)
theorem wrs_map : ∀ l : List Node, wrs l = l.map wr
 | [] => rfl
 | n :: l => by simp only [wrs, List.map_cons, wrs_map l]
mutual
def wg : Node → Nat
 | .mk _ _ t l => t.length + wgs l + 1
def wgs : List Node → Nat
 | [] => 0
 | n :: l => wg n + wgs l
end
theorem wgs_len : ∀ l : List Node, l.length ≤ wgs l
 | [] => by simp
 | n :: l => by simp only [List.length_cons, wgs]; have := wgs_len l; cases n; simp only [wg]; omega
theorem wg_mem : ∀ {l : List Node} {x : Node}, x ∈ l → wg x ≤ wgs l
 | n :: l, x, h => by
  simp only [wgs]
  rcases List.mem_cons.1 h with rfl | h
  ·omega
  ·have := wg_mem h; omega
theorem suffix_cat (l : Bs) (c : UInt8) : Go.Lib.hasSuffix (l ++ [c]) [42] = decide (c = 42) := by
 unfold Go.Lib.hasSuffix
 rw [Bool.eq_iff_iff, List.isSuffixOf_iff_suffix, decide_eq_true_iff]
 constructor
 ·intro h
  obtain ⟨r, hr⟩ := h
  have := congrArg List.getLast? hr
  simp at this
  exact this.symm
 ·rintro rfl
  exact ⟨l, rfl⟩
def forms : List Bs := [[], [101, 42], [112, 42], [101], [101, 101, 42], [101, 101], [101, 101, 101], [116, 101], [100], [101, 98], [101, 108], [98, 98], [115, 42], [101, 98, 105], [98, 98, 98]]
theorem pick {α : Type} {P : α → Prop} {c : Prop} [Decidable c] {a b : α} (ha : P a) (hb : P b) : P (if c then a else b) := by
 by_cases h : c
 ·rw [if_pos h]; exact ha
 ·rw [if_neg h]; exact hb
def Formy (f : Bs) : Prop := f ∈ forms ∨ ∃ q, f = List.replicate q 113 ++ [103]
theorem plain_cases (k : Int) (m : Nat) : Formy (plain k m).1 := by
 have h : (fun p : Bs × Bool => Formy p.1) (plain k m) := by
  unfold plain
  repeat' apply pick (P := fun p : Bs × Bool => Formy p.1)
  all_goals first
   | exact .inr ⟨_, rfl⟩
   | exact .inl (by decide)
 exact h
theorem form_cases (k nu : Int) (m : Nat) : Formy (form k nu m).1 := by
 unfold form
 simp only
 repeat' apply pick (P := Formy)
 all_goals first
  | exact plain_cases k m
  | exact .inl (by decide)
theorem forms_star : ∀ f ∈ forms, star f = true → bare f ≠ [] := by decide
theorem star_bare (k nu : Int) (m : Nat) (h : star (form k nu m).1 = true) : bare (form k nu m).1 ≠ [] := by
 rcases form_cases k nu m with hf | ⟨q, hf⟩
 ·exact forms_star _ hf h
 ·rw [hf] at h
  unfold star at h
  rw [suffix_cat] at h
  exact absurd h (by decide)
end Wri
namespace Go.Proofs.YtonjdlialejedaaGreatDoor
open Go.Lib (hid)
open Go.RowKit
def Box (w : World) (b : Nat) (t : TypeId) (cs : Array Value) : Prop := w.heap[b]? = some (.cells cs t (0, 0))
section
variable {w w1 w2 : World} {b : Nat} {t : TypeId} {cs : Array Value}
theorem Box.lt (h : Box w b t cs) : b < w.heap.size := by
 rcases Nat.lt_or_ge b w.heap.size with hlt | hge
 ·exact hlt
 ·unfold Box at h; rw [Array.getElem?_eq_none hge] at h; cases h
theorem Box.cell (h : Box w b t cs) (i : Nat) : w.cell? ⟨b, i, none⟩ = cs[i]? := by
 unfold Box at h; simp [World.cell?, h]
theorem Box.frozen (h : Box w b t cs) (i : Nat) : w.frozen? ⟨b, i, none⟩ = false := by
 unfold Box at h; simp [World.frozen?, h]
theorem Box.new (w : World) (t : TypeId) (cs : Array Value) : Box (w.alloc (.cells cs t)) w.heap.size t cs := by
 show (w.heap.push _)[w.heap.size]? = _
 simp
theorem Box.drew (h : Box w b t cs) : Box w.drew b t cs := h
theorem Box.drewN (h : Box w b t cs) (n : Nat) : Box (w.drewN n) b t cs := h
theorem Box.alloc (h : Box w b t cs) (o : Obj) : Box (w.alloc o) b t cs := (Below.heap_alloc w o b h.lt).trans h
theorem Box.set (h : Box w b t cs) (i : Nat) (u : Value) : Box (w.setCell ⟨b, i, none⟩ u) b t (cs.setIfInBounds i u) := by
 unfold Box at h ⊢
 simp [World.setCell, Array.getElem?_modify, h]
theorem Box.far (h : Box w b t cs) {p : Addr} (hp : b ≠ p.block) (u : Value) : Box (w.setCell p u) b t cs := (Below.heap_setCell w p u b hp).trans h
theorem Box.below {B : Nat} (h : Box w b t cs) (hb : Below B w w1) (hg : b < B) : Box w1 b t cs := (hb.block b hg).trans h
theorem Box.grown {row : Option Nat} (h : Box w b t cs) (hb : w.grownBy w1 row) (hg : some b ≠ row) : Box w1 b t cs := (hb.block b h.lt hg).trans h
end
abbrev Upd (w w' : World) (b : Nat) : Prop := w.grownBy w' (some b)
section
variable {a w w1 w2 : World} {b : Nat}
theorem Upd.refl (w : World) (b : Nat) : Upd w w b := ⟨rfl, rfl, rfl, Nat.le_refl _, fun _ _ _ => rfl⟩
theorem Upd.trans (h : Upd a w b) (k : Upd w w1 b) : Upd a w1 b :=
 ⟨k.os.trans h.os, k.tape.trans h.tape, k.output.trans h.output, Nat.le_trans h.size k.size, fun i hi hn => (k.block i (Nat.lt_of_lt_of_le hi h.size) hn).trans (h.block i hi hn)⟩
theorem Upd.drew (h : Upd a w b) : Upd a w.drew b := ⟨h.os, h.tape, h.output, h.size, h.block⟩
theorem Upd.drewN (h : Upd a w b) (n : Nat) : Upd a (w.drewN n) b := ⟨h.os, h.tape, h.output, h.size, h.block⟩
theorem Upd.alloc (h : Upd a w b) (o : Obj) : Upd a (w.alloc o) b :=
 ⟨h.os, h.tape, h.output, Nat.le_trans h.size (by simp), fun i hi hn => (Below.heap_alloc w o i (Nat.lt_of_lt_of_le hi h.size)).trans (h.block i hi hn)⟩
theorem Upd.set (h : Upd a w b) {p : Addr} (hp : p.block = b ∨ a.heap.size ≤ p.block) (u : Value) : Upd a (w.setCell p u) b :=
 ⟨h.os, h.tape, h.output, by simpa [World.setCell] using h.size, fun i hi hn => (Below.heap_setCell w p u i (by
  rintro rfl
  rcases hp with hp | hp
  ·exact hn (by rw [hp])
  ·omega)).trans (h.block i hi hn)⟩
theorem Upd.below (h : Below a.heap.size a w) (b : Nat) : Upd a w b := ⟨h.os, h.tape, h.output, h.size, fun i hi _ => h.block i hi⟩
theorem Upd.step (h : Upd a w b) (k : Below w.heap.size w w1) : Upd a w1 b := h.trans (.below k b)
theorem Upd.own (h : Upd w w1 b) {B : Nat} (hB : B ≤ b) (hw : B ≤ w.heap.size) : Below B w w1 :=
 ⟨h.os, h.tape, h.output, h.size, fun i hi => h.block i (by omega) (by simp; omega)⟩
theorem below_grown {B : Nat} {row : Option Nat} (hg : w.grownBy w1 row) (hB : B ≤ w.heap.size) (hr : ∀ k, row = some k → B ≤ k) : Below B w w1 :=
 ⟨hg.os, hg.tape, hg.output, hg.size, fun k hk => hg.block k (by omega) (fun e => by have := hr k e.symm; omega)⟩
theorem below_drewN {B : Nat} (h : Below B a w) (n : Nat) : Below B a (w.drewN n) := ⟨h.os, h.tape, h.output, h.size, h.block⟩
end
theorem Upd.far {a w w1 : World} {b g : Nat} (h : Upd a w b) (k : Upd w w1 g) (hg : a.heap.size ≤ g) : Upd a w1 b :=
 ⟨k.os.trans h.os, k.tape.trans h.tape, k.output.trans h.output, Nat.le_trans h.size k.size, fun i hi hn => (k.block i (Nat.lt_of_lt_of_le hi h.size) (by simp; omega)).trans (h.block i hi hn)⟩
section
variable {P : Program}
theorem wpList_store_box {ops : Array Oper} {rest : List Oper} {o : Oper} {a : Act} {w : World} {Q : Exit → Act → World → Prop} (hgd : o.guard = none) (ty : TypeId) (x y : Operand) (ho : o.op = .store ty x y)
  (g : Nat) (cells : Array Value) (hx : a.eval x = .pointer (some ⟨g, 0, none⟩)) (hy : a.eval y = .agg cells) (t : TypeId) (old : Array Value) (hg : Box w g t old) (hi : (P.info? ty).map (·.size) = some cells.size)
  (hold : old.size = cells.size) (h1 : cells.all (·.oneCell') = true)
  (h : ∀ w', Box w' g t cells → Upd w w' g → w'.heap.size = w.heap.size → wpList P ops Q rest (a.put o.dst undef) w') : wpList P ops Q (o :: rest) a w :=
 wpList_store_row hgd ty x y ho g cells hx hy t old hg hi hold h1
  (h _ (setRow_heap w g old cells t (0, 0) hg) ⟨rfl, rfl, rfl, by simp, fun k _ hn => setRow_other w g k cells (by simpa using hn)⟩ (by simp))
theorem results_box {fn : Func} {p : Tmp} {ty : TypeId} (h : fn.results = #[.cell p ty]) (tmps : Array Value) (w : World) (g : Nat) (t : TypeId) (cs : Array Value) (d : TypeDesc)
  (hp : tmps.getD p undef = .pointer (some ⟨g, 0, none⟩)) (hg : Box w g t cs) (hu : P.underlying ty = some d) (hd : (match d with | .struct _ | .array _ _ => true | _ => false) = true) (hi : (P.info? ty).map (·.size) = some cs.size) :
  (results fn tmps).run P w = .ok (.agg cs) w := results_cell_row h tmps w g t cs (0, 0) d hp hg hu hd hi
theorem results_box_tmp {fn : Func} {p u : Tmp} {ty : TypeId} (h : fn.results = #[.cell p ty, .tmp u]) (tmps : Array Value) (w : World) (g : Nat) (t : TypeId) (cs : Array Value) (d : TypeDesc)
  (hp : tmps.getD p undef = .pointer (some ⟨g, 0, none⟩)) (hg : Box w g t cs) (hu : P.underlying ty = some d) (hd : (match d with | .struct _ | .array _ _ => true | _ => false) = true) (hi : (P.info? ty).map (·.size) = some cs.size) :
  (results fn tmps).run P w = .ok (.tuple #[.agg cs, tmps.getD u undef]) w := by
 rw [results_cell_tmp h, hp]
 have := run_loadVar_row (P := P) w g t ty cs (0, 0) d hg hu hd hi
 simp [asAddr, this]
end
theorem quiet_more_same {P : Program} {f : FuncId} {args : Array Value} {w : World} {a n : Nat} {v : Value}
  (h : Calls P f args (w.drewN (a + n)) fun e w' => e = .returned v ∧ w' = w.drewN (a + n)) :
  Calls P f args (w.drewN (a + n)) fun e w'' => e = .returned v ∧ ∃ m, w'' = w.drewN (a + m) :=
 h.mono fun _ _ ⟨he, hm⟩ => ⟨he, n, hm⟩
end Go.Proofs.YtonjdlialejedaaGreatDoor
namespace Go.Proofs.YtonjdlialejedaaGreatDoor
open Go.Lib (hid)
open Go.RowKit
theorem bg {w w1 : World} {b : Nat} {t : TypeId} {cs : Array Value} {row : Option Nat} (h : Hid (Box w b t cs)) (hb : w.grownBy w1 row) (hg : some b ≠ row := by intro h; injection h with h; omega) : Hid (Box w1 b t cs) := Lib.hid (Box.grown h.out hb hg)
theorem bl {w w1 : World} {b : Nat} {t : TypeId} {cs : Array Value} (h : Hid (Box w b t cs)) (hb : Below w.heap.size w w1) : Hid (Box w1 b t cs) := Lib.hid (h.out.below hb h.out.lt)
end Go.Proofs.YtonjdlialejedaaGreatDoor
namespace Go.Proofs.YtonjdlialejedaaGreatDoor
open Go.Lib (hid)
open Go.RowKit
section
variable {P : Program} {ops : Array Oper} {rest : List Oper} {o : Oper} {a : Act} {w : World} {Q : Exit → Act → World → Prop}
theorem wpList_max2 (hgd : o.guard = none) (x y : Operand) (ts : Array TypeId) (hop : o.op = .call { callee := .builtin .max, args := #[x, y], argTypes := ts })
  (A B M : Int) (hx : a.eval x = .int .i64 A) (hy : a.eval y = .int .i64 B) (hM : max A B = M)
  (h : wpList P ops Q rest (a.put o.dst (.int .i64 M)) w) : wpList P ops Q (o :: rest) a w := by
 refine wpList_plain hgd fun K hK => ?_
 have hrun := run_max_int2 (P := P) (w := w) ts o.type .i64 .i64 A B
 have e : (if B > A then B else A) = M := by rw [← hM]; simp only [Int.max_def]; split <;> split <;> omega
 rw [e] at hrun
 unfold Oper.wp execOp
 simp only [hop, resolve, invoke, builtin, Sem.run_bind, Sem.run_pure, Result.andThen_ok, List.map_toArray, List.map_cons, List.map_nil, hx, hy, hrun]
 exact hK _ _ h
theorem wpList_min2 (hgd : o.guard = none) (x y : Operand) (ts : Array TypeId) (hop : o.op = .call { callee := .builtin .min, args := #[x, y], argTypes := ts })
  (A B M : Int) (hx : a.eval x = .int .i64 A) (hy : a.eval y = .int .i64 B) (hM : min A B = M)
  (h : wpList P ops Q rest (a.put o.dst (.int .i64 M)) w) : wpList P ops Q (o :: rest) a w := by
 refine wpList_plain hgd fun K hK => ?_
 have hrun := run_min_int2 (P := P) (w := w) ts o.type .i64 .i64 A B
 have e : (if B < A then B else A) = M := by rw [← hM]; simp only [Int.min_def]; split <;> split <;> omega
 rw [e] at hrun
 unfold Oper.wp execOp
 simp only [hop, resolve, invoke, builtin, Sem.run_bind, Sem.run_pure, Result.andThen_ok, List.map_toArray, List.map_cons, List.map_nil, hx, hy, hrun]
 exact hK _ _ h
end
end Go.Proofs.YtonjdlialejedaaGreatDoor
namespace Go.Proofs.YtonjdlialejedaaGreatDoor
open Go.Lib (hid)
open Go.RowKit
theorem own_box {w : World} {base : Nat} {e : TypeId} {k n : Nat} {v : Value} {xs : List Value} (h : w.ownsRow base e k v n xs) (hn : 0 < n) :
  ∃ g cap R, v = .slice (some ⟨g, 0, none⟩) n cap ∧ base ≤ g ∧ Box w g e (xs ++ R).toArray ∧ n ≤ cap ∧ cap ≤ 9223372036854775807 ∧ (xs ++ R).length = cap * k := by
 rcases h.2 with ⟨_, h0⟩ | ⟨g, cap, cur, hv, hb, hg, h1, h2, h3, h4⟩
 ·omega
 ·unfold maxLen at h2
  have e1 : xs ++ cur.toList.drop (n * k) = cur.toList := by rw [← h4, List.take_append_drop]
  refine ⟨g, cap, cur.toList.drop (n * k), hv, hb, ?_, h1, by omega, ?_⟩
  ·rw [e1]; exact hg
  ·rw [e1]; simpa using h3
theorem box_own {w : World} {base : Nat} {e : TypeId} {k n cap g : Nat} {xs cur : List Value} (hb : base ≤ g) (hg : Box w g e cur.toArray) (hn : n ≤ cap) (hc : cap ≤ 9223372036854775807) (hs : cur.length = cap * k) (ht : cur.take (n * k) = xs) (hl : xs.length = n * k) :
  w.ownsRow base e k (.slice (some ⟨g, 0, none⟩) n cap) n xs :=
 ⟨hl, .inr ⟨g, cap, cur.toArray, rfl, hb, hg, hn, by unfold maxLen; omega, by simpa using hs, by simpa using ht⟩⟩
theorem own_grown {w w1 : World} {base : Nat} {e : TypeId} {k n : Nat} {v : Value} {xs : List Value} {row : Option Nat} (h : w.ownsRow base e k v n xs) (hg : w.grownBy w1 row) (hne : v.ownBlock = none ∨ v.ownBlock ≠ row) : w1.ownsRow base e k v n xs := h.kept hg hne
theorem own_below {w w1 : World} {base : Nat} {e : TypeId} {k n : Nat} {v : Value} {xs : List Value} (h : w.ownsRow base e k v n xs) (hb : Below w.heap.size w w1) : w1.ownsRow base e k v n xs :=
 h.kept (row := none) ⟨hb.os, hb.tape, hb.output, hb.size, fun i hi _ => hb.block i hi⟩ (by cases hv : v.ownBlock <;> simp)
theorem own_base {w : World} {base base' : Nat} {e : TypeId} {k n : Nat} {v : Value} {xs : List Value} (h : w.ownsRow base e k v n xs) (hb : base' ≤ base) : w.ownsRow base' e k v n xs := by
 refine ⟨h.1, ?_⟩
 rcases h.2 with hn | ⟨g, cap, cur, e1, h1, h2⟩
 ·exact .inl hn
 ·exact .inr ⟨g, cap, cur, e1, by omega, h2⟩
end Go.Proofs.YtonjdlialejedaaGreatDoor
namespace Go.Proofs.YtonjdlialejedaaGreatDoor
open Go.Lib (hid)
open Go.RowKit
section
variable {P : Program} {ops : Array Oper} {o : Oper} {a : Act} {w : World} {K : Act → World → Prop} {Q : Exit → Act → World → Prop} {E : Prop}
theorem yields_load_box {S : World → Prop} (hw : Region.wanted o (yielded ops a.tmps) = true) (ty : TypeId) (x : Operand) (ho : o.op = .load ty x) (g : Nat) (t : TypeId) (cs : Array Value) (d : TypeDesc) (hx : a.eval x = .pointer (some ⟨g, 0, none⟩))
  (hS : ∀ w, S w → Box w g t cs) (hu : P.underlying ty = some d) (hd : (match d with | .struct _ | .array _ _ => true | _ => false) = true) (hi : (P.info? ty).map (·.size) = some cs.size) : YieldsIf P ops S o (.agg cs) a :=
 .inl ⟨hw, fun w h => by
  have := run_loadVar_row (P := P) w g t ty cs (0, 0) d (hS w h) hu hd hi
  unfold execOp
  simp only [ho, hx, Instr.loadAt, Instr.sureAddr, Sem.run_bind, Sem.run_pure, Result.andThen_ok, this]⟩
theorem step_store_box (hgd : o.guard = none) (ty : TypeId) (x y : Operand) (ho : o.op = .store ty x y) (g : Nat) (cells : Array Value) (hx : a.eval x = .pointer (some ⟨g, 0, none⟩)) (hy : a.eval y = .agg cells) (t : TypeId) (old : Array Value) (hg : Box w g t old)
  (hi : (P.info? ty).map (·.size) = some cells.size) (hold : old.size = cells.size) (h1 : cells.all (·.oneCell') = true)
  (h : ∀ w', Box w' g t cells → Upd w w' g → w'.heap.size = w.heap.size → K (a.put o.dst undef) w') :
  if Region.wanted o (yielded ops a.tmps) = true then Oper.wp P o a w K Q else E := by
 have hw : Region.wanted o (yielded ops a.tmps) = true := by simp [Region.wanted, hgd]
 rw [if_pos hw]
 exact wp_store_row ty x y ho g cells hx hy t old hg hi hold h1 (h _ (setRow_heap w g old cells t (0, 0) hg) ⟨rfl, rfl, rfl, by simp, fun k _ hn => setRow_other w g k cells (by simpa using hn)⟩ (by simp))
end
section
variable {P : Program} {fn : Func} {tmps : Array Value} {w : World} {p1 p2 u1 u2 : Tmp} {g1 g2 : Nat} {t1 t2 ty1 ty2 : TypeId} {c1 c2 : Array Value} {d1 d2 : TypeDesc}
structure Back (P : Program) (w : World) (tmps : Array Value) (p : Tmp) (ty : TypeId) (cs : Array Value) : Prop where
 out : ∃ a, tmps.getD p undef = .pointer (some a) ∧ (loadVar ty a).run P w = .ok (.agg cs) w
theorem Back.mk' (g : Nat) (t : TypeId) (d : TypeDesc) {p : Tmp} {ty : TypeId} {cs : Array Value} (hp : tmps.getD p undef = .pointer (some ⟨g, 0, none⟩)) (hg : Box w g t cs) (hu : P.underlying ty = some d)
  (hd : (match d with | .struct _ | .array _ _ => true | _ => false) = true) (hi : (P.info? ty).map (·.size) = some cs.size) : Back P w tmps p ty cs := ⟨⟨_, hp, run_loadVar_row (P := P) w g t ty cs (0, 0) d hg hu hd hi⟩⟩
end
end Go.Proofs.YtonjdlialejedaaGreatDoor
