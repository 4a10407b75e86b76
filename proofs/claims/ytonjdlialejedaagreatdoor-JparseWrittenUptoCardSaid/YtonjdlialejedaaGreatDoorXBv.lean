/-
  Texts that the law leans on: Lex, LexQ, Gen, ParJ, PlC, LexW, PlA, PlD, PlE. Conditions: as each says.
-/
import Derived.Test.YtonjdlialejedaaGreatDoorXAb
import Derived.Test.YtonjdlialejedaaGreatDoorXAc
import Derived.WalkKit
import Derived.WalkSpells
import Derived.Deep.QuietTactic
import Derived.BigQuiet
import Derived.Below
import Derived.Lib.Hide
import Derived.Handy
import Derived.Deep.MidRow
import Derived.Deep.RegionHeld3
import Derived.Deep.AppendLies
import Derived.Deep.LoopGhost
import Derived.Deep.Cut
import Derived.Deep.RegionLaw
import Derived.WalkLawsBesides
import Derived.Shelf.Abstract
import Derived.Test.YtonjdlialejedaaGreatDoorXAd
import Derived.Test.YtonjdlialejedaaGreatDoorXAv
import Derived.Test.YtonjdlialejedaaGreatDoorXBk
import Derived.Test.YtonjdlialejedaaGreatDoorXBl
import Derived.Test.YtonjdlialejedaaGreatDoorXBn
import Derived.Test.YtonjdlialejedaaGreatDoorXAa
set_option linter.unusedSimpArgs false
set_option linter.unusedVariables false
namespace Lexy
theorem of_lex {p : Nat} {l : Bs} {ts : List Tok} (h : Lex p l ts) : ∀ rem, toksR rem p l = if ts.length ≤ rem then .ok ts else .err 2 := by
 induction h with
 | done p l hd => intro rem; rw [toksR_eq, hd]; simp
 | more p l t n ts hne hn _ ih =>
  intro rem
  rw [toksR_eq]
  cases hd : l.drop (skp false l) with
  | nil => exact absurd hd hne
  | cons c r =>
   rw [hd] at hn ih
   simp only
   rw [hn]
   simp only
   cases rem with
   | zero => simp
   | succ rem =>
    simp only [List.length_cons, Nat.add_le_add_iff_right]
    rw [ih rem]
    by_cases hle : ts.length ≤ rem
    ·rw [if_pos hle, if_pos hle]
    ·rw [if_neg hle, if_neg hle]
end Lexy
namespace Lexy
theorem hex_back : ∀ c : UInt8, hexv (hexd (c / 16)) = some (c / 16) ∧ hexv (hexd (c % 16)) = some (c % 16) ∧ c / 16 * 16 + c % 16 = c :=
 all_bytes (by decide +kernel)
theorem fin_qb (acc : Bs) (k : Nat) (c : UInt8) (r : Bs) : fin acc k (qb c ++ r) = fin (acc ++ [c]) (k + (qb c).length) r := by
 unfold qb
 by_cases h1 : (c == 34 || c == 92) = true
 ·rw [if_pos h1]
  have he : esc (c :: r) = some (c, 1) := by simp only [esc]; rw [if_pos h1]
  have := fin_esc acc k (c :: r) he
  simpa [Nat.add_assoc] using this
 rw [if_neg h1]
 by_cases h2 : (c == 10) = true
 ·rw [if_pos h2]
  have hc := eq_of_beq h2
  subst hc
  have he : esc (110 :: r) = some (10, 1) := by simp [esc]
  have := fin_esc acc k (110 :: r) he
  simpa [Nat.add_assoc] using this
 rw [if_neg h2]
 by_cases h3 : (c == 9) = true
 ·rw [if_pos h3]
  have hc := eq_of_beq h3
  subst hc
  have he : esc (116 :: r) = some (9, 1) := by simp [esc]
  have := fin_esc acc k (116 :: r) he
  simpa [Nat.add_assoc] using this
 rw [if_neg h3]
 by_cases h4 : (decide (c.toNat < 32) || decide (126 < c.toNat)) = true
 ·rw [if_pos h4]
  obtain ⟨e1, e2, e3⟩ := hex_back c
  have he : esc (120 :: hexd (c / 16) :: hexd (c % 16) :: r) = some (c, 3) := by
   simp only [esc]
   rw [if_neg (by decide), if_neg (by decide), if_neg (by decide), if_pos (by decide), e1, e2]
   simp only [e3]
  have := fin_esc acc k (120 :: hexd (c / 16) :: hexd (c % 16) :: r) he
  simpa [Nat.add_assoc] using this
 ·rw [if_neg h4]
  simp only [Bool.or_eq_true, decide_eq_true_eq, not_or] at h4
  simp only [Bool.or_eq_true, beq_iff_eq, not_or] at h1
  have := fin_byte acc k r h1.1 h4.1 h1.2
  simpa using this
theorem fin_all (l : Bs) : ∀ (acc : Bs) (k : Nat), fin acc k (l.flatMap qb ++ [34]) = some (acc ++ l, k + (l.flatMap qb).length + 1) := by
 induction l with
 | nil => intro acc k; have := fin_quote acc k []; simpa using this
 | cons c r ih =>
  intro acc k
  rw [List.flatMap_cons, List.append_assoc, fin_qb, ih]
  simp; omega
theorem txt_quote (l : Bs) : txt (l.flatMap qb ++ [34]) = some (l, (l.flatMap qb).length + 1) := by
 have h := fin_all l [] 0
 unfold fin at h
 cases ht : txt (l.flatMap qb ++ [34]) with
 | none => rw [ht] at h; simp at h
 | some x =>
  rw [ht] at h
  obtain ⟨x1, x2⟩ := x
  simp only [Option.map_some, List.nil_append, Nat.zero_add, Option.some.injEq, Prod.mk.injEq] at h
  rw [h.1, h.2]
theorem toks_quote (l : Bs) : toks (quote l) = if 2000 < (quote l).length then .err 2 else .ok [⟨⟨3, l, 0⟩, 0, (quote l).length⟩] := by
 unfold toks
 split
 ·rfl
 ·have hlen : (quote l).length = 1 + ((l.flatMap qb).length + 1) := by simp [quote]; omega
  have hn : next (quote l) = .ok (⟨3, l, 0⟩, (quote l).length) := by
   rw [hlen]
   simp only [quote, next]
   rw [if_neg (by decide), if_neg (by decide), if_pos (by decide), txt_quote]
  have hs : skp false (quote l) = 0 := by simp [quote, skp, isBlank]
  rw [toksR_eq, hs]
  have hd : (quote l).drop 0 = 34 :: (l.flatMap qb ++ [34]) := rfl
  rw [hd]
  have hn' : next (34 :: (l.flatMap qb ++ [34])) = .ok (⟨3, l, 0⟩, (quote l).length) := hn
  simp only [hn']
  have he : (34 :: (l.flatMap qb ++ [34])).drop (quote l).length = [] := List.drop_eq_nil_of_le (by rw [hlen]; simp; omega)
  rw [he, toksR_eq]
  simp
end Lexy
namespace Go.Proofs.YtonjdlialejedaaGreatDoor
open Go.Lib (hid)
open Go.RowKit
theorem byt_of (s : ByteArray) : ∃ l : List UInt8, s = byt l := ⟨s.data.toList, by cases s; simp [byt]⟩
end Go.Proofs.YtonjdlialejedaaGreatDoor
namespace Pars
open Lexy (Tk)
mutual
theorem same_refl : ∀ n : Node, same n n = true
 | .mk k n t l => by simp [same, sames_refl l]
theorem sames_refl : ∀ l : List Node, sames l l = true
 | [] => rfl
 | n :: l => by simp [sames, same_refl n, sames_refl l]
end
end Pars
namespace Wri
open Pars (Node Bs)
theorem not3 {b : Bs} (h : name b = true) : b ≠ [] := by rintro rfl; exact absurd h (by decide)
end Wri
namespace Lexy
theorem lex_gap {p k : Nat} {l r : Bs} {ts : List Tok} (hs : skp false r = k + skp false l) (hd : r.drop (k + skp false l) = l.drop (skp false l)) (h : Lex (p + k) l ts) : Lex p r ts := by
 generalize hq : p + k = q at h
 cases h with
 | done _ _ he => exact .done _ _ (by rw [hs, hd]; exact he)
 | more _ _ t n ts hne hn hr =>
  subst hq
  have e1 : p + k + skp false l = p + skp false r := by omega
  rw [e1] at hr ⊢
  have hd' : r.drop (skp false r) = l.drop (skp false l) := by rw [hs]; exact hd
  rw [← hd'] at hne hn hr
  exact .more _ _ t n _ hne hn hr
end Lexy
namespace Lexy
theorem lexT_nil : LexT [] [] := ⟨[], .done _ _ rfl, rfl⟩
theorem lexT_blank {z : Bs} {zs : List Tk} (h : LexT z zs) : LexT (32 :: z) zs := by
 obtain ⟨full, h1, h2⟩ := h.at_ 1
 refine ⟨full, lex_gap (p := 0) (k := 1) (l := z) ?_ ?_ h1, h2⟩
 ·simp [skp, isBlank]
 ·rw [Nat.add_comm, List.drop_succ_cons]
theorem w_nil (P : UInt8 → Bool) : W P [] [] := fun _ _ _ h => h
theorem w_blank : W all [32] [] := fun z zs _ h => lexT_blank h
theorem w_sign (s : Bs) (hs : s ∈ signs) : W all (s ++ [32]) [sg s] := by
 intro z zs _ h
 rw [List.append_assoc]
 refine lexT_tok (a := s) ?_ ?_ ?_ (lexT_blank h)
 ·simp only [signs, List.mem_cons, List.not_mem_nil, or_false] at hs
  rcases hs with rfl | rfl | rfl | rfl | rfl | rfl | rfl | rfl | rfl | rfl | rfl | rfl | rfl | rfl | rfl | rfl | rfl | rfl | rfl | rfl | rfl | rfl | rfl | rfl | rfl | rfl <;> simp [skp, isBlank]
 ·rintro rfl; exact absurd hs (by decide)
 ·have hz : ∀ q : Bs, [32] ++ q = 32 :: q := fun q => rfl
  rw [hz]
  simp only [signs, List.mem_cons, List.not_mem_nil, or_false] at hs
  rcases hs with rfl | rfl | rfl | rfl | rfl | rfl | rfl | rfl | rfl | rfl | rfl | rfl | rfl | rfl | rfl | rfl | rfl | rfl | rfl | rfl | rfl | rfl | rfl | rfl | rfl | rfl <;> simp [next, sign, signs, isLetter, isDigit, sg]
theorem w_not : W (fun c => c != 61) [33] [sg [33]] := by
 intro z zs hz h
 refine lexT_tok (a := [33]) (by simp [skp, isBlank]) (by simp) ?_ h
 have e : ∀ d r, z = d :: r → [33, d] ∉ signs := by
  intro d r hr
  have hd := hz d (by rw [hr]; rfl)
  simp at hd
  simp [signs, hd]
 have h3 : sign (33 :: z) = .ok (sg [33], 1) := by
  unfold sign
  have hn : ¬ (2 ≤ (33 :: z).length ∧ (33 :: z).take 2 ∈ signs) := by
   rintro ⟨a, b⟩
   cases z with
   | nil => simp at a
   | cons d r => exact e d r rfl (by simpa using b)
  rw [if_neg hn, if_pos ⟨by simp, by simp [signs]⟩]
  rfl
 have h2 : isLetter 33 = false ∧ isDigit 33 = false ∧ ((33 : UInt8) == 34) = false := by decide
 simp only [List.cons_append, List.nil_append, next, h2.1, h2.2.1, h2.2.2, if_false, Bool.false_eq_true, h3, List.length_cons, List.length_nil]
theorem w_kw (w : Bs) (hw : w ∈ kws) : W noN w [kw w] := by
 have h : ∃ c r, w = c :: r ∧ isLetter c = true ∧ ∀ d ∈ w, isNameB d = true := by
  simp only [kws, List.mem_cons, List.not_mem_nil, or_false] at hw
  rcases hw with rfl | rfl | rfl | rfl | rfl | rfl | rfl | rfl | rfl | rfl | rfl | rfl | rfl | rfl | rfl | rfl | rfl <;> exact ⟨_, _, rfl, by decide, by decide⟩
 obtain ⟨c, r, h1, h2, h3⟩ := h
 have := w_word w c r h1 h2 h3
 rwa [if_pos hw] at this
theorem w_kwb (w : Bs) (hw : w ∈ kws) : W all (w ++ [32]) [kw w] := (w_kw w hw).ahead (c := []) (by decide) w_blank
theorem isName_of {s : Bs} (h : Wri.name s = true) : IsName s := by
 unfold Wri.name at h
 split at h
 case h_2 => cases h
 rename_i t heq
 simp only [Bool.and_eq_true, decide_eq_true_eq] at h
 obtain ⟨hk, ht⟩ := h
 unfold toks at heq
 split at heq
 ·cases heq
 have hl := (lex_of _ _ _ _ heq).1
 cases hl with
 | more _ _ tk n ts hne hn _ =>
  simp only at hk ht
  have hsk := skp_le false s
  cases hd : s.drop (skp false s) with
  | nil => exact absurd hd hne
  | cons c r =>
   rw [hd] at hn
   simp only [next] at hn
   by_cases h1 : isLetter c = true
   ·rw [if_pos h1] at hn
    simp only [Res.ok.injEq, Prod.mk.injEq] at hn
    obtain ⟨rfl, hn⟩ := hn
    simp only at ht hk
    have hle : ((c :: r).take (nameLen (c :: r))).length ≤ (c :: r).length := by rw [List.length_take]; omega
    rw [ht, ← hd, List.length_drop] at hle
    have hz : skp false s = 0 := by
     cases s with
     | nil => simp [skp]
     | cons a b => simp only [List.length_cons] at hle hsk ⊢; omega
    rw [hz, List.drop_zero] at hd
    subst hd
    have hall := all_tw isNameB (c :: r)
    unfold nameLen at ht
    rw [take_tw] at ht
    rw [ht] at hall
    refine ⟨⟨c, r, rfl, h1⟩, hall, ?_⟩
    intro hin
    unfold nameLen at hk
    rw [take_tw, ht, if_pos hin] at hk
    cases hk
   ·exfalso
    rw [if_neg h1] at hn
    split at hn
    ·split at hn
     ·cases hn
     ·split at hn
      ·cases hn
      ·simp only [Res.ok.injEq, Prod.mk.injEq] at hn; obtain ⟨rfl, _⟩ := hn; cases hk
    ·split at hn
     ·split at hn
      ·cases hn
      ·simp only [Res.ok.injEq, Prod.mk.injEq] at hn; obtain ⟨rfl, _⟩ := hn; cases hk
     ·unfold sign at hn
      split at hn
      ·simp only [Res.ok.injEq, Prod.mk.injEq] at hn; obtain ⟨rfl, _⟩ := hn; cases hk
      ·split at hn
       ·simp only [Res.ok.injEq, Prod.mk.injEq] at hn; obtain ⟨rfl, _⟩ := hn; cases hk
       ·cases hn
theorem w_quote (l : Bs) : W Lexy.all (quote l) [⟨3, l, 0⟩] := by
 intro z zs _ h
 refine lexT_tok (a := quote l) (by simp [quote, skp, isBlank]) (by simp [quote]) ?_ h
 have h1 := toks_quote l
 have h2 := txt_quote l
 unfold txt at h2
 have h3 := (txtF_app _ z.length _ z _ _ h2).1
 have h4 : txt ((l.flatMap qb ++ [34]) ++ z) = some (l, (l.flatMap qb).length + 1) := by
  unfold txt; rw [List.length_append]; exact h3
 have e : quote l ++ z = 34 :: ((l.flatMap qb ++ [34]) ++ z) := by simp [quote]
 rw [e]
 simp only [next]
 rw [if_neg (by decide), if_neg (by decide), if_pos (by decide), h4]
 simp [quote]; omega
end Lexy
namespace Lexy
theorem numF_app : ∀ (a b : Bs) (n : Nat), numF n (a ++ b) = (numF n a).bind fun m => numF m b
 | [], b, n => rfl
 | c :: a, b, n => by
  simp only [List.cons_append, numF]
  split
  ·rfl
  ·exact numF_app a b _
theorem dig_nat {d : Nat} (h : d < 10) : (UInt8.ofNat (48 + d)).toNat = 48 + d := by
 rw [UInt8.toNat_ofNat']; omega
theorem numF_dec (u : Nat) : u ≤ 9007199254740992 → numF 0 (Go.Lib.decDigits u) = some u := by
 induction u using Nat.strongRecOn with
 | _ u ih =>
  intro hu
  by_cases h : u < 10
  ·rw [Go.Lib.decDigits, dif_pos h]
   simp only [numF, dig_nat h]
   rw [if_neg (by omega)]
   simp
  ·rw [Go.Lib.decDigits, dif_neg h, numF_app, ih (u / 10) (by omega) (by omega)]
   simp only [Option.bind_some, numF, dig_nat (show u % 10 < 10 by omega)]
   rw [if_neg (by omega)]
   congr 1
   omega
theorem dec_digit (u : Nat) : ∀ d ∈ Go.Lib.decDigits u, isDigit d = true := by
 induction u using Nat.strongRecOn with
 | _ u ih =>
  have key : ∀ k, k < 10 → isDigit (UInt8.ofNat (48 + k)) = true := fun k hk => by
   unfold isDigit; rw [dig_nat hk]; simp; omega
  by_cases h : u < 10
  ·rw [Go.Lib.decDigits, dif_pos h]
   intro d hd
   simp only [List.mem_cons, List.not_mem_nil, or_false] at hd
   subst hd
   exact key u h
  ·rw [Go.Lib.decDigits, dif_neg h]
   intro d hd
   rcases List.mem_append.1 hd with hd | hd
   ·exact ih (u / 10) (by omega) d hd
   ·simp only [List.mem_cons, List.not_mem_nil, or_false] at hd
    subst hd
    exact key _ (by omega)
theorem dec_ne (u : Nat) : Go.Lib.decDigits u ≠ [] := by
 rw [Go.Lib.decDigits]
 split <;> simp
theorem digit_no {c : UInt8} (h : isDigit c = true) : isLetter c = false ∧ isBlank c = false ∧ (c == 47) = false ∧ (c == 34) = false := by
 have h0 : 48 ≤ c.toNat ∧ c.toNat ≤ 57 := by unfold isDigit at h; simpa using h
 have e : ∀ n : UInt8, (c.toNat ≠ n.toNat) → (c == n) = false := fun n hn => by
  cases hb : (c == n) with
  | false => rfl
  | true => exact absurd (congrArg UInt8.toNat (eq_of_beq hb)) hn
 refine ⟨?_, ?_, e _ (by show _ ≠ 47; omega), e _ (by show _ ≠ 34; omega)⟩
 ·unfold isLetter
  rw [e 95 (by show _ ≠ 95; omega)]
  simp; omega
 ·unfold isBlank
  rw [e 32 (by show _ ≠ 32; omega), e 9 (by show _ ≠ 9; omega), e 10 (by show _ ≠ 10; omega), e 13 (by show _ ≠ 13; omega)]
  rfl
theorem w_num (u : Nat) (hu : u ≤ 9007199254740992) : W noN (Go.Lib.decDigits u) [⟨2, [], u⟩] := by
 intro z zs hz h
 have hne := dec_ne u
 have hd := dec_digit u
 have hn := numF_dec u hu
 generalize Go.Lib.decDigits u = w at hne hd hn
 cases w with
 | nil => exact absurd rfl hne
 | cons c r =>
  have hc := digit_no (hd c (by simp))
  have hlen : digLen ((c :: r) ++ z) = (c :: r).length := by
   unfold digLen
   rw [List.takeWhile_append_of_pos hd]
   cases z with
   | nil => simp
   | cons d q =>
    have := hz d rfl
    simp only [noN, isNameB, Bool.not_eq_true', Bool.or_eq_false_iff] at this
    simp [this.2]
  refine lexT_tok (a := c :: r) ?_ (by simp) ?_ h
  ·simp [skp, hc.2.1, hc.2.2.1]
  ·rw [List.cons_append]
   simp only [next, hc.1, hd c (by simp), if_true, if_false, Bool.false_eq_true]
   rw [← List.cons_append, hlen, List.take_left' rfl, List.drop_left' rfl, hn]
   simp only
   rw [if_neg]
   cases z with
   | nil => simp
   | cons d q =>
    have := hz d rfl
    simp only [noN, isNameB, Bool.not_eq_true', Bool.or_eq_false_iff] at this
    simp [this.1]
end Lexy
namespace Wri
open Pars (Node Bs)
open Lexy (Tk sg kw nm W noN all IsName LexT)
def ttext (n : Node) : List Tk := n.kids.flatMap fun x => tw x .stmt
theorem name_hd {t : Bs} (h : name t = true) : HD t := by
 obtain ⟨c, r, h1, h2⟩ := (Lexy.isName_of h).head
 exact ⟨c, r, h1, by rintro rfl; exact absurd h2 (by decide)⟩
theorem dec_hd (u : Nat) : HD (Go.Lib.decDigits u) := by
 have h1 := Lexy.dec_ne u
 have h2 := Lexy.dec_digit u
 cases h : Go.Lib.decDigits u with
 | nil => exact absurd h h1
 | cons c r => exact ⟨c, r, rfl, by rintro rfl; exact absurd (h2 61 (by rw [h]; simp)) (by decide)⟩
theorem itoa_dec {nu : Int} (h : 0 ≤ nu) : Go.Lib.itoa nu = Go.Lib.decDigits nu.toNat := by unfold Go.Lib.itoa; rw [if_neg (by omega)]
theorem at_hd {n : Node} (h : HD (wr n .ex)) (q : Int) : HD (wr n (.at q)) := by
 rw [wr_at]
 split
 ·exact h
 ·exact ⟨40, _, rfl, by decide⟩
theorem ex_hd {n : Node} {fn lp : Bool} (h : Rt fn lp n) : isE n → HD (wr n .ex) := by
 induction h with
 | num fn lp nu h1 h2 => intro _; show HD (Go.Lib.itoa nu); rw [itoa_dec h1]; exact dec_hd _
 | str fn lp t => intro _; exact ⟨34, _, rfl, by decide⟩
 | bool fn lp nu h => intro _; rcases h with rfl | rfl <;> exact ⟨_, _, rfl, by decide⟩
 | null => intro _; exact ⟨_, _, rfl, by decide⟩
 | var fn lp t h => intro _; exact name_hd h
 | list fn lp l h1 h2 ih => intro _; exact ⟨91, _, rfl, by decide⟩
 | recd fn lp l h1 h2 ih => intro _; exact ⟨123, _, rfl, by decide⟩
 | func fn lp t ps b h1 h2 h3 h4 ih => intro _; exact ⟨102, _, rfl, by decide⟩
 | call fn lp a l h1 h2 h3 h4 ih1 ih2 => intro _; exact (at_hd (ih1 h1) 7).app _
 | index fn lp a b h1 h2 h3 h4 ih1 ih2 => intro _; exact (((at_hd (ih1 h1) 7).app _).app _).app _
 | dot fn lp t a h1 h2 h3 ih => intro _; exact (at_hd (ih h2) 7).app _
 | unary fn lp t a h1 h2 h3 ih => intro _; rcases h1 with rfl | rfl <;> exact ⟨_, _, rfl, by decide⟩
 | binary fn lp t a b h1 h2 h3 h4 h5 ih1 ih2 => intro _; exact ((at_hd (ih1 h2) _).app _).app _
 | and_ fn lp a b h1 h2 h3 h4 ih1 ih2 => intro _; exact ((at_hd (ih1 h1) _).app _).app _
 | or_ fn lp a b h1 h2 h3 h4 ih1 ih2 => intro _; exact ((at_hd (ih1 h1) _).app _).app _
 | cond fn lp a b c h1 h2 h3 h4 h5 h6 ih1 ih2 ih3 => intro _; exact ((((at_hd (ih1 h1) 0).app _).app _).app _).app _
 | assign fn lp a b h1 h2 h3 h4 ih1 ih2 =>
  intro _
  have : isE a := by unfold isT at h1; unfold isE; omega
  exact ((at_hd (ih1 this) 7).app _).app _
 | _ => intro h; unfold isE at h; simp [Node.kind] at h
theorem w_join (Q : UInt8 → Bool) (hq : Q 44 = true) : ∀ (l : List (Bs × List Tk)), (∀ x ∈ l, W Q x.1 x.2) → W Q (joinC (l.map (·.1))) (tjoin (l.map (·.2)))
 | [], _ => Lexy.w_nil Q
 | [a], h => h a (by simp)
 | a :: b :: l, h => by
  have ih := w_join Q hq (b :: l) fun x hx => h x (by simp only [List.mem_cons] at hx ⊢; exact .inr hx)
  have h1 := h a (by simp)
  have h2 : W Q (a.1 ++ ([44, 32] ++ joinC ((b :: l).map (·.1)))) (a.2 ++ ([sg [44]] ++ tjoin ((b :: l).map (·.2)))) :=
   h1.ahead (d := 44) (c := [32] ++ joinC ((b :: l).map (·.1))) hq (((Lexy.w_sign1 44 (by decide)).after Lexy.w_blank).after ih)
  simpa [joinC, tjoin, List.append_assoc] using h2
theorem w_listed (Q : UInt8 → Bool) (hq : Q 44 = true) (o c : UInt8) (ho : o ∈ [40, 41, 91, 93, 123, 125, 44, 59, 58, 46, 63, 43, 45, 42, 37]) (hc : c ∈ [40, 41, 91, 93, 123, 125, 44, 59, 58, 46, 63, 43, 45, 42, 37]) (hqc : Q c = true) (l : List (Bs × List Tk)) (h : ∀ x ∈ l, W Q x.1 x.2) : W all (listed [o] [c] (l.map (·.1))) (tlisted [o] [c] (l.map (·.2))) :=
 (((Lexy.w_sign1 o ho).after (w_join Q hq l h)).ahead hqc (Lexy.w_sign1 c hc))
theorem w_kids (m : M) (l : List Node) (h : ∀ x ∈ l, W noN (wr x m) (tw x m)) (o c : UInt8) (ho : o ∈ [40, 41, 91, 93, 123, 125, 44, 59, 58, 46, 63, 43, 45, 42, 37]) (hc : c ∈ [40, 41, 91, 93, 123, 125, 44, 59, 58, 46, 63, 43, 45, 42, 37]) (hqc : noN c = true) : W all (listed [o] [c] (l.map (wr · m))) (tlisted [o] [c] (l.map (tw · m))) := by
 have := w_listed noN (by decide) o c ho hc hqc (l.map fun x => (wr x m, tw x m)) (by
  intro x hx
  obtain ⟨y, hy, rfl⟩ := List.mem_map.1 hx
  exact h y hy)
 simpa [List.map_map, Function.comp_def] using this
end Wri
namespace Wri
open Pars (Node Bs)
open Lexy (Tk sg kw nm W noN all IsName LexT)
theorem glue (s : Bs) (hs : s ∈ Lexy.signs) : W all (32 :: (s ++ [32])) [sg s] := Lexy.w_blank.after (Lexy.w_sign s hs)
theorem sgn_signs {k : Int} {t : Bs} (h : k = 17 ∨ k = 16 ∨ t ∈ binS) : sgn k t ∈ Lexy.signs := by
 unfold sgn
 by_cases h1 : k = 17
 ·rw [if_pos h1]; decide
 rw [if_neg h1]
 by_cases h2 : k = 16
 ·rw [if_pos h2]; decide
 rw [if_neg h2]
 have : ∀ t ∈ binS, t ∈ Lexy.signs := by decide
 rcases h with h | h | h
 ·exact absurd h h1
 ·exact absurd h h2
 ·exact this t h
theorem w_nm {t : Bs} (h : name t = true) : W noN t [nm t] := (Lexy.isName_of h).w
theorem w_sgs (c : UInt8) (hc : c ∈ [40, 41, 91, 93, 123, 125, 44, 59, 58, 46, 63, 43, 45, 42, 37]) : W all [c] [sg [c]] := Lexy.w_sign1 c hc
theorem w_sgb (c : UInt8) (hc : c ∈ [40, 41, 91, 93, 123, 125, 44, 59, 58, 46, 63, 43, 45, 42, 37]) : W all [c, 32] [sg [c]] := (Lexy.w_sign1 c hc).after Lexy.w_blank
theorem w_flat : ∀ l : List Node, (∀ x ∈ l, W noN (wr x .stmt) (tw x .stmt)) → W all (l.flatMap fun x => wr x .stmt ++ [32]) (l.flatMap fun x => tw x .stmt)
 | [], _ => Lexy.w_nil _
 | n :: l, h => by
  rw [List.flatMap_cons, List.flatMap_cons]
  exact (((h n (by simp)).ahead (d := 32) (c := []) (by decide) Lexy.w_blank).after (w_flat l fun x hx => h x (by simp [hx]))).weak (fun _ h => h) |> fun q => by simpa using q
theorem wr_blk (nu : Int) (t : Bs) (l : List Node) : wr (.mk 30 nu t l) .block = [123, 32] ++ (l.flatMap fun x => wr x .stmt ++ [32]) ++ [125] := by
 show wBlock (wrs l) = _
 unfold wBlock
 rw [wrs_map, List.flatMap_map]
theorem wr_func (t : Bs) (ps : List Bs) (b : Node) : wr (.mk 9 0 t (ps.map (fun p => .mk 10 0 p []) ++ [b])) .fn = [102, 110] ++ (if t = [] then [] else 32 :: t) ++ listed [40] [41] ps ++ [32] ++ wr b .block := by
 show wFn t (wrs _) = _
 unfold wFn
 have e : ((ps.map (fun p => wr (.mk 10 0 p [])) ++ [wr b]).take ((ps.map (fun p => wr (.mk 10 0 p [])) ++ [wr b]).length - 1)).map (fun x => x M.param) = ps := by
  rw [show (ps.map (fun p => wr (.mk 10 0 p [])) ++ [wr b]).length - 1 = (ps.map (fun p => wr (.mk 10 0 p []))).length by simp, List.take_left' rfl, List.map_map]
  have : ((fun x : F => x M.param) ∘ fun p => wr (.mk 10 0 p [])) = (id : Bs → Bs) := rfl
  rw [this, List.map_id]
 have e2 : kid (ps.map (fun p => wr (.mk 10 0 p [])) ++ [wr b]) ((ps.map (fun p => wr (.mk 10 0 p [])) ++ [wr b]).length - 1) = wr b := by
  unfold kid
  rw [show (ps.map (fun p => wr (.mk 10 0 p [])) ++ [wr b]).length - 1 = (ps.map (fun p => wr (.mk 10 0 p []))).length by simp, List.getD_eq_getElem?_getD, List.getElem?_append_right (Nat.le_refl _)]
  simp
 rw [wrs_map, List.map_append, List.map_map, List.map_cons, List.map_nil]
 have e3 : (wr ∘ fun p : Bs => Node.mk 10 0 p []) = fun p => wr (.mk 10 0 p []) := rfl
 rw [e3, e, e2]
theorem w_fn {t : Bs} {ps : List Bs} {b : Node} (h1 : t = [] ∨ name t = true) (h2 : ∀ x ∈ ps, name x = true) (hb : W noN (wr b .block) (tw b .block)) : W noN (wr (.mk 9 0 t (ps.map (fun p => .mk 10 0 p []) ++ [b])) .fn) (tw (.mk 9 0 t (ps.map (fun p => .mk 10 0 p []) ++ [b])) .fn) := by
 rw [wr_func, tw_func]
 have hl := w_listed noN (by decide) 40 41 (by decide) (by decide) (by decide) (ps.map fun p => (p, [nm p])) (by
  intro x hx
  obtain ⟨p, hp, rfl⟩ := List.mem_map.1 hx
  exact w_nm (h2 p hp))
 rw [List.map_map, List.map_map] at hl
 have e1 : ps.map ((fun x : Bs × List Tk => x.1) ∘ fun p => (p, [nm p])) = ps := by
  have : ((fun x : Bs × List Tk => x.1) ∘ fun p => (p, [nm p])) = (id : Bs → Bs) := rfl
  rw [this, List.map_id]
 have e2 : ps.map ((fun x : Bs × List Tk => x.2) ∘ fun p => (p, [nm p])) = ps.map fun p => [nm p] := rfl
 rw [e1, e2] at hl
 have hf : W noN ([102, 110] ++ (if t = [] then [] else 32 :: t)) ([kw Pars.wFn] ++ (if t = [] then [] else [nm t])) := by
  rcases h1 with rfl | h1
  ·exact Lexy.w_kw [102, 110] (by decide)
  ·have ht : t ≠ [] := not3 h1
   rw [if_neg ht, if_neg ht]
   exact (Lexy.w_kwb [102, 110] (by decide)).after (w_nm h1) |> fun q => by simpa using q
 have h3 := (hf.ahead (d := 40) (c := joinC ps ++ [41]) (by decide) hl)
 have h4 := (h3.after Lexy.w_blank).after hb
 simpa [listed, List.append_assoc] using h4
theorem lx {n : Node} {fn lp : Bool} (h : Rt fn lp n) : LX n := by
 induction h with
 | num fn lp nu h1 h2 =>
  refine .e ?_
  show W noN (Go.Lib.itoa nu) [⟨2, [], nu.toNat⟩]
  rw [itoa_dec h1]
  exact Lexy.w_num _ (by omega)
 | str fn lp t => exact .e (Lexy.w_quote t).n
 | bool fn lp nu h =>
  refine .e ?_
  rcases h with rfl | rfl
  ·exact Lexy.w_kw Pars.wFalse (by decide)
  ·exact Lexy.w_kw Pars.wTrue (by decide)
 | null => exact .e (Lexy.w_kw Pars.wNull (by decide))
 | var fn lp t h => exact .e (w_nm h)
 | list fn lp l h1 h2 ih =>
  refine .e ?_
  show W noN (listed [91] [93] ((wrs l).map (· (.at (-2))))) (tlisted [91] [93] ((tws l).map (· (.at (-2)))))
  rw [wrs_map, tws_map, List.map_map, List.map_map]
  exact (w_kids (.at (-2)) l (fun x hx => (ih x hx).at_ (h1 x hx) _) 91 93 (by decide) (by decide) (by decide)).n
 | recd fn lp l h1 h2 ih =>
  refine .e ?_
  show W noN (listed [123] [125] ((wrs l).map (· .pair))) (tlisted [123] [125] ((tws l).map (· .pair)))
  rw [wrs_map, tws_map, List.map_map, List.map_map]
  exact (w_kids .pair l (fun x hx => (ih x hx).pair (h1 x hx)) 123 125 (by decide) (by decide) (by decide)).n
 | pair fn lp t a h1 h2 h3 ih =>
  refine ⟨fun e => by simp [isE, Node.kind] at e, fun e => by simp [Node.kind] at e, fun e => by simp [Node.kind] at e, fun e => by simp [Node.kind] at e, fun e => by simp [Node.kind] at e, fun _ => ?_⟩
  exact ((w_nm h1).ahead (by decide) (w_sgb 58 (by decide))).after (ih.at_ h2 (-2))
 | func fn lp t ps b h1 h2 h3 h4 ih =>
  have hw := w_fn h1 h2 (ih.block h3)
  exact ⟨fun _ => hw, fun e => by simp [Node.kind] at e, fun _ => hw, fun e => by simp [Node.kind] at e, fun e => by simp [Node.kind] at e, fun e => by simp [Node.kind] at e⟩
 | param fn lp t h => exact ⟨fun e => by simp [isE, Node.kind] at e, fun e => by simp [Node.kind] at e, fun e => by simp [Node.kind] at e, fun e => by simp [Node.kind] at e, fun e => by simp [Node.kind] at e, fun e => by simp [Node.kind] at e⟩
 | call fn lp a l h1 h2 h3 h4 ih1 ih2 =>
  refine .e ?_
  show W noN (wr a (.at 7) ++ listed [40] [41] ((wrs l).map (· (.at (-2))))) (tw a (.at 7) ++ tlisted [40] [41] ((tws l).map (· (.at (-2)))))
  rw [wrs_map, tws_map, List.map_map, List.map_map]
  exact ((ih1.at_ h1 7).ahead (by decide) (w_kids (.at (-2)) l (fun x hx => (ih2 x hx).at_ (h3 x hx) _) 40 41 (by decide) (by decide) (by decide))).n
 | index fn lp a b h1 h2 h3 h4 ih1 ih2 =>
  refine .e ?_
  exact ((((ih1.at_ h1 7).ahead (by decide) (w_sgs 91 (by decide))).after (ih2.at_ h3 (-2))).ahead (by decide) (w_sgs 93 (by decide))).n
 | dot fn lp t a h1 h2 h3 ih =>
  refine .e ?_
  exact (ih.at_ h2 7).ahead (d := 46) (c := t) (by decide) ((w_sgs 46 (by decide)).after (w_nm h1))
 | unary fn lp t a h1 h2 h3 ih =>
  refine .e ?_
  rcases h1 with rfl | rfl
  ·refine Lexy.w_not.app (ih.at_ h2 6) ?_
   intro z _ d hd
   obtain ⟨c, r, hc, hne⟩ := at_hd (ex_hd h3 h2) 6
   have hd2 : ((wr a (.at 6)) ++ z).head? = some d := hd
   rw [hc] at hd2
   simp at hd2
   subst hd2
   simpa using hne
  ·exact (w_sgs 45 (by decide)).after (ih.at_ h2 6)
 | binary fn lp t a b h1 h2 h3 h4 h5 ih1 ih2 =>
  refine .e ?_
  exact ((ih1.at_ h2 (rank (.mk 15 0 t []))).ahead (by decide) (glue (sgn 15 t) (sgn_signs (.inr (.inr h1))))).after (ih2.at_ h4 (rank (.mk 15 0 t []) + 1))
 | and_ fn lp a b h1 h2 h3 h4 ih1 ih2 =>
  refine .e ?_
  exact ((ih1.at_ h1 (rank (.mk 16 0 [] []))).ahead (by decide) (glue (sgn 16 []) (sgn_signs (.inr (.inl rfl))))).after (ih2.at_ h3 (rank (.mk 16 0 [] []) + 1))
 | or_ fn lp a b h1 h2 h3 h4 ih1 ih2 =>
  refine .e ?_
  exact ((ih1.at_ h1 (rank (.mk 17 0 [] []))).ahead (by decide) (glue (sgn 17 []) (sgn_signs (.inl rfl)))).after (ih2.at_ h3 (rank (.mk 17 0 [] []) + 1))
 | cond fn lp a b c h1 h2 h3 h4 h5 h6 ih1 ih2 ih3 =>
  refine .e ?_
  exact ((((ih1.at_ h1 0).ahead (by decide) (glue [63] (by decide))).after (ih2.at_ h3 (-2))).ahead (by decide) (glue [58] (by decide))).after (ih3.at_ h5 (-2))
 | assign fn lp a b h1 h2 h3 h4 ih1 ih2 =>
  refine .e ?_
  have ha : isE a := by unfold isT at h1; unfold isE; omega
  exact ((ih1.at_ ha 7).ahead (by decide) (glue [61] (by decide))).after (ih2.at_ h3 (-2))
 | let_ fn lp t a h1 h2 h3 ih =>
  refine .s ?_
  exact (((((Lexy.w_kwb Pars.wLet (by decide)).after (w_nm h1)).ahead (by decide) (glue [61] (by decide))).after (ih.at_ h2 (-2))).ahead (by decide) (w_sgs 59 (by decide))).n
 | def_ fn lp f h1 h2 h3 ih =>
  exact .s (ih.fn h1)
 | if2 fn lp c b h1 h2 h3 h4 ih1 ih2 =>
  have hw : W noN (wr (.mk 22 0 [] [c, b]) .ifs) (tw (.mk 22 0 [] [c, b]) .ifs) := by
   have e1 : wr (.mk 22 0 [] [c, b]) .ifs = [105, 102, 32, 40] ++ wr c (.at (-2)) ++ [41, 32] ++ wr b .block := by show _ ++ [] = _; rw [List.append_nil]; rfl
   have e2 : tw (.mk 22 0 [] [c, b]) .ifs = [kw Pars.wIf, sg [40]] ++ tw c (.at (-2)) ++ [sg [41]] ++ tw b .block := by show _ ++ [] = _; rw [List.append_nil]; rfl
   rw [e1, e2]
   exact ((((Lexy.w_kwb Pars.wIf (by decide)).after (w_sgs 40 (by decide))).after (ih1.at_ h1 (-2))).ahead (by decide) (w_sgb 41 (by decide))).after (ih2.block h3)
  exact ⟨fun e => by simp [isE, Node.kind] at e, fun _ => hw, fun e => by simp [Node.kind] at e, fun e => by simp [Node.kind] at e, fun _ => hw, fun e => by simp [Node.kind] at e⟩
 | if3 fn lp c b e h1 h2 h3 h4 h5 h6 ih1 ih2 ih3 =>
  have hw : W noN (wr (.mk 22 0 [] [c, b, e]) .ifs) (tw (.mk 22 0 [] [c, b, e]) .ifs) := by
   have e1 : wr (.mk 22 0 [] [c, b, e]) .ifs = [105, 102, 32, 40] ++ wr c (.at (-2)) ++ [41, 32] ++ wr b .block ++ ([32, 101, 108, 115, 101, 32] ++ (if e.kind = 22 then wr e .ifs else wr e .block)) := rfl
   have e2 : tw (.mk 22 0 [] [c, b, e]) .ifs = [kw Pars.wIf, sg [40]] ++ tw c (.at (-2)) ++ [sg [41]] ++ tw b .block ++ ([kw Pars.wElse] ++ (if e.kind = 22 then tw e .ifs else tw e .block)) := rfl
   rw [e1, e2]
   have hx : W noN (if e.kind = 22 then wr e .ifs else wr e .block) (if e.kind = 22 then tw e .ifs else tw e .block) := by
    by_cases hk : e.kind = 22
    ·rw [if_pos hk, if_pos hk]; exact ih3.ifs hk
    ·rw [if_neg hk, if_neg hk]; exact ih3.block (by omega)
   exact (((((Lexy.w_kwb Pars.wIf (by decide)).after (w_sgs 40 (by decide))).after (ih1.at_ h1 (-2))).ahead (by decide) (w_sgb 41 (by decide))).after (ih2.block h3)).ahead (by decide) ((Lexy.w_blank.after (Lexy.w_kwb Pars.wElse (by decide))).after hx)
  exact ⟨fun e => by simp [isE, Node.kind] at e, fun _ => hw, fun e => by simp [Node.kind] at e, fun e => by simp [Node.kind] at e, fun _ => hw, fun e => by simp [Node.kind] at e⟩
 | while_ fn lp c b h1 h2 h3 h4 ih1 ih2 =>
  refine .s ?_
  exact ((((Lexy.w_kwb Pars.wWhile (by decide)).after (w_sgs 40 (by decide))).after (ih1.at_ h1 (-2))).ahead (by decide) (w_sgb 41 (by decide))).after (ih2.block h3)
 | for_ fn lp t c b h0 h1 h2 h3 h4 ih1 ih2 =>
  refine .s ?_
  have hg : W all [32, 111, 102, 32] [kw Pars.wOf] := Lexy.w_blank.after (Lexy.w_kwb Pars.wOf (by decide))
  have q := ((((((((Lexy.w_kwb Pars.wFor (by decide)).after (w_sgs 40 (by decide))).after (Lexy.w_kwb Pars.wLet (by decide))).after (w_nm h0)).ahead (by decide) hg).after (ih1.at_ h1 (-2))).ahead (by decide) (w_sgb 41 (by decide))).after (ih2.block h3))
  have e1 : wr (.mk 24 0 t [c, b]) .stmt = [102, 111, 114, 32, 40, 108, 101, 116, 32] ++ t ++ [32, 111, 102, 32] ++ wr c (.at (-2)) ++ [41, 32] ++ wr b .block := rfl
  have e2 : tw (.mk 24 0 t [c, b]) .stmt = [kw Pars.wFor, sg [40], kw Pars.wLet, nm t, kw Pars.wOf] ++ tw c (.at (-2)) ++ [sg [41]] ++ tw b .block := rfl
  rw [e1, e2]
  simpa using q
 | ret0 lp => exact .s ((Lexy.w_kw Pars.wReturn (by decide)).ahead (by decide) (w_sgs 59 (by decide))).n
 | ret1 lp a h1 h2 ih =>
  refine .s ?_
  have q := ((((Lexy.w_kwb Pars.wReturn (by decide)).after (ih.at_ h1 (-2))).ahead (by decide) (w_sgs 59 (by decide))).n)
  have e1 : wr (.mk 25 0 [] [a]) .stmt = [114, 101, 116, 117, 114, 110] ++ (32 :: wr a (.at (-2))) ++ [59] := rfl
  have e2 : tw (.mk 25 0 [] [a]) .stmt = [kw Pars.wReturn] ++ tw a (.at (-2)) ++ [sg [59]] := rfl
  rw [e1, e2]
  simpa using q
 | brk fn => exact .s ((Lexy.w_kw Pars.wBreak (by decide)).ahead (by decide) (w_sgs 59 (by decide))).n
 | cont fn => exact .s ((Lexy.w_kw Pars.wContinue (by decide)).ahead (by decide) (w_sgs 59 (by decide))).n
 | throw fn lp a h1 h2 ih =>
  refine .s ?_
  exact (((Lexy.w_kwb Pars.wThrow (by decide)).after (ih.at_ h1 (-2))).ahead (by decide) (w_sgs 59 (by decide))).n
 | try1 fn lp t b c h0 h1 h2 h3 h4 ih1 ih2 =>
  refine .s ?_
  have e1 : wr (.mk 29 1 t [b, c]) .stmt = [116, 114, 121, 32] ++ wr b .block ++ ([32, 99, 97, 116, 99, 104, 32, 40] ++ t ++ [41, 32] ++ wr c .block) ++ [] := rfl
  have e2 : tw (.mk 29 1 t [b, c]) .stmt = [kw Pars.wTry] ++ tw b .block ++ ([kw Pars.wCatch, sg [40], nm t, sg [41]] ++ tw c .block) ++ [] := rfl
  rw [e1, e2, List.append_nil, List.append_nil]
  have q := ((((Lexy.w_blank.after (Lexy.w_kwb Pars.wCatch (by decide))).after (w_sgs 40 (by decide))).after (w_nm h0)).ahead (by decide) (w_sgb 41 (by decide))).after (ih2.block h3)
  exact ((Lexy.w_kwb Pars.wTry (by decide)).after (ih1.block h1)).ahead (by decide) q
 | try2 fn lp b d h1 h2 h3 h4 ih1 ih2 =>
  refine .s ?_
  have e1 : wr (.mk 29 2 [] [b, d]) .stmt = [116, 114, 121, 32] ++ wr b .block ++ [] ++ ([32, 102, 105, 110, 97, 108, 108, 121, 32] ++ wr d .block) := rfl
  have e2 : tw (.mk 29 2 [] [b, d]) .stmt = [kw Pars.wTry] ++ tw b .block ++ [] ++ ([kw Pars.wFinally] ++ tw d .block) := rfl
  rw [e1, e2, List.append_nil, List.append_nil]
  exact ((Lexy.w_kwb Pars.wTry (by decide)).after (ih1.block h1)).ahead (by decide) ((Lexy.w_blank.after (Lexy.w_kwb Pars.wFinally (by decide))).after (ih2.block h3))
 | try3 fn lp t b c d h0 h1 h2 h3 h4 h5 h6 ih1 ih2 ih3 =>
  refine .s ?_
  have e1 : wr (.mk 29 3 t [b, c, d]) .stmt = [116, 114, 121, 32] ++ wr b .block ++ ([32, 99, 97, 116, 99, 104, 32, 40] ++ t ++ [41, 32] ++ wr c .block) ++ ([32, 102, 105, 110, 97, 108, 108, 121, 32] ++ wr d .block) := rfl
  have e2 : tw (.mk 29 3 t [b, c, d]) .stmt = [kw Pars.wTry] ++ tw b .block ++ ([kw Pars.wCatch, sg [40], nm t, sg [41]] ++ tw c .block) ++ ([kw Pars.wFinally] ++ tw d .block) := rfl
  rw [e1, e2]
  have q := ((((Lexy.w_blank.after (Lexy.w_kwb Pars.wCatch (by decide))).after (w_sgs 40 (by decide))).after (w_nm h0)).ahead (by decide) (w_sgb 41 (by decide))).after (ih2.block h3)
  exact (((Lexy.w_kwb Pars.wTry (by decide)).after (ih1.block h1)).ahead (by decide) q).ahead (by decide) ((Lexy.w_blank.after (Lexy.w_kwb Pars.wFinally (by decide))).after (ih3.block h5))
 | block fn lp l h1 h2 ih =>
  have hw : W noN (wr (.mk 30 0 [] l) .block) (tw (.mk 30 0 [] l) .block) := by
   rw [wr_blk, tw_blk]
   exact (((w_sgb 123 (by decide)).after (w_flat l fun x hx => (ih x hx).stmt (h1 x hx).1)).after (w_sgs 125 (by decide))).n
  exact ⟨fun e => by simp [isE, Node.kind] at e, fun _ => hw, fun e => by simp [Node.kind] at e, fun _ => hw, fun e => by simp [Node.kind] at e, fun e => by simp [Node.kind] at e⟩
 | expr fn lp a h1 h2 ih =>
  refine .s ?_
  have e1 : wr (.mk 31 0 [] [a]) .stmt = (if front a = 7 ∨ front a = 9 then [40] ++ wr a (.at (-2)) ++ [41] else wr a (.at (-2))) ++ [59] := rfl
  have e2 : tw (.mk 31 0 [] [a]) .stmt = (if front a = 7 ∨ front a = 9 then [sg [40]] ++ tw a (.at (-2)) ++ [sg [41]] else tw a (.at (-2))) ++ [sg [59]] := rfl
  rw [e1, e2]
  have ha := ih.at_ h1 (-2)
  by_cases hf : front a = 7 ∨ front a = 9
  ·rw [if_pos hf, if_pos hf]
   exact (((((w_sgs 40 (by decide)).after ha).ahead (by decide) (w_sgs 41 (by decide)))).after (w_sgs 59 (by decide))).n
  ·rw [if_neg hf, if_neg hf]
   exact (ha.ahead (by decide) (w_sgs 59 (by decide))).n
theorem w_joinB : ∀ l : List Node, (∀ x ∈ l, W noN (wr x .stmt) (tw x .stmt)) → W noN (joinB (l.map fun x => wr x .stmt)) (l.flatMap fun x => tw x .stmt)
 | [], _ => Lexy.w_nil _
 | [a], h => by simpa [joinB] using h a (by simp)
 | a :: b :: l, h => by
  have ih := w_joinB (b :: l) fun x hx => h x (by simp only [List.mem_cons] at hx ⊢; exact .inr hx)
  have := ((h a (by simp)).ahead (d := 32) (c := []) (by decide) Lexy.w_blank).after ih
  simpa [joinB, List.append_assoc] using this
theorem lex_text {n : Node} {fn lp : Bool} (h : Rt fn lp n) (hk : n.kind = 30) : LexT (text n) (ttext n) := by
 cases h with
 | block fn lp l h1 h2 =>
  have := w_joinB l (fun x hx => (lx (h2 x hx)).stmt (h1 x hx).1) [] [] (fun c hc => by cases hc) Lexy.lexT_nil
  rw [List.append_nil, List.append_nil] at this
  exact this
 | _ => simp [Node.kind] at hk
theorem toks_text {n : Node} {fn lp : Bool} (h : Rt fn lp n) (hk : n.kind = 30) (hl : (text n).length ≤ 2000) : if (ttext n).length ≤ 1000 then ∃ full, Lexy.toks (text n) = .ok full ∧ full.map (·.toTk) = ttext n ∧ Lexy.Lex 0 (text n) full else Lexy.toks (text n) = .err 2 := by
 obtain ⟨full, h1, h2⟩ := lex_text h hk
 have hlen : full.length = (ttext n).length := by rw [← h2, List.length_map]
 have ht : Lexy.toks (text n) = if full.length ≤ 1000 then .ok full else .err 2 := by
  unfold Lexy.toks
  rw [if_neg (Nat.not_lt.2 hl), Lexy.of_lex h1]
 rw [hlen] at ht
 by_cases h : (ttext n).length ≤ 1000
 ·rw [if_pos h] at ht ⊢
  exact ⟨full, ht, h2, h1⟩
 ·rw [if_neg h] at ht ⊢
  exact ht
end Wri
