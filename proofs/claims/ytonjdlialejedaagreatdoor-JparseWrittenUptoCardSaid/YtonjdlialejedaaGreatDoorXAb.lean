/-
  Texts that the law leans on: Lex, Par, LexT, LexQ. Conditions: as each says.
-/
import Derived.Test.YtonjdlialejedaaGreatDoorXAa
set_option linter.unusedSimpArgs false
set_option linter.unusedVariables false
namespace Lexy
abbrev Bs := List UInt8
def isLetter (c : UInt8) : Bool := (decide (97 ≤ c.toNat) && decide (c.toNat ≤ 122)) || (decide (65 ≤ c.toNat) && decide (c.toNat ≤ 90)) || c == 95
def isDigit (c : UInt8) : Bool := decide (48 ≤ c.toNat) && decide (c.toNat ≤ 57)
def isNameB (c : UInt8) : Bool := isLetter c || isDigit c
def isBlank (c : UInt8) : Bool := c == 32 || c == 9 || c == 10 || c == 13
def skp : Bool → Bs → Nat
 | _, [] => 0
 | true, c :: r => if c == 10 then 1 + skp false r else 1 + skp true r
 | false, c :: r => if isBlank c then 1 + skp false r else if c == 47 && r.head? == some 47 then 1 + skp true r else 0
structure Tk where
 kind : Nat
 text : Bs
 num : Nat
 deriving DecidableEq
structure Tok extends Tk where
 lo : Nat
 hi : Nat
 deriving DecidableEq
inductive Res (α : Type) where
 | err (e : Nat)
 | ok (a : α)
 deriving DecidableEq
def kws : List Bs := [[108, 101, 116], [102, 110], [105, 102], [101, 108, 115, 101], [119, 104, 105, 108, 101], [102, 111, 114], [111, 102], [114, 101, 116, 117, 114, 110], [98, 114, 101, 97, 107], [99, 111, 110, 116, 105, 110, 117, 101], [116, 104, 114, 111, 119], [116, 114, 121], [99, 97, 116, 99, 104], [102, 105, 110, 97, 108, 108, 121], [116, 114, 117, 101], [102, 97, 108, 115, 101], [110, 117, 108, 108]]
def signs : List Bs := [[61, 61], [33, 61], [60, 61], [62, 61], [38, 38], [124, 124], [61], [33], [60], [62], [43], [45], [42], [47], [37], [40], [41], [91], [93], [123], [125], [44], [59], [58], [46], [63]]
def numF : Nat → Bs → Option Nat
 | n, [] => some n
 | n, c :: r => if 9007199254740992 < 10 * n + (c.toNat - 48) then none else numF (10 * n + (c.toNat - 48)) r
def hexv (c : UInt8) : Option UInt8 :=
 if 48 ≤ c.toNat ∧ c.toNat ≤ 57 then some (c - 48) else if 97 ≤ c.toNat ∧ c.toNat ≤ 102 then some (c - 87) else none
def esc : Bs → Option (UInt8 × Nat)
 | [] => none
 | c :: r => if c == 34 || c == 92 then some (c, 1) else if c == 110 then some (10, 1) else if c == 116 then some (9, 1)
  else if c == 120 then match r with
   | a :: b :: _ => match hexv a, hexv b with
    | some x, some y => some (x * 16 + y, 3)
    | _, _ => none
   | _ => none
  else none
def txtF : Nat → Bs → Option (Bs × Nat)
 | 0, _ => none
 | _, [] => none
 | f + 1, c :: r =>
  if c == 34 then some ([], 1)
  else if c.toNat < 32 then none
  else if c == 92 then
   match esc r with
   | none => none
   | some (b, n) => match txtF f (r.drop n) with
    | none => none
    | some (t, m) => some (b :: t, 1 + n + m)
  else match txtF f r with
   | none => none
   | some (t, m) => some (c :: t, 1 + m)
def txt (l : Bs) : Option (Bs × Nat) := txtF l.length l
def nameLen (l : Bs) : Nat := (l.takeWhile isNameB).length
def digLen (l : Bs) : Nat := (l.takeWhile isDigit).length
def sign (l : Bs) : Res (Tk × Nat) :=
 if 2 ≤ l.length ∧ l.take 2 ∈ signs then .ok (⟨4, l.take 2, 0⟩, 2)
 else if 1 ≤ l.length ∧ l.take 1 ∈ signs then .ok (⟨4, l.take 1, 0⟩, 1)
 else .err 4
def next (l : Bs) : Res (Tk × Nat) :=
 match l with
 | [] => .err 4
 | c :: r =>
  if isLetter c then
   let w := l.take (nameLen l)
   .ok (⟨if w ∈ kws then 5 else 1, w, 0⟩, nameLen l)
  else if isDigit c then
   match numF 0 (l.take (digLen l)) with
   | none => .err 2
   | some n => if ((l.drop (digLen l)).head?.map isLetter).getD false then .err 4 else .ok (⟨2, [], n⟩, digLen l)
  else if c == 34 then
   match txt r with
   | none => .err 4
   | some (t, m) => .ok (⟨3, t, 0⟩, 1 + m)
  else sign l
def toksR : Nat → Nat → Bs → Res (List Tok)
 | rem, p, l =>
  match l.drop (skp false l) with
  | [] => .ok []
  | c :: r => match next (c :: r) with
   | .err e => .err e
   | .ok (t, n) => match rem with
    | 0 => .err 2
    | rem + 1 => match toksR rem (p + skp false l + n) ((c :: r).drop n) with
     | .err e => .err e
     | .ok ts => .ok (⟨t, p + skp false l, p + skp false l + n⟩ :: ts)
def toks (l : Bs) : Res (List Tok) := if 2000 < l.length then .err 2 else toksR 1000 0 l
end Lexy
namespace Lexy
theorem skp_le : ∀ (b : Bool) (l : Bs), skp b l ≤ l.length
 | b, [] => by cases b <;> simp [skp]
 | true, c :: r => by
  have h1 := skp_le false r
  have h2 := skp_le true r
  simp only [skp, List.length_cons]
  split <;> omega
 | false, c :: r => by
  have h1 := skp_le false r
  have h2 := skp_le true r
  simp only [skp, List.length_cons]
  split
  ·omega
  ·split <;> omega
theorem skp_idem : ∀ (b : Bool) (l : Bs), skp false (l.drop (skp b l)) = 0
 | b, [] => by cases b <;> simp [skp]
 | true, c :: r => by
  simp only [skp]
  split
  ·rw [Nat.add_comm, List.drop_succ_cons]; exact skp_idem false r
  ·rw [Nat.add_comm, List.drop_succ_cons]; exact skp_idem true r
 | false, c :: r => by
  simp only [skp]
  split
  ·rw [Nat.add_comm, List.drop_succ_cons]; exact skp_idem false r
  ·split
   ·rw [Nat.add_comm, List.drop_succ_cons]; exact skp_idem true r
   ·rename_i h1 h2
    simp [skp, h1, h2]
end Lexy
namespace Lexy
def Soft (y x : Bs) : Prop := y.head? = x.head? ∨ ∀ c, y.head? = some c → c = 10 ∨ c = 32
theorem run_swap (p : UInt8 → Bool) (hp10 : p 10 = false) (hp32 : p 32 = false) {x y : Bs} (h : Soft y x) :
  ∀ a : Bs, (∀ c ∈ a, p c = true) → (x.head?.all (fun c => !p c)) = true → ((a ++ y).takeWhile p).length = a.length ∧ (y.head?.all (fun c => !p c)) = true := by
 intro a ha hx
 have hy : (y.head?.all (fun c => !p c)) = true := by
  rcases h with h | h
  ·rw [h]; exact hx
  ·cases hy : y.head? with
   | none => rfl
   | some c => rcases h c hy with rfl | rfl <;> simp [hp10, hp32]
 refine ⟨?_, hy⟩
 rw [List.takeWhile_append_of_pos ha]
 cases y with
 | nil => simp
 | cons c r =>
  simp only [List.head?_cons, Option.all_some, Bool.not_eq_true'] at hy
  simp [hy]
theorem take_tw (p : UInt8 → Bool) : ∀ l : Bs, l.take (l.takeWhile p).length = l.takeWhile p
 | [] => by simp
 | c :: r => by
  simp only [List.takeWhile_cons]
  split
  ·simp [take_tw p r]
  ·simp
theorem drop_tw (p : UInt8 → Bool) : ∀ l : Bs, (l.drop (l.takeWhile p).length).head?.all (fun c => !p c) = true
 | [] => by simp
 | c :: r => by
  simp only [List.takeWhile_cons]
  split
  ·simpa using drop_tw p r
  ·simp_all
theorem all_tw (p : UInt8 → Bool) (l : Bs) : ∀ c ∈ l.takeWhile p, p c = true := by
 induction l with
 | nil => simp
 | cons d r ih =>
  intro c hc
  simp only [List.takeWhile_cons] at hc
  split at hc
  ·rcases List.mem_cons.1 hc with rfl | h
   ·assumption
   ·exact ih c h
  ·cases hc
theorem run_eq (p : UInt8 → Bool) {a x : Bs} (h : ((a ++ x).takeWhile p).length = a.length) : (∀ c ∈ a, p c = true) ∧ x.head?.all (fun c => !p c) = true := by
 have h1 := take_tw p (a ++ x)
 rw [h, List.take_left'] at h1
 ·have h2 := drop_tw p (a ++ x)
  rw [h, List.drop_left'] at h2
  ·refine ⟨fun c hc => all_tw p (a ++ x) c (h1 ▸ hc), h2⟩
  ·rfl
 ·rfl
theorem name10 : isNameB 10 = false := by decide
theorem name32 : isNameB 32 = false := by decide
theorem dig10 : isDigit 10 = false := by decide
theorem dig32 : isDigit 32 = false := by decide
theorem let10 : isLetter 10 = false := by decide
theorem let32 : isLetter 32 = false := by decide
theorem esc_app {l z : Bs} {b : UInt8} {n : Nat} (h : esc l = some (b, n)) : esc (l ++ z) = some (b, n) ∧ n ≤ l.length ∧ 0 < n := by
 cases l with
 | nil => simp [esc] at h
 | cons c r =>
  simp only [esc, List.cons_append] at h ⊢
  by_cases h1 : (c == 34 || c == 92) = true
  ·rw [if_pos h1] at h ⊢; simp at h; obtain ⟨rfl, rfl⟩ := h; simp
  rw [if_neg h1] at h ⊢
  by_cases h2 : (c == 110) = true
  ·rw [if_pos h2] at h ⊢; simp at h; obtain ⟨rfl, rfl⟩ := h; simp
  rw [if_neg h2] at h ⊢
  by_cases h3 : (c == 116) = true
  ·rw [if_pos h3] at h ⊢; simp at h; obtain ⟨rfl, rfl⟩ := h; simp
  rw [if_neg h3] at h ⊢
  by_cases h4 : (c == 120) = true
  ·rw [if_pos h4] at h ⊢
   match r, h with
   | a :: b' :: r', h =>
    simp only [List.cons_append]
    simp only at h
    cases ha : hexv a with
    | none => rw [ha] at h; simp at h
    | some x =>
     cases hb : hexv b' with
     | none => rw [ha, hb] at h; simp at h
     | some y => rw [ha, hb] at h; simp at h; obtain ⟨rfl, rfl⟩ := h; simp
  ·rw [if_neg h4] at h; simp at h
theorem txtF_app : ∀ (f k : Nat) (l z t : Bs) (m : Nat), txtF f l = some (t, m) → txtF (f + k) (l ++ z) = some (t, m) ∧ m ≤ l.length ∧ 0 < m := by
 intro f
 induction f with
 | zero => intro k l z t m h; simp [txtF] at h
 | succ f ih =>
  intro k l z t m h
  cases l with
  | nil => simp [txtF] at h
  | cons c r =>
   rw [show f + 1 + k = (f + k) + 1 by omega]
   simp only [txtF, List.cons_append] at h ⊢
   by_cases h1 : (c == 34) = true
   ·rw [if_pos h1] at h ⊢; simp at h; obtain ⟨rfl, rfl⟩ := h; simp
   rw [if_neg h1] at h ⊢
   by_cases h2 : c.toNat < 32
   ·rw [if_pos h2] at h; simp at h
   rw [if_neg h2] at h ⊢
   by_cases h3 : (c == 92) = true
   ·rw [if_pos h3] at h ⊢
    cases he : esc r with
    | none => rw [he] at h; simp at h
    | some bn =>
     obtain ⟨b, n⟩ := bn
     obtain ⟨e1, e2, e3⟩ := esc_app (z := z) he
     rw [he] at h
     rw [e1]
     simp only at h ⊢
     cases hr : txtF f (r.drop n) with
     | none => rw [hr] at h; simp at h
     | some tm =>
      obtain ⟨t', m'⟩ := tm
      rw [hr] at h
      simp at h
      obtain ⟨rfl, rfl⟩ := h
      obtain ⟨i1, i2, i3⟩ := ih k _ z _ _ hr
      rw [List.drop_append_of_le_length e2, i1]
      simp at i2 ⊢
      omega
   ·rw [if_neg h3] at h ⊢
    cases hr : txtF f r with
    | none => rw [hr] at h; simp at h
    | some tm =>
     obtain ⟨t', m'⟩ := tm
     rw [hr] at h
     simp at h
     obtain ⟨rfl, rfl⟩ := h
     obtain ⟨i1, i2, i3⟩ := ih k _ z _ _ hr
     rw [i1]
     simp
     omega
theorem txtF_take : ∀ (f : Nat) (l t : Bs) (m : Nat), txtF f l = some (t, m) → txtF m (l.take m) = some (t, m) := by
 intro f
 induction f with
 | zero => intro l t m h; simp [txtF] at h
 | succ f ih =>
  intro l t m h
  cases l with
  | nil => simp [txtF] at h
  | cons c r =>
   simp only [txtF] at h
   by_cases h1 : (c == 34) = true
   ·rw [if_pos h1] at h; simp at h; obtain ⟨rfl, rfl⟩ := h; simp [txtF, h1]
   rw [if_neg h1] at h
   by_cases h2 : c.toNat < 32
   ·rw [if_pos h2] at h; simp at h
   rw [if_neg h2] at h
   by_cases h3 : (c == 92) = true
   ·rw [if_pos h3] at h
    cases he : esc r with
    | none => rw [he] at h; simp at h
    | some bn =>
     obtain ⟨b, n⟩ := bn
     obtain ⟨_, e2, e3⟩ := esc_app (z := []) he
     rw [he] at h
     simp only at h
     cases hr : txtF f (r.drop n) with
     | none => rw [hr] at h; simp at h
     | some tm =>
      obtain ⟨t', m'⟩ := tm
      rw [hr] at h
      simp at h
      obtain ⟨rfl, rfl⟩ := h
      have i1 := ih _ _ _ hr
      obtain ⟨_, i2, i3⟩ := txtF_app _ 0 _ [] _ _ hr
      have hesc : esc (r.take (n + m')) = some (b, n) := by
       have : r.take (n + m') = r.take n ++ (r.drop n).take m' := by rw [List.take_add]
       rw [this]
       have e : esc (r.take n) = some (b, n) := by
        clear i1 i2 hr
        cases r with
        | nil => simp [esc] at he
        | cons d q =>
         simp only [esc] at he
         by_cases g1 : (d == 34 || d == 92) = true
         ·rw [if_pos g1] at he; simp at he; obtain ⟨rfl, rfl⟩ := he; simp only [List.take_succ_cons, esc]; rw [if_pos g1]
         rw [if_neg g1] at he
         by_cases g2 : (d == 110) = true
         ·rw [if_pos g2] at he; simp at he; obtain ⟨rfl, rfl⟩ := he; simp only [List.take_succ_cons, esc]; rw [if_neg g1, if_pos g2]
         rw [if_neg g2] at he
         by_cases g3 : (d == 116) = true
         ·rw [if_pos g3] at he; simp at he; obtain ⟨rfl, rfl⟩ := he; simp only [List.take_succ_cons, esc]; rw [if_neg g1, if_neg g2, if_pos g3]
         rw [if_neg g3] at he
         by_cases g4 : (d == 120) = true
         ·rw [if_pos g4] at he
          match q, he with
          | a :: b' :: r', he =>
           have hn : n = 3 := by
            simp only at he
            cases ha : hexv a with
            | none => rw [ha] at he; simp at he
            | some x =>
             cases hb : hexv b' with
             | none => rw [ha, hb] at he; simp at he
             | some y => rw [ha, hb] at he; simp at he; exact he.2.symm
           subst hn
           simp only [List.take_succ_cons, esc]
           rw [if_neg g1, if_neg g2, if_neg g3, if_pos g4]
           exact he
         ·rw [if_neg g4] at he; simp at he
       exact (esc_app e).1
      rw [show 1 + n + m' = (n + m') + 1 by omega, List.take_succ_cons]
      simp only [txtF]
      rw [if_neg h1, if_neg h2, if_pos h3, hesc]
      simp only
      have hd : (r.take (n + m')).drop n = (r.drop n).take m' := by rw [List.drop_take]; congr 1; omega
      rw [hd]
      have i4 := (txtF_app m' n _ [] _ _ i1).1
      rw [List.append_nil, Nat.add_comm m' n] at i4
      rw [i4]
      simp; omega
   ·rw [if_neg h3] at h
    cases hr : txtF f r with
    | none => rw [hr] at h; simp at h
    | some tm =>
     obtain ⟨t', m'⟩ := tm
     rw [hr] at h
     simp at h
     obtain ⟨rfl, rfl⟩ := h
     have i1 := ih _ _ _ hr
     rw [show 1 + m' = m' + 1 by omega, List.take_succ_cons]
     simp only [txtF]
     rw [if_neg h1, if_neg h2, if_neg h3, i1]
     simp; omega
end Lexy
namespace Lexy
theorem sign2 (c d : UInt8) (hd : d = 10 ∨ d = 32) : [c, d] ∉ signs := by
 rcases hd with rfl | rfl <;> simp [signs]
theorem sign_swap {a x y : Bs} {t : Tk} (h : sign (a ++ x) = .ok (t, a.length)) (hs : Soft y x) : sign (a ++ y) = .ok (t, a.length) ∧ 0 < a.length := by
 unfold sign at h ⊢
 by_cases h2 : 2 ≤ (a ++ x).length ∧ (a ++ x).take 2 ∈ signs
 ·rw [if_pos h2] at h
  simp only [Res.ok.injEq, Prod.mk.injEq] at h
  obtain ⟨rfl, hl⟩ := h
  have e : ∀ z : Bs, (a ++ z).take 2 = a := fun z => by rw [List.take_append_of_le_length (by omega), hl]; exact List.take_length
  have hy : 2 ≤ (a ++ y).length ∧ (a ++ y).take 2 ∈ signs := ⟨by simp; omega, by rw [e y, ← e x]; exact h2.2⟩
  rw [if_pos hy, e y, e x, ← hl]
  simp
 ·rw [if_neg h2] at h
  by_cases h1 : 1 ≤ (a ++ x).length ∧ (a ++ x).take 1 ∈ signs
  ·rw [if_pos h1] at h
   simp only [Res.ok.injEq, Prod.mk.injEq] at h
   obtain ⟨rfl, hl⟩ := h
   match a, hl with
   | [c], _ =>
    have hn : ¬ (2 ≤ ([c] ++ y).length ∧ ([c] ++ y).take 2 ∈ signs) := by
     rintro ⟨hy1, hy2⟩
     cases y with
     | nil => simp at hy1
     | cons d r =>
      rcases hs with hs | hs
      ·cases x with
       | nil => simp at hs
       | cons d' r' =>
        simp at hs
        subst hs
        exact h2 ⟨by simp, by simpa using hy2⟩
      ·exact sign2 c d (hs d rfl) (by simpa using hy2)
    rw [if_neg hn, if_pos ⟨by simp, by simpa using h1.2⟩]
    simp
  ·rw [if_neg h1] at h
   cases h
theorem next_swap {a x y : Bs} {t : Tk} (h : next (a ++ x) = .ok (t, a.length)) (hs : Soft y x) : next (a ++ y) = .ok (t, a.length) ∧ 0 < a.length := by
 cases a with
 | nil =>
  exfalso
  cases x with
  | nil => simp [next] at h
  | cons c r =>
   simp only [List.nil_append, next] at h
   by_cases h1 : isLetter c = true
   ·rw [if_pos h1] at h
    simp [nameLen, isNameB, h1] at h
   rw [if_neg h1] at h
   by_cases h2 : isDigit c = true
   ·rw [if_pos h2] at h
    split at h
    ·cases h
    ·split at h
     ·cases h
     ·simp [digLen, h2] at h
   rw [if_neg h2] at h
   by_cases h3 : (c == 34) = true
   ·rw [if_pos h3] at h
    split at h
    ·cases h
    ·simp only [Res.ok.injEq, Prod.mk.injEq, List.length_nil] at h; omega
   rw [if_neg h3] at h
   have := (sign_swap (a := []) (x := c :: r) (y := c :: r) h (.inl rfl)).2
   simp at this
 | cons c r =>
  refine ⟨?_, by simp⟩
  have happ : ∀ z, (c :: r) ++ z = c :: (r ++ z) := fun z => rfl
  rw [happ] at h ⊢
  simp only [next] at h ⊢
  by_cases h1 : isLetter c = true
  ·rw [if_pos h1] at h ⊢
   simp only [Res.ok.injEq, Prod.mk.injEq] at h
   obtain ⟨ht, hl⟩ := h
   have hr := run_eq isNameB (a := c :: r) (x := x) hl
   have hz := run_swap isNameB name10 name32 hs (c :: r) hr.1 hr.2
   have hy : nameLen (c :: (r ++ y)) = (c :: r).length := hz.1
   rw [hy]
   rw [hl] at ht
   have e : ∀ z, List.take (c :: r).length (c :: (r ++ z)) = c :: r := fun z => by rw [← happ]; exact List.take_left' rfl
   rw [e] at ht ⊢
   rw [ht]
  rw [if_neg h1] at h ⊢
  by_cases h2 : isDigit c = true
  ·rw [if_pos h2] at h ⊢
   have e : ∀ z, List.take (c :: r).length (c :: (r ++ z)) = c :: r := fun z => by rw [← happ]; exact List.take_left' rfl
   have ed : ∀ z, List.drop (c :: r).length (c :: (r ++ z)) = z := fun z => by rw [← happ]; exact List.drop_left' rfl
   have hl : digLen (c :: (r ++ x)) = (c :: r).length := by
    split at h
    ·cases h
    ·split at h
     ·cases h
     ·simp only [Res.ok.injEq, Prod.mk.injEq] at h; exact h.2
   have hr := run_eq isDigit (a := c :: r) (x := x) hl
   have hz := run_swap isDigit dig10 dig32 hs (c :: r) hr.1 hr.2
   have hy : digLen (c :: (r ++ y)) = (c :: r).length := hz.1
   rw [hy]
   rw [hl] at h
   rw [e, ed] at h ⊢
   cases hn : numF 0 (c :: r) with
   | none => rw [hn] at h; cases h
   | some n =>
    rw [hn] at h
    simp only at h ⊢
    by_cases hx : (x.head?.map isLetter).getD false = true
    ·rw [if_pos hx] at h; cases h
    ·rw [if_neg hx] at h
     have hy : ¬ (y.head?.map isLetter).getD false = true := by
      rcases hs with hs | hs
      ·rw [hs]; exact hx
      ·cases hc : y.head? with
       | none => simp
       | some d => rcases hs d hc with rfl | rfl <;> simp [let10, let32]
     rw [if_neg hy]
     exact h
  rw [if_neg h2] at h ⊢
  by_cases h3 : (c == 34) = true
  ·rw [if_pos h3] at h ⊢
   cases hx : txt (r ++ x) with
   | none => rw [hx] at h; cases h
   | some tm =>
    obtain ⟨t', m⟩ := tm
    rw [hx] at h
    simp only [Res.ok.injEq, Prod.mk.injEq, List.length_cons] at h
    obtain ⟨rfl, hm⟩ := h
    obtain rfl : m = r.length := by omega
    have i1 := txtF_take _ _ _ _ hx
    rw [List.take_left' rfl] at i1
    have i2 := (txtF_app _ ((r ++ y).length - r.length) _ y _ _ i1).1
    have hy : txt (r ++ y) = some (t', r.length) := by
     unfold txt
     rw [show (r ++ y).length = r.length + ((r ++ y).length - r.length) by simp]
     exact i2
    rw [hy]
    simp only [List.length_cons, Nat.add_comm]
  rw [if_neg h3] at h ⊢
  exact (sign_swap (a := c :: r) h hs).1
theorem sign_len {l : Bs} {t : Tk} {n : Nat} (h : sign l = .ok (t, n)) : n ≤ l.length := by
 unfold sign at h
 split at h
 ·simp at h; omega
 ·split at h
  ·simp at h; omega
  ·cases h
theorem next_len {l : Bs} {t : Tk} {n : Nat} (h : next l = .ok (t, n)) : n ≤ l.length := by
 cases l with
 | nil => simp [next] at h
 | cons c r =>
  simp only [next] at h
  split at h
  ·simp only [Res.ok.injEq, Prod.mk.injEq] at h
   rw [← h.2]
   exact List.Sublist.length_le (List.takeWhile_sublist _)
  ·split at h
   ·split at h
    ·cases h
    ·split at h
     ·cases h
     ·simp only [Res.ok.injEq, Prod.mk.injEq] at h
      rw [← h.2]
      exact List.Sublist.length_le (List.takeWhile_sublist _)
   ·split at h
    ·split at h
     ·cases h
     ·rename_i htx
      simp only [Res.ok.injEq, Prod.mk.injEq] at h
      have := (txtF_app _ 0 _ [] _ _ htx).2.1
      simp; omega
    ·exact sign_len h
theorem next_split {l : Bs} {t : Tk} {n : Nat} (h : next l = .ok (t, n)) : l = l.take n ++ l.drop n ∧ (l.take n).length = n ∧ 0 < n ∧ ∀ y, Soft y (l.drop n) → next (l.take n ++ y) = .ok (t, n) := by
 have hn := next_len h
 have hl : (l.take n).length = n := by simp; omega
 have h0 : next (l.take n ++ l.drop n) = .ok (t, (l.take n).length) := by rw [List.take_append_drop, hl]; exact h
 refine ⟨(List.take_append_drop n l).symm, hl, ?_, fun y hy => ?_⟩
 ·have := (next_swap h0 (.inl rfl)).2; omega
 ·have := (next_swap h0 hy).1; rwa [hl] at this
theorem toksR_eq (rem p : Nat) (l : Bs) : toksR rem p l =
  match l.drop (skp false l) with
  | [] => .ok []
  | c :: r => match next (c :: r) with
   | .err e => .err e
   | .ok (t, n) => match rem with
    | 0 => .err 2
    | rem + 1 => match toksR rem (p + skp false l + n) ((c :: r).drop n) with
     | .err e => .err e
     | .ok ts => .ok (⟨t, p + skp false l, p + skp false l + n⟩ :: ts) := by
 rw [toksR.eq_def]
inductive Lex : Nat → Bs → List Tok → Prop where
 | done (p : Nat) (l : Bs) : l.drop (skp false l) = [] → Lex p l []
 | more (p : Nat) (l : Bs) (t : Tk) (n : Nat) (ts : List Tok) : l.drop (skp false l) ≠ [] → next (l.drop (skp false l)) = .ok (t, n) →
   Lex (p + skp false l + n) ((l.drop (skp false l)).drop n) ts → Lex p l (⟨t, p + skp false l, p + skp false l + n⟩ :: ts)
theorem lex_of : ∀ (rem p : Nat) (l : Bs) (ts : List Tok), toksR rem p l = .ok ts → Lex p l ts ∧ ts.length ≤ rem := by
 intro rem
 induction rem with
 | zero =>
  intro p l ts h
  rw [toksR_eq] at h
  cases hd : l.drop (skp false l) with
  | nil => rw [hd] at h; simp only [Res.ok.injEq] at h; subst h; exact ⟨.done _ _ hd, by simp⟩
  | cons c r =>
   rw [hd] at h
   simp only at h
   cases hn : next (c :: r) with
   | err e => rw [hn] at h; cases h
   | ok tn => rw [hn] at h; cases h
 | succ rem ih =>
  intro p l ts h
  rw [toksR_eq] at h
  cases hd : l.drop (skp false l) with
  | nil => rw [hd] at h; simp only [Res.ok.injEq] at h; subst h; exact ⟨.done _ _ hd, by simp⟩
  | cons c r =>
   rw [hd] at h
   simp only at h
   cases hn : next (c :: r) with
   | err e => rw [hn] at h; cases h
   | ok tn =>
    obtain ⟨t, n⟩ := tn
    rw [hn] at h
    simp only at h
    cases ht : toksR rem (p + skp false l + n) ((c :: r).drop n) with
    | err e => rw [ht] at h; cases h
    | ok ts' =>
     rw [ht] at h
     simp only [Res.ok.injEq] at h
     subst h
     obtain ⟨i1, i2⟩ := ih _ _ _ ht
     exact ⟨.more _ _ _ _ _ (by rw [hd]; simp) (by rw [hd]; exact hn) (by rw [hd]; exact i1), by simp; omega⟩
end Lexy
namespace Pars
open Lexy (Tk)
abbrev Bs := List UInt8
inductive Node where
 | mk (kind num : Int) (text : Bs) (kids : List Node)
instance : Inhabited Node := ⟨.mk 0 0 [] []⟩
namespace Node
def kind : Node → Int | .mk k _ _ _ => k
def num : Node → Int | .mk _ n _ _ => n
def text : Node → Bs | .mk _ _ t _ => t
def kids : Node → List Node | .mk _ _ _ l => l
end Node
abbrev R := Option (Node × List Tk)
def is (s : Bs) : List Tk → Option (List Tk)
 | t :: r => if (t.kind = 4 ∨ t.kind = 5) ∧ t.text = s then some r else none
 | [] => none
def anyOf : List Bs → List Tk → Option (Bs × List Tk)
 | [], _ => none
 | s :: ss, l => match is s l with
  | some r => some (s, r)
  | none => anyOf ss l
def andThen (r : R) (f : Node → List Tk → R) : R := match r with
 | none => none
 | some (x, l) => f x l
def alt (s : Bs) (l : List Tk) (f : List Tk → R) (g : R) : R := match is s l with
 | none => g
 | some r => f r
def must (s : Bs) (l : List Tk) (f : List Tk → R) : R := alt s l f none
def tok (k : Nat) (l : List Tk) (f : Tk → List Tk → R) (g : R) : R := match l with
 | [] => g
 | t :: r => if t.kind = k then f t r else g
def named (l : List Tk) (f : Bs → List Tk → R) : R := tok 1 l (fun t r => f t.text r) none
def signs (ss : List Bs) (l : List Tk) (f : Bs → List Tk → R) (g : R) : R := match anyOf ss l with
 | none => g
 | some (s, r) => f s r
def peek (s : Bs) (l : List Tk) (a b : R) : R := match l with
 | [] => b
 | t :: _ => if t.kind = 4 ∧ t.text = s then a else b
def sep (more : Bool) (l : List Tk) (f : List Tk → R) : R := if more then must [44] l f else f l
def ranks : List (List Bs) := [[[124, 124]], [[38, 38]], [[61, 61], [33, 61]], [[60], [60, 61], [62], [62, 61]], [[43], [45]], [[42], [47], [37]]]
def joined (sign : Bs) (a b : Node) : Node :=
 if sign = [124, 124] then .mk 17 0 [] [a, b] else if sign = [38, 38] then .mk 16 0 [] [a, b] else .mk 15 0 sign [a, b]
inductive Nt where
 | block | blockGo (acc : List Node) | body (fn : Bool) | function (name : Bs) | inner | ifs | loops | tries | statement | expression | cond
 | binary (rank : Nat) | binGo (rank : Nat) (e : Node) | unary | post (e : Node) | first
 | some (fin : Bs) (one : Nt) (more : Bool) (acc : List Node) | param | pair
abbrev wLet : Bs := [108, 101, 116]
abbrev wFn : Bs := [102, 110]
abbrev wIf : Bs := [105, 102]
abbrev wElse : Bs := [101, 108, 115, 101]
abbrev wWhile : Bs := [119, 104, 105, 108, 101]
abbrev wFor : Bs := [102, 111, 114]
abbrev wOf : Bs := [111, 102]
abbrev wReturn : Bs := [114, 101, 116, 117, 114, 110]
abbrev wBreak : Bs := [98, 114, 101, 97, 107]
abbrev wContinue : Bs := [99, 111, 110, 116, 105, 110, 117, 101]
abbrev wThrow : Bs := [116, 104, 114, 111, 119]
abbrev wTry : Bs := [116, 114, 121]
abbrev wCatch : Bs := [99, 97, 116, 99, 104]
abbrev wFinally : Bs := [102, 105, 110, 97, 108, 108, 121]
abbrev wTrue : Bs := [116, 114, 117, 101]
abbrev wFalse : Bs := [102, 97, 108, 115, 101]
abbrev wNull : Bs := [110, 117, 108, 108]
def ended (n : Node) (l : List Tk) : R := must [59] l fun r => some (n, r)
def run : Nat → Nt → Bool → Bool → List Tk → R
 | 0, _, _, _, _ => none
 | n + 1, .block, fn, lp, l => must [123] l fun l => run n (.blockGo []) fn lp l
 | n + 1, .blockGo acc, fn, lp, l => alt [125] l (fun r => some (.mk 30 0 [] acc, r)) (andThen (run n .statement fn lp l) fun k r => run n (.blockGo (acc ++ [k])) fn lp r)
 | n + 1, .body f, fn, lp, l => run n .block (fn || f) (!f) l
 | n + 1, .function nm, fn, lp, l => must [40] l fun l => andThen (run n (.some [41] .param false []) fn lp l) fun ps l => andThen (run n (.body true) fn lp l) fun b l => some (.mk 9 0 nm (ps.kids ++ [b]), l)
 | n + 1, .inner, fn, lp, l => must [40] l fun l => andThen (run n .expression fn lp l) fun e l => must [41] l fun l => some (e, l)
 | n + 1, .ifs, fn, lp, l => andThen (run n .inner fn lp l) fun c l => andThen (run n .block fn lp l) fun b l =>
   alt wElse l (fun l => alt wIf l (fun l => andThen (run n .ifs fn lp l) fun e l => some (.mk 22 0 [] [c, b, e], l)) (andThen (run n .block fn lp l) fun e l => some (.mk 22 0 [] [c, b, e], l)))
    (some (.mk 22 0 [] [c, b], l))
 | n + 1, .loops, fn, lp, l => must [40] l fun l => must wLet l fun l => named l fun nm l => must wOf l fun l => andThen (run n .expression fn lp l) fun e l => must [41] l fun l => andThen (run n (.body false) fn lp l) fun b l => some (.mk 24 0 nm [e, b], l)
 | n + 1, .tries, fn, lp, l => andThen (run n .block fn lp l) fun b l =>
   alt wCatch l (fun l => must [40] l fun l => named l fun nm l => must [41] l fun l => andThen (run n .block fn lp l) fun c l =>
     alt wFinally l (fun l => andThen (run n .block fn lp l) fun d l => some (.mk 29 3 nm [b, c, d], l)) (some (.mk 29 1 nm [b, c], l)))
    (alt wFinally l (fun l => andThen (run n .block fn lp l) fun d l => some (.mk 29 2 [] [b, d], l)) none)
 | n + 1, .statement, fn, lp, l =>
   alt wLet l (fun l => named l fun nm l => must [61] l fun l => andThen (run n .expression fn lp l) fun e l => ended (.mk 20 0 nm [e]) l) <|
   alt wFn l (fun l => named l fun nm l => andThen (run n (.function nm) fn lp l) fun f l => some (.mk 21 0 [] [f], l)) <|
   alt wIf l (fun l => run n .ifs fn lp l) <|
   alt wWhile l (fun l => andThen (run n .inner fn lp l) fun c l => andThen (run n (.body false) fn lp l) fun b l => some (.mk 23 0 [] [c, b], l)) <|
   alt wFor l (fun l => run n .loops fn lp l) <|
   alt wReturn l (fun l => if fn = false then none else alt [59] l (fun l => some (.mk 25 0 [] [], l)) (andThen (run n .expression fn lp l) fun e l => ended (.mk 25 0 [] [e]) l)) <|
   alt wBreak l (fun l => if lp = false then none else ended (.mk 26 0 [] []) l) <|
   alt wContinue l (fun l => if lp = false then none else ended (.mk 27 0 [] []) l) <|
   alt wThrow l (fun l => andThen (run n .expression fn lp l) fun e l => ended (.mk 28 0 [] [e]) l) <|
   alt wTry l (fun l => run n .tries fn lp l) <|
   peek [123] l (run n .block fn lp l) (andThen (run n .expression fn lp l) fun e l => ended (.mk 31 0 [] [e]) l)
 | n + 1, .expression, fn, lp, l => andThen (run n .cond fn lp l) fun e l =>
   alt [61] l (fun l => if e.kind = 5 ∨ e.kind = 12 ∨ e.kind = 13 then andThen (run n .expression fn lp l) fun v l => some (.mk 19 0 [] [e, v], l) else none) (some (e, l))
 | n + 1, .cond, fn, lp, l => andThen (run n (.binary 0) fn lp l) fun e l =>
   alt [63] l (fun l => andThen (run n .expression fn lp l) fun a l => must [58] l fun l => andThen (run n .expression fn lp l) fun b l => some (.mk 18 0 [] [e, a, b], l)) (some (e, l))
 | n + 1, .binary r, fn, lp, l => if r = 6 then run n .unary fn lp l else andThen (run n (.binary (r + 1)) fn lp l) fun e l => run n (.binGo r e) fn lp l
 | n + 1, .binGo r e, fn, lp, l => signs (ranks.getD r []) l (fun s l => andThen (run n (.binary (r + 1)) fn lp l) fun b l => run n (.binGo r (joined s e b)) fn lp l) (some (e, l))
 | n + 1, .unary, fn, lp, l => signs [[33], [45]] l (fun s l => andThen (run n .unary fn lp l) fun e l => some (.mk 14 0 s [e], l)) (andThen (run n .first fn lp l) fun e l => run n (.post e) fn lp l)
 | n + 1, .post e, fn, lp, l =>
   alt [40] l (fun l => andThen (run n (.some [41] .expression false []) fn lp l) fun ar l => run n (.post (.mk 11 0 [] (e :: ar.kids))) fn lp l) <|
   alt [91] l (fun l => andThen (run n .expression fn lp l) fun i l => must [93] l fun l => run n (.post (.mk 12 0 [] [e, i])) fn lp l) <|
   alt [46] l (fun l => named l fun nm l => run n (.post (.mk 13 0 nm [e])) fn lp l) (some (e, l))
 | n + 1, .first, fn, lp, l =>
   tok 2 l (fun t r => some (.mk 1 t.num [] [], r)) <| tok 3 l (fun t r => some (.mk 2 0 t.text [], r)) <| tok 1 l (fun t r => some (.mk 5 0 t.text [], r)) <|
   alt wTrue l (fun l => some (.mk 3 1 [] [], l)) <| alt wFalse l (fun l => some (.mk 3 0 [] [], l)) <| alt wNull l (fun l => some (.mk 4 0 [] [], l)) <|
   alt wFn l (fun l => run n (.function []) fn lp l) <|
   alt [91] l (fun l => andThen (run n (.some [93] .expression false []) fn lp l) fun ar l => some (.mk 6 0 [] ar.kids, l)) <|
   alt [123] l (fun l => andThen (run n (.some [125] .pair false []) fn lp l) fun ar l => some (.mk 7 0 [] ar.kids, l)) (run n .inner fn lp l)
 | n + 1, .some fin one more acc, fn, lp, l => alt fin l (fun r => some (.mk 0 0 [] acc, r)) (sep more l fun l => andThen (run n one fn lp l) fun x r => run n (.some fin one true (acc ++ [x])) fn lp r)
 | n + 1, .param, fn, lp, l => named l fun nm l => some (.mk 10 0 nm [], l)
 | n + 1, .pair, fn, lp, l => named l fun nm l => must [58] l fun l => andThen (run n .expression fn lp l) fun e l => some (.mk 8 0 nm [e], l)
def fuel (l : List Tk) : Nat := 20 * l.length + 20
def top : Nat → List Node → List Tk → Option (List Node)
 | _, acc, [] => some acc
 | 0, _, _ :: _ => none
 | n + 1, acc, t :: l => match run (fuel (t :: l)) .statement false false (t :: l) with
  | none => none
  | some (k, r) => top n (acc ++ [k]) r
mutual
def deep : Node → Nat
 | .mk _ _ _ l => deeps l + 1
def deeps : List Node → Nat
 | [] => 0
 | n :: l => max (deep n) (deeps l)
end
mutual
def same : Node → Node → Bool
 | .mk k n t l, .mk k' n' t' l' => decide (k = k') && (decide (n = n') && (decide (t = t') && sames l l'))
def sames : List Node → List Node → Bool
 | [], [] => true
 | a :: l, b :: m => same a b && sames l m
 | [], _ :: _ => false
 | _ :: _, [] => false
end
def tree (l : List Tk) : Option Node := (top l.length [] l).map (.mk 30 0 [])
def parse (s : Bs) : Except Nat Node := match Lexy.toks s with
 | .err e => .error e
 | .ok l => match tree (l.map (·.toTk)) with
  | none => .error 4
  | some n => if 40 < deep n then .error 2 else .ok n
theorem try1 : (match parse [120, 61, 49, 43, 50, 42, 40, 51, 45, 121, 41, 59] with | .ok n => deep n | .error e => 100 + e) = 7 := by decide +kernel
end Pars
namespace Lexy
theorem txtF_enough : ∀ (f g : Nat) (l : Bs), l.length ≤ f → l.length ≤ g → txtF f l = txtF g l := by
 intro f
 induction f with
 | zero =>
  intro g l hf hg
  have : l = [] := List.eq_nil_of_length_eq_zero (by omega)
  subst this
  cases g <;> simp [txtF]
 | succ f ih =>
  intro g l hf hg
  cases l with
  | nil => cases g <;> simp [txtF]
  | cons c r =>
   cases g with
   | zero => simp at hg
   | succ g =>
    simp only [List.length_cons] at hf hg
    simp only [txtF]
    by_cases h1 : (c == 34) = true
    ·rw [if_pos h1, if_pos h1]
    rw [if_neg h1, if_neg h1]
    by_cases h2 : c.toNat < 32
    ·rw [if_pos h2, if_pos h2]
    rw [if_neg h2, if_neg h2]
    by_cases h3 : (c == 92) = true
    ·rw [if_pos h3, if_pos h3]
     cases esc r with
     | none => rfl
     | some bn =>
      obtain ⟨b, n⟩ := bn
      simp only
      rw [ih g (r.drop n) (by simp; omega) (by simp; omega)]
    ·rw [if_neg h3, if_neg h3, ih g r (by omega) (by omega)]
theorem txt_nil : txt [] = none := by simp [txt, txtF]
theorem txt_cons (c : UInt8) (r : Bs) : txt (c :: r) =
  if c == 34 then some ([], 1)
  else if c.toNat < 32 then none
  else if c == 92 then
   match esc r with
   | none => none
   | some (b, n) => match txt (r.drop n) with
    | none => none
    | some (t, m) => some (b :: t, 1 + n + m)
  else match txt r with
   | none => none
   | some (t, m) => some (c :: t, 1 + m) := by
 have e : ∀ n, txt (r.drop n) = txtF r.length (r.drop n) := fun n => txtF_enough _ _ _ (Nat.le_refl _) (by simp)
 have e0 : txt r = txtF r.length r := rfl
 simp only [e, e0]
 rfl
def fin (acc : Bs) (k : Nat) (l : Bs) : Option (Bs × Nat) := (txt l).map fun x => (acc ++ x.1, k + x.2)
theorem fin_quote (acc : Bs) (k : Nat) (r : Bs) : fin acc k (34 :: r) = some (acc, k + 1) := by
 unfold fin; rw [txt_cons]; simp
theorem fin_low (acc : Bs) (k : Nat) {c : UInt8} (r : Bs) (h : c.toNat < 32) : fin acc k (c :: r) = none := by
 unfold fin; rw [txt_cons, if_neg (by intro hc; rw [eq_of_beq hc] at h; simp at h), if_pos h]; rfl
theorem fin_bad (acc : Bs) (k : Nat) (r : Bs) (h : esc r = none) : fin acc k (92 :: r) = none := by
 unfold fin; rw [txt_cons, if_neg (by decide), if_neg (by decide), if_pos (by decide), h]; rfl
theorem fin_esc (acc : Bs) (k : Nat) (r : Bs) {b : UInt8} {n : Nat} (h : esc r = some (b, n)) : fin acc k (92 :: r) = fin (acc ++ [b]) (k + 1 + n) (r.drop n) := by
 unfold fin; rw [txt_cons, if_neg (by decide), if_neg (by decide), if_pos (by decide), h]
 simp only
 cases txt (r.drop n) with
 | none => rfl
 | some x => simp; omega
theorem fin_byte (acc : Bs) (k : Nat) {c : UInt8} (r : Bs) (h1 : c ≠ 34) (h2 : ¬ c.toNat < 32) (h3 : c ≠ 92) : fin acc k (c :: r) = fin (acc ++ [c]) (k + 1) r := by
 unfold fin; rw [txt_cons, if_neg (by simpa using h1), if_neg h2, if_neg (by simpa using h3)]
 cases txt r with
 | none => rfl
 | some x => simp; omega
theorem fin_nil (acc : Bs) (k : Nat) : fin acc k [] = none := by unfold fin; rw [txt_nil]; rfl
end Lexy
namespace Lexy
def hexd (n : UInt8) : UInt8 := if n < 10 then n + 48 else n + 87
def qb (c : UInt8) : Bs :=
 if c == 34 || c == 92 then [92, c] else if c == 10 then [92, 110] else if c == 9 then [92, 116]
 else if decide (c.toNat < 32) || decide (126 < c.toNat) then [92, 120, hexd (c / 16), hexd (c % 16)] else [c]
def quote (l : Bs) : Bs := 34 :: (l.flatMap qb ++ [34])
theorem all_bytes {p : UInt8 → Prop} [DecidablePred p] (h : ∀ n : Fin 256, p (UInt8.ofNat n)) (c : UInt8) : p c := by
 have := h ⟨c.toNat, c.toNat_lt⟩
 simpa using this
theorem qb_len : ∀ c : UInt8, 1 ≤ (qb c).length ∧ (qb c).length ≤ 4 := all_bytes (by decide +kernel)
end Lexy
