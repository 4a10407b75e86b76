/-
  The lexer of scripts as plain functions on lists of bytes, and its laws: no program in sight.
  Conditions: none.
-/
namespace Lexy
abbrev Bs := List UInt8

def isLetter (c : UInt8) : Bool := (decide (97 ≤ c.toNat) && decide (c.toNat ≤ 122)) || (decide (65 ≤ c.toNat) && decide (c.toNat ≤ 90)) || c == 95
def isDigit (c : UInt8) : Bool := decide (48 ≤ c.toNat) && decide (c.toNat ≤ 57)
def isNameB (c : UInt8) : Bool := isLetter c || isDigit c
def isBlank (c : UInt8) : Bool := c == 32 || c == 9 || c == 10 || c == 13

/-- how many bytes are skipped; the flag: within a comment. -/
def skp : Bool → Bs → Nat
  | _, [] => 0
  | true, c :: r => if c == 10 then 1 + skp false r else 1 + skp true r
  | false, c :: r => if isBlank c then 1 + skp false r else if c == 47 && r.head? == some 47 then 1 + skp true r else 0

structure Tk where
  kind : Nat
  text : Bs
  num : Nat
  deriving DecidableEq

structure Tok extends Tk where
  lo : Nat
  hi : Nat
  deriving DecidableEq

inductive Res (α : Type) where
  | err (e : Nat)
  | ok (a : α)
  deriving DecidableEq

def kws : List Bs := [[108, 101, 116], [102, 110], [105, 102], [101, 108, 115, 101], [119, 104, 105, 108, 101], [102, 111, 114], [111, 102], [114, 101, 116, 117, 114, 110], [98, 114, 101, 97, 107], [99, 111, 110, 116, 105, 110, 117, 101], [116, 104, 114, 111, 119], [116, 114, 121], [99, 97, 116, 99, 104], [102, 105, 110, 97, 108, 108, 121], [116, 114, 117, 101], [102, 97, 108, 115, 101], [110, 117, 108, 108]]
def signs : List Bs := [[61, 61], [33, 61], [60, 61], [62, 61], [38, 38], [124, 124], [61], [33], [60], [62], [43], [45], [42], [47], [37], [40], [41], [91], [93], [123], [125], [44], [59], [58], [46], [63]]

/-- the number of digits, till it is too large (none). -/
def numF : Nat → Bs → Option Nat
  | n, [] => some n
  | n, c :: r => if 9007199254740992 < 10 * n + (c.toNat - 48) then none else numF (10 * n + (c.toNat - 48)) r

def hexv (c : UInt8) : Option UInt8 :=
  if 48 ≤ c.toNat ∧ c.toNat ≤ 57 then some (c - 48) else if 97 ≤ c.toNat ∧ c.toNat ≤ 102 then some (c - 87) else none

/-- behind a backslash: the byte, and how many it takes. -/
def esc : Bs → Option (UInt8 × Nat)
  | [] => none
  | c :: r => if c == 34 || c == 92 then some (c, 1) else if c == 110 then some (10, 1) else if c == 116 then some (9, 1)
    else if c == 120 then match r with
      | a :: b :: _ => match hexv a, hexv b with
        | some x, some y => some (x * 16 + y, 3)
        | _, _ => none
      | _ => none
    else none

/-- behind the opening quote, by fuel: what it says, and how many bytes it takes with the closing quote. -/
def txtF : Nat → Bs → Option (Bs × Nat)
  | 0, _ => none
  | _, [] => none
  | f + 1, c :: r =>
    if c == 34 then some ([], 1)
    else if c.toNat < 32 then none
    else if c == 92 then
      match esc r with
      | none => none
      | some (b, n) => match txtF f (r.drop n) with
        | none => none
        | some (t, m) => some (b :: t, 1 + n + m)
    else match txtF f r with
      | none => none
      | some (t, m) => some (c :: t, 1 + m)
def txt (l : Bs) : Option (Bs × Nat) := txtF l.length l

def nameLen (l : Bs) : Nat := (l.takeWhile isNameB).length
def digLen (l : Bs) : Nat := (l.takeWhile isDigit).length

def sign (l : Bs) : Res (Tk × Nat) :=
  if 2 ≤ l.length ∧ l.take 2 ∈ signs then .ok (⟨4, l.take 2, 0⟩, 2)
  else if 1 ≤ l.length ∧ l.take 1 ∈ signs then .ok (⟨4, l.take 1, 0⟩, 1)
  else .err 4

/-- the next token of a text that is not empty. -/
def next (l : Bs) : Res (Tk × Nat) :=
  match l with
  | [] => .err 4
  | c :: r =>
    if isLetter c then
      let w := l.take (nameLen l)
      .ok (⟨if w ∈ kws then 5 else 1, w, 0⟩, nameLen l)
    else if isDigit c then
      match numF 0 (l.take (digLen l)) with
      | none => .err 2
      | some n => if ((l.drop (digLen l)).head?.map isLetter).getD false then .err 4 else .ok (⟨2, [], n⟩, digLen l)
    else if c == 34 then
      match txt r with
      | none => .err 4
      | some (t, m) => .ok (⟨3, t, 0⟩, 1 + m)
    else sign l

def toksR : Nat → Nat → Bs → Res (List Tok)
  | rem, p, l =>
    match l.drop (skp false l) with
    | [] => .ok []
    | c :: r => match next (c :: r) with
      | .err e => .err e
      | .ok (t, n) => match rem with
        | 0 => .err 2
        | rem + 1 => match toksR rem (p + skp false l + n) ((c :: r).drop n) with
          | .err e => .err e
          | .ok ts => .ok (⟨t, p + skp false l, p + skp false l + n⟩ :: ts)

def toks (l : Bs) : Res (List Tok) := if 2000 < l.length then .err 2 else toksR 1000 0 l

end Lexy
namespace Lexy

theorem skp_le : ∀ (b : Bool) (l : Bs), skp b l ≤ l.length
  | b, [] => by cases b <;> simp [skp]
  | true, c :: r => by
    have h1 := skp_le false r
    have h2 := skp_le true r
    simp only [skp, List.length_cons]
    split <;> omega
  | false, c :: r => by
    have h1 := skp_le false r
    have h2 := skp_le true r
    simp only [skp, List.length_cons]
    split
    · omega
    · split <;> omega

/-- What is behind what was skipped is not skipped. -/
theorem skp_idem : ∀ (b : Bool) (l : Bs), skp false (l.drop (skp b l)) = 0
  | b, [] => by cases b <;> simp [skp]
  | true, c :: r => by
    simp only [skp]
    split
    · rw [Nat.add_comm, List.drop_succ_cons]; exact skp_idem false r
    · rw [Nat.add_comm, List.drop_succ_cons]; exact skp_idem true r
  | false, c :: r => by
    simp only [skp]
    split
    · rw [Nat.add_comm, List.drop_succ_cons]; exact skp_idem false r
    · split
      · rw [Nat.add_comm, List.drop_succ_cons]; exact skp_idem true r
      · rename_i h1 h2
        simp [skp, h1, h2]

/-- A gap, and something behind it: the gap is skipped whatever stands behind. -/
theorem skp_gap : ∀ (b : Bool) (g x : Bs), x ≠ [] → skp b (g ++ x) = g.length → (b = true → g ≠ [] ) → ∀ y, skp b (g ++ y) = g.length + skp false y
  | b, [], x, hx, hg, hb, y => by
    cases b with
    | false => simp
    | true => simp at hb
  | true, c :: g, x, hx, hg, hb, y => by
    simp only [List.cons_append, skp, List.length_cons] at hg ⊢
    split at hg
    · rename_i hc
      rw [if_pos hc, skp_gap false g x hx (by omega) (by simp)]; omega
    · rename_i hc
      have hne : g ≠ [] := by
        rintro rfl
        cases x with
        | nil => exact hx rfl
        | cons a x =>
          simp only [List.nil_append, List.length_nil, skp] at hg
          split at hg <;> omega
      rw [if_neg hc, skp_gap true g x hx (by omega) (fun _ => hne)]; omega
  | false, c :: g, x, hx, hg, hb, y => by
    simp only [List.cons_append, skp, List.length_cons] at hg ⊢
    split at hg
    · rename_i hc
      rw [if_pos hc, skp_gap false g x hx (by omega) (by simp)]; omega
    · rename_i hc
      rw [if_neg hc]
      split at hg
      · rename_i h2
        have hne : g ≠ [] := by
          rintro rfl
          cases x with
          | nil => exact hx rfl
          | cons a x =>
            simp only [List.nil_append, List.length_nil, skp] at hg
            split at hg <;> omega
        have hh : (g ++ y).head? = (g ++ x).head? := by
          cases g with
          | nil => exact absurd rfl hne
          | cons a g => rfl
        rw [hh, if_pos h2, skp_gap true g x hx (by omega) (fun _ => hne)]; omega
      · omega

/-- A gap alone. -/
theorem skp_own : ∀ (b : Bool) (l : Bs), skp b (l.take (skp b l)) = skp b l
  | b, [] => by cases b <;> simp [skp]
  | true, c :: r => by
    by_cases hc : (c == 10) = true
    · have h : skp true (c :: r) = skp false r + 1 := by simp [skp, hc, Nat.add_comm]
      rw [h, List.take_succ_cons]
      simp only [skp, hc, if_true]
      rw [skp_own false r]; omega
    · have h : skp true (c :: r) = skp true r + 1 := by simp [skp, hc, Nat.add_comm]
      rw [h, List.take_succ_cons]
      simp only [skp, hc]
      simp [skp_own true r]; omega
  | false, c :: r => by
    by_cases hc : isBlank c = true
    · have h : skp false (c :: r) = skp false r + 1 := by simp [skp, hc, Nat.add_comm]
      rw [h, List.take_succ_cons]
      simp only [skp, hc, if_true]
      rw [skp_own false r]; omega
    · by_cases h2 : (c == 47 && r.head? == some 47) = true
      · have h : skp false (c :: r) = skp true r + 1 := by simp [skp, hc, h2, Nat.add_comm]
        rw [h, List.take_succ_cons]
        have hr : (r.take (skp true r)).head? = r.head? := by
          cases r with
          | nil => simp
          | cons a r =>
            have : 0 < skp true (a :: r) := by simp only [skp]; split <;> omega
            obtain ⟨k, hk⟩ : ∃ k, skp true (a :: r) = k + 1 := ⟨_, (Nat.succ_pred_eq_of_pos this).symm⟩
            rw [hk]; rfl
        simp only [skp, hc, hr, h2, if_true]
        rw [skp_own true r]
        simp; omega
      · have h : skp false (c :: r) = 0 := by simp [skp, hc, h2]
        rw [h]; simp [skp]

theorem skp_nl : ∀ (b : Bool) (l r : Bs), skp b (l ++ 10 :: r) = if skp b l < l.length then skp b l else l.length + 1 + skp false r
  | b, [], r => by cases b <;> simp [skp, isBlank]
  | true, c :: l, r => by
    simp only [List.cons_append, skp, List.length_cons]
    have h1 := skp_nl false l r
    have h2 := skp_nl true l r
    split
    · rw [h1]; split <;> split <;> omega
    · rw [h2]; split <;> split <;> omega
  | false, c :: l, r => by
    simp only [List.cons_append, skp, List.length_cons]
    have h1 := skp_nl false l r
    have h2 := skp_nl true l r
    have hh : ((l ++ 10 :: r).head? == some 47) = (l.head? == some 47) := by cases l <;> simp
    rw [hh]
    split
    · rw [h1]; split <;> split <;> omega
    · split
      · rw [h2]; split <;> split <;> omega
      · simp

end Lexy
namespace Lexy

def Soft (y x : Bs) : Prop := y.head? = x.head? ∨ ∀ c, y.head? = some c → c = 10 ∨ c = 32

/-- How far a run of bytes goes does not hang on what softly stands behind. -/
theorem run_swap (p : UInt8 → Bool) (hp10 : p 10 = false) (hp32 : p 32 = false) {x y : Bs} (h : Soft y x) :
    ∀ a : Bs, (∀ c ∈ a, p c = true) → (x.head?.all (fun c => !p c)) = true → ((a ++ y).takeWhile p).length = a.length ∧ (y.head?.all (fun c => !p c)) = true := by
  intro a ha hx
  have hy : (y.head?.all (fun c => !p c)) = true := by
    rcases h with h | h
    · rw [h]; exact hx
    · cases hy : y.head? with
      | none => rfl
      | some c => rcases h c hy with rfl | rfl <;> simp [hp10, hp32]
  refine ⟨?_, hy⟩
  rw [List.takeWhile_append_of_pos ha]
  cases y with
  | nil => simp
  | cons c r =>
    simp only [List.head?_cons, Option.all_some, Bool.not_eq_true'] at hy
    simp [hy]

theorem take_tw (p : UInt8 → Bool) : ∀ l : Bs, l.take (l.takeWhile p).length = l.takeWhile p
  | [] => by simp
  | c :: r => by
    simp only [List.takeWhile_cons]
    split
    · simp [take_tw p r]
    · simp
theorem drop_tw (p : UInt8 → Bool) : ∀ l : Bs, (l.drop (l.takeWhile p).length).head?.all (fun c => !p c) = true
  | [] => by simp
  | c :: r => by
    simp only [List.takeWhile_cons]
    split
    · simpa using drop_tw p r
    · simp_all
theorem all_tw (p : UInt8 → Bool) (l : Bs) : ∀ c ∈ l.takeWhile p, p c = true := by
  induction l with
  | nil => simp
  | cons d r ih =>
    intro c hc
    simp only [List.takeWhile_cons] at hc
    split at hc
    · rcases List.mem_cons.1 hc with rfl | h
      · assumption
      · exact ih c h
    · cases hc

/-- a run that is just a. -/
theorem run_eq (p : UInt8 → Bool) {a x : Bs} (h : ((a ++ x).takeWhile p).length = a.length) : (∀ c ∈ a, p c = true) ∧ x.head?.all (fun c => !p c) = true := by
  have h1 := take_tw p (a ++ x)
  rw [h, List.take_left'] at h1
  · have h2 := drop_tw p (a ++ x)
    rw [h, List.drop_left'] at h2
    · refine ⟨fun c hc => all_tw p (a ++ x) c (h1 ▸ hc), h2⟩
    · rfl
  · rfl

theorem name10 : isNameB 10 = false := by decide
theorem name32 : isNameB 32 = false := by decide
theorem dig10 : isDigit 10 = false := by decide
theorem dig32 : isDigit 32 = false := by decide
theorem let10 : isLetter 10 = false := by decide
theorem let32 : isLetter 32 = false := by decide

theorem esc_app {l z : Bs} {b : UInt8} {n : Nat} (h : esc l = some (b, n)) : esc (l ++ z) = some (b, n) ∧ n ≤ l.length ∧ 0 < n := by
  cases l with
  | nil => simp [esc] at h
  | cons c r =>
    simp only [esc, List.cons_append] at h ⊢
    by_cases h1 : (c == 34 || c == 92) = true
    · rw [if_pos h1] at h ⊢; simp at h; obtain ⟨rfl, rfl⟩ := h; simp
    rw [if_neg h1] at h ⊢
    by_cases h2 : (c == 110) = true
    · rw [if_pos h2] at h ⊢; simp at h; obtain ⟨rfl, rfl⟩ := h; simp
    rw [if_neg h2] at h ⊢
    by_cases h3 : (c == 116) = true
    · rw [if_pos h3] at h ⊢; simp at h; obtain ⟨rfl, rfl⟩ := h; simp
    rw [if_neg h3] at h ⊢
    by_cases h4 : (c == 120) = true
    · rw [if_pos h4] at h ⊢
      match r, h with
      | a :: b' :: r', h =>
        simp only [List.cons_append]
        simp only at h
        cases ha : hexv a with
        | none => rw [ha] at h; simp at h
        | some x =>
          cases hb : hexv b' with
          | none => rw [ha, hb] at h; simp at h
          | some y => rw [ha, hb] at h; simp at h; obtain ⟨rfl, rfl⟩ := h; simp
    · rw [if_neg h4] at h; simp at h

theorem txtF_app : ∀ (f k : Nat) (l z t : Bs) (m : Nat), txtF f l = some (t, m) → txtF (f + k) (l ++ z) = some (t, m) ∧ m ≤ l.length ∧ 0 < m := by
  intro f
  induction f with
  | zero => intro k l z t m h; simp [txtF] at h
  | succ f ih =>
    intro k l z t m h
    cases l with
    | nil => simp [txtF] at h
    | cons c r =>
      rw [show f + 1 + k = (f + k) + 1 by omega]
      simp only [txtF, List.cons_append] at h ⊢
      by_cases h1 : (c == 34) = true
      · rw [if_pos h1] at h ⊢; simp at h; obtain ⟨rfl, rfl⟩ := h; simp
      rw [if_neg h1] at h ⊢
      by_cases h2 : c.toNat < 32
      · rw [if_pos h2] at h; simp at h
      rw [if_neg h2] at h ⊢
      by_cases h3 : (c == 92) = true
      · rw [if_pos h3] at h ⊢
        cases he : esc r with
        | none => rw [he] at h; simp at h
        | some bn =>
          obtain ⟨b, n⟩ := bn
          obtain ⟨e1, e2, e3⟩ := esc_app (z := z) he
          rw [he] at h
          rw [e1]
          simp only at h ⊢
          cases hr : txtF f (r.drop n) with
          | none => rw [hr] at h; simp at h
          | some tm =>
            obtain ⟨t', m'⟩ := tm
            rw [hr] at h
            simp at h
            obtain ⟨rfl, rfl⟩ := h
            obtain ⟨i1, i2, i3⟩ := ih k _ z _ _ hr
            rw [List.drop_append_of_le_length e2, i1]
            simp at i2 ⊢
            omega
      · rw [if_neg h3] at h ⊢
        cases hr : txtF f r with
        | none => rw [hr] at h; simp at h
        | some tm =>
          obtain ⟨t', m'⟩ := tm
          rw [hr] at h
          simp at h
          obtain ⟨rfl, rfl⟩ := h
          obtain ⟨i1, i2, i3⟩ := ih k _ z _ _ hr
          rw [i1]
          simp
          omega

/-- the text is told by its own bytes alone. -/
theorem txtF_take : ∀ (f : Nat) (l t : Bs) (m : Nat), txtF f l = some (t, m) → txtF m (l.take m) = some (t, m) := by
  intro f
  induction f with
  | zero => intro l t m h; simp [txtF] at h
  | succ f ih =>
    intro l t m h
    cases l with
    | nil => simp [txtF] at h
    | cons c r =>
      simp only [txtF] at h
      by_cases h1 : (c == 34) = true
      · rw [if_pos h1] at h; simp at h; obtain ⟨rfl, rfl⟩ := h; simp [txtF, h1]
      rw [if_neg h1] at h
      by_cases h2 : c.toNat < 32
      · rw [if_pos h2] at h; simp at h
      rw [if_neg h2] at h
      by_cases h3 : (c == 92) = true
      · rw [if_pos h3] at h
        cases he : esc r with
        | none => rw [he] at h; simp at h
        | some bn =>
          obtain ⟨b, n⟩ := bn
          obtain ⟨_, e2, e3⟩ := esc_app (z := []) he
          rw [he] at h
          simp only at h
          cases hr : txtF f (r.drop n) with
          | none => rw [hr] at h; simp at h
          | some tm =>
            obtain ⟨t', m'⟩ := tm
            rw [hr] at h
            simp at h
            obtain ⟨rfl, rfl⟩ := h
            have i1 := ih _ _ _ hr
            obtain ⟨_, i2, i3⟩ := txtF_app _ 0 _ [] _ _ hr
            have hesc : esc (r.take (n + m')) = some (b, n) := by
              have : r.take (n + m') = r.take n ++ (r.drop n).take m' := by rw [List.take_add]
              rw [this]
              have e : esc (r.take n) = some (b, n) := by
                clear i1 i2 hr
                cases r with
                | nil => simp [esc] at he
                | cons d q =>
                  simp only [esc] at he
                  by_cases g1 : (d == 34 || d == 92) = true
                  · rw [if_pos g1] at he; simp at he; obtain ⟨rfl, rfl⟩ := he; simp only [List.take_succ_cons, esc]; rw [if_pos g1]
                  rw [if_neg g1] at he
                  by_cases g2 : (d == 110) = true
                  · rw [if_pos g2] at he; simp at he; obtain ⟨rfl, rfl⟩ := he; simp only [List.take_succ_cons, esc]; rw [if_neg g1, if_pos g2]
                  rw [if_neg g2] at he
                  by_cases g3 : (d == 116) = true
                  · rw [if_pos g3] at he; simp at he; obtain ⟨rfl, rfl⟩ := he; simp only [List.take_succ_cons, esc]; rw [if_neg g1, if_neg g2, if_pos g3]
                  rw [if_neg g3] at he
                  by_cases g4 : (d == 120) = true
                  · rw [if_pos g4] at he
                    match q, he with
                    | a :: b' :: r', he =>
                      have hn : n = 3 := by
                        simp only at he
                        cases ha : hexv a with
                        | none => rw [ha] at he; simp at he
                        | some x =>
                          cases hb : hexv b' with
                          | none => rw [ha, hb] at he; simp at he
                          | some y => rw [ha, hb] at he; simp at he; exact he.2.symm
                      subst hn
                      simp only [List.take_succ_cons, esc]
                      rw [if_neg g1, if_neg g2, if_neg g3, if_pos g4]
                      exact he
                  · rw [if_neg g4] at he; simp at he
              exact (esc_app e).1
            rw [show 1 + n + m' = (n + m') + 1 by omega, List.take_succ_cons]
            simp only [txtF]
            rw [if_neg h1, if_neg h2, if_pos h3, hesc]
            simp only
            have hd : (r.take (n + m')).drop n = (r.drop n).take m' := by rw [List.drop_take]; congr 1; omega
            rw [hd]
            have i4 := (txtF_app m' n _ [] _ _ i1).1
            rw [List.append_nil, Nat.add_comm m' n] at i4
            rw [i4]
            simp; omega
      · rw [if_neg h3] at h
        cases hr : txtF f r with
        | none => rw [hr] at h; simp at h
        | some tm =>
          obtain ⟨t', m'⟩ := tm
          rw [hr] at h
          simp at h
          obtain ⟨rfl, rfl⟩ := h
          have i1 := ih _ _ _ hr
          rw [show 1 + m' = m' + 1 by omega, List.take_succ_cons]
          simp only [txtF]
          rw [if_neg h1, if_neg h2, if_neg h3, i1]
          simp; omega

end Lexy
namespace Lexy

theorem kws_ne : ([] : Bs) ∉ kws := by decide
theorem sign2 (c d : UInt8) (hd : d = 10 ∨ d = 32) : [c, d] ∉ signs := by
  rcases hd with rfl | rfl <;> simp [signs]

theorem sign_swap {a x y : Bs} {t : Tk} (h : sign (a ++ x) = .ok (t, a.length)) (hs : Soft y x) : sign (a ++ y) = .ok (t, a.length) ∧ 0 < a.length := by
  unfold sign at h ⊢
  by_cases h2 : 2 ≤ (a ++ x).length ∧ (a ++ x).take 2 ∈ signs
  · rw [if_pos h2] at h
    simp only [Res.ok.injEq, Prod.mk.injEq] at h
    obtain ⟨rfl, hl⟩ := h
    have e : ∀ z : Bs, (a ++ z).take 2 = a := fun z => by rw [List.take_append_of_le_length (by omega), hl]; exact List.take_length
    have hy : 2 ≤ (a ++ y).length ∧ (a ++ y).take 2 ∈ signs := ⟨by simp; omega, by rw [e y, ← e x]; exact h2.2⟩
    rw [if_pos hy, e y, e x, ← hl]
    simp
  · rw [if_neg h2] at h
    by_cases h1 : 1 ≤ (a ++ x).length ∧ (a ++ x).take 1 ∈ signs
    · rw [if_pos h1] at h
      simp only [Res.ok.injEq, Prod.mk.injEq] at h
      obtain ⟨rfl, hl⟩ := h
      match a, hl with
      | [c], _ =>
        have hn : ¬ (2 ≤ ([c] ++ y).length ∧ ([c] ++ y).take 2 ∈ signs) := by
          rintro ⟨hy1, hy2⟩
          cases y with
          | nil => simp at hy1
          | cons d r =>
            rcases hs with hs | hs
            · cases x with
              | nil => simp at hs
              | cons d' r' =>
                simp at hs
                subst hs
                exact h2 ⟨by simp, by simpa using hy2⟩
            · exact sign2 c d (hs d rfl) (by simpa using hy2)
        rw [if_neg hn, if_pos ⟨by simp, by simpa using h1.2⟩]
        simp
    · rw [if_neg h1] at h
      cases h

/-- The next token does not hang on what softly stands behind it. -/
theorem next_swap {a x y : Bs} {t : Tk} (h : next (a ++ x) = .ok (t, a.length)) (hs : Soft y x) : next (a ++ y) = .ok (t, a.length) ∧ 0 < a.length := by
  cases a with
  | nil =>
    exfalso
    cases x with
    | nil => simp [next] at h
    | cons c r =>
      simp only [List.nil_append, next] at h
      by_cases h1 : isLetter c = true
      · rw [if_pos h1] at h
        simp [nameLen, isNameB, h1] at h
      rw [if_neg h1] at h
      by_cases h2 : isDigit c = true
      · rw [if_pos h2] at h
        split at h
        · cases h
        · split at h
          · cases h
          · simp [digLen, h2] at h
      rw [if_neg h2] at h
      by_cases h3 : (c == 34) = true
      · rw [if_pos h3] at h
        split at h
        · cases h
        · simp only [Res.ok.injEq, Prod.mk.injEq, List.length_nil] at h; omega
      rw [if_neg h3] at h
      have := (sign_swap (a := []) (x := c :: r) (y := c :: r) h (.inl rfl)).2
      simp at this
  | cons c r =>
    refine ⟨?_, by simp⟩
    have happ : ∀ z, (c :: r) ++ z = c :: (r ++ z) := fun z => rfl
    rw [happ] at h ⊢
    simp only [next] at h ⊢
    by_cases h1 : isLetter c = true
    · rw [if_pos h1] at h ⊢
      simp only [Res.ok.injEq, Prod.mk.injEq] at h
      obtain ⟨ht, hl⟩ := h
      have hr := run_eq isNameB (a := c :: r) (x := x) hl
      have hz := run_swap isNameB name10 name32 hs (c :: r) hr.1 hr.2
      have hy : nameLen (c :: (r ++ y)) = (c :: r).length := hz.1
      rw [hy]
      rw [hl] at ht
      have e : ∀ z, List.take (c :: r).length (c :: (r ++ z)) = c :: r := fun z => by rw [← happ]; exact List.take_left' rfl
      rw [e] at ht ⊢
      rw [ht]
    rw [if_neg h1] at h ⊢
    by_cases h2 : isDigit c = true
    · rw [if_pos h2] at h ⊢
      have e : ∀ z, List.take (c :: r).length (c :: (r ++ z)) = c :: r := fun z => by rw [← happ]; exact List.take_left' rfl
      have ed : ∀ z, List.drop (c :: r).length (c :: (r ++ z)) = z := fun z => by rw [← happ]; exact List.drop_left' rfl
      have hl : digLen (c :: (r ++ x)) = (c :: r).length := by
        split at h
        · cases h
        · split at h
          · cases h
          · simp only [Res.ok.injEq, Prod.mk.injEq] at h; exact h.2
      have hr := run_eq isDigit (a := c :: r) (x := x) hl
      have hz := run_swap isDigit dig10 dig32 hs (c :: r) hr.1 hr.2
      have hy : digLen (c :: (r ++ y)) = (c :: r).length := hz.1
      rw [hy]
      rw [hl] at h
      rw [e, ed] at h ⊢
      cases hn : numF 0 (c :: r) with
      | none => rw [hn] at h; cases h
      | some n =>
        rw [hn] at h
        simp only at h ⊢
        by_cases hx : (x.head?.map isLetter).getD false = true
        · rw [if_pos hx] at h; cases h
        · rw [if_neg hx] at h
          have hy : ¬ (y.head?.map isLetter).getD false = true := by
            rcases hs with hs | hs
            · rw [hs]; exact hx
            · cases hc : y.head? with
              | none => simp
              | some d => rcases hs d hc with rfl | rfl <;> simp [let10, let32]
          rw [if_neg hy]
          exact h
    rw [if_neg h2] at h ⊢
    by_cases h3 : (c == 34) = true
    · rw [if_pos h3] at h ⊢
      cases hx : txt (r ++ x) with
      | none => rw [hx] at h; cases h
      | some tm =>
        obtain ⟨t', m⟩ := tm
        rw [hx] at h
        simp only [Res.ok.injEq, Prod.mk.injEq, List.length_cons] at h
        obtain ⟨rfl, hm⟩ := h
        obtain rfl : m = r.length := by omega
        have i1 := txtF_take _ _ _ _ hx
        rw [List.take_left' rfl] at i1
        have i2 := (txtF_app _ ((r ++ y).length - r.length) _ y _ _ i1).1
        have hy : txt (r ++ y) = some (t', r.length) := by
          unfold txt
          rw [show (r ++ y).length = r.length + ((r ++ y).length - r.length) by simp]
          exact i2
        rw [hy]
        simp only [List.length_cons, Nat.add_comm]
    rw [if_neg h3] at h ⊢
    exact (sign_swap (a := c :: r) h hs).1

theorem sign_len {l : Bs} {t : Tk} {n : Nat} (h : sign l = .ok (t, n)) : n ≤ l.length := by
  unfold sign at h
  split at h
  · simp at h; omega
  · split at h
    · simp at h; omega
    · cases h
theorem next_len {l : Bs} {t : Tk} {n : Nat} (h : next l = .ok (t, n)) : n ≤ l.length := by
  cases l with
  | nil => simp [next] at h
  | cons c r =>
    simp only [next] at h
    split at h
    · simp only [Res.ok.injEq, Prod.mk.injEq] at h
      rw [← h.2]
      exact List.Sublist.length_le (List.takeWhile_sublist _)
    · split at h
      · split at h
        · cases h
        · split at h
          · cases h
          · simp only [Res.ok.injEq, Prod.mk.injEq] at h
            rw [← h.2]
            exact List.Sublist.length_le (List.takeWhile_sublist _)
      · split at h
        · split at h
          · cases h
          · rename_i htx
            simp only [Res.ok.injEq, Prod.mk.injEq] at h
            have := (txtF_app _ 0 _ [] _ _ htx).2.1
            simp; omega
        · exact sign_len h

/-- The same by what is taken. -/
theorem next_split {l : Bs} {t : Tk} {n : Nat} (h : next l = .ok (t, n)) : l = l.take n ++ l.drop n ∧ (l.take n).length = n ∧ 0 < n ∧ ∀ y, Soft y (l.drop n) → next (l.take n ++ y) = .ok (t, n) := by
  have hn := next_len h
  have hl : (l.take n).length = n := by simp; omega
  have h0 : next (l.take n ++ l.drop n) = .ok (t, (l.take n).length) := by rw [List.take_append_drop, hl]; exact h
  refine ⟨(List.take_append_drop n l).symm, hl, ?_, fun y hy => ?_⟩
  · have := (next_swap h0 (.inl rfl)).2; omega
  · have := (next_swap h0 hy).1; rwa [hl] at this

theorem toksR_eq (rem p : Nat) (l : Bs) : toksR rem p l =
    match l.drop (skp false l) with
    | [] => .ok []
    | c :: r => match next (c :: r) with
      | .err e => .err e
      | .ok (t, n) => match rem with
        | 0 => .err 2
        | rem + 1 => match toksR rem (p + skp false l + n) ((c :: r).drop n) with
          | .err e => .err e
          | .ok ts => .ok (⟨t, p + skp false l, p + skp false l + n⟩ :: ts) := by
  rw [toksR.eq_def]

/-- What it is that a text is read as a list. -/
inductive Lex : Nat → Bs → List Tok → Prop where
  | done (p : Nat) (l : Bs) : l.drop (skp false l) = [] → Lex p l []
  | more (p : Nat) (l : Bs) (t : Tk) (n : Nat) (ts : List Tok) : l.drop (skp false l) ≠ [] → next (l.drop (skp false l)) = .ok (t, n) →
      Lex (p + skp false l + n) ((l.drop (skp false l)).drop n) ts → Lex p l (⟨t, p + skp false l, p + skp false l + n⟩ :: ts)

theorem lex_of : ∀ (rem p : Nat) (l : Bs) (ts : List Tok), toksR rem p l = .ok ts → Lex p l ts ∧ ts.length ≤ rem := by
  intro rem
  induction rem with
  | zero =>
    intro p l ts h
    rw [toksR_eq] at h
    cases hd : l.drop (skp false l) with
    | nil => rw [hd] at h; simp only [Res.ok.injEq] at h; subst h; exact ⟨.done _ _ hd, by simp⟩
    | cons c r =>
      rw [hd] at h
      simp only at h
      cases hn : next (c :: r) with
      | err e => rw [hn] at h; cases h
      | ok tn => rw [hn] at h; cases h
  | succ rem ih =>
    intro p l ts h
    rw [toksR_eq] at h
    cases hd : l.drop (skp false l) with
    | nil => rw [hd] at h; simp only [Res.ok.injEq] at h; subst h; exact ⟨.done _ _ hd, by simp⟩
    | cons c r =>
      rw [hd] at h
      simp only at h
      cases hn : next (c :: r) with
      | err e => rw [hn] at h; cases h
      | ok tn =>
        obtain ⟨t, n⟩ := tn
        rw [hn] at h
        simp only at h
        cases ht : toksR rem (p + skp false l + n) ((c :: r).drop n) with
        | err e => rw [ht] at h; cases h
        | ok ts' =>
          rw [ht] at h
          simp only [Res.ok.injEq] at h
          subst h
          obtain ⟨i1, i2⟩ := ih _ _ _ ht
          exact ⟨.more _ _ _ _ _ (by rw [hd]; simp) (by rw [hd]; exact hn) (by rw [hd]; exact i1), by simp; omega⟩

theorem of_lex {p : Nat} {l : Bs} {ts : List Tok} (h : Lex p l ts) : ∀ rem, toksR rem p l = if ts.length ≤ rem then .ok ts else .err 2 := by
  induction h with
  | done p l hd => intro rem; rw [toksR_eq, hd]; simp
  | more p l t n ts hne hn _ ih =>
    intro rem
    rw [toksR_eq]
    cases hd : l.drop (skp false l) with
    | nil => exact absurd hd hne
    | cons c r =>
      rw [hd] at hn ih
      simp only
      rw [hn]
      simp only
      cases rem with
      | zero => simp
      | succ rem =>
        simp only [List.length_cons, Nat.add_le_add_iff_right]
        rw [ih rem]
        by_cases hle : ts.length ≤ rem
        · rw [if_pos hle, if_pos hle]
        · rw [if_neg hle, if_neg hle]

end Lexy
