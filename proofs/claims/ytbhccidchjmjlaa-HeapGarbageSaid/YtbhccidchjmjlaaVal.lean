/-
  The values of scripts as plain functions on numbers and lists of bytes, and their laws: no program in sight.
  Conditions: none.
-/
import Derived.Lib.ItoaNum
import Derived.Lib.Bytealg
import Derived.Lib.Small
namespace Valu
abbrev Bs := List UInt8

structure V where
  k : Int
  n : Int
  s : Bs
  deriving DecidableEq

def null : V := ⟨0, 0, []⟩
def num (n : Int) : V := ⟨2, n, []⟩
def txt (s : Bs) : V := ⟨3, 0, s⟩
def big : Int := 9007199254740992

def within (n low high : Int) : Bool := decide (low ≤ n) && decide (n ≤ high)

def check (v : V) : Bool :=
  if v.k = 0 then decide (v.n = 0) && decide (v.s = [])
  else if v.k = 1 then within v.n 0 1 && decide (v.s = [])
  else if v.k = 2 then within v.n (-big) big && decide (v.s = [])
  else if v.k = 3 then decide (v.s.length ≤ 2000) && decide (v.n = 0)
  else if v.k = 4 then decide (0 ≤ v.n) && decide (v.s = [])
  else if v.k = 5 then decide (v.n = 0)
  else false

def right (v : V) : V := if check v = true then v else null

/-- of a value that is right. -/
def truthR (v : V) : Bool :=
  if v.k = 0 then false
  else if v.k = 1 ∨ v.k = 2 then decide (v.n ≠ 0)
  else if v.k = 3 then decide (v.s ≠ [])
  else true
def truthy (v : V) : Bool := truthR (right v)
def truth (b : Bool) : V := ⟨1, if b = true then 1 else 0, []⟩

/-- the words. -/
def kNull : Bs := [110, 117, 108, 108]
def kBool : Bs := [98, 111, 111, 108]
def kNumber : Bs := [110, 117, 109, 98, 101, 114]
def kText : Bs := [116, 101, 120, 116]
def kRef : Bs := [114, 101, 102]
def kCall : Bs := [99, 97, 108, 108]
def sKind : Bs := [107, 105, 110, 100]
def sRange : Bs := [114, 97, 110, 103, 101]
def sZero : Bs := [122, 101, 114, 111]
def sLarge : Bs := [108, 97, 114, 103, 101]

def kindR (v : V) : Bs :=
  if v.k = 0 then kNull else if v.k = 1 then kBool else if v.k = 2 then kNumber else if v.k = 3 then kText else if v.k = 4 then kRef else kCall
def kind (v : V) : Bs := kindR (right v)

def textR (v : V) : Bs :=
  if v.k = 1 then Go.Lib.formatBool (decide (v.n = 1))
  else if v.k = 2 then Go.Lib.itoa v.n
  else if v.k = 3 then v.s
  else if v.k = 4 then [91, 114, 101, 102, 93]
  else if v.k = 5 then [91, 99, 97, 108, 108, 32] ++ v.s ++ [93]
  else kNull
def text (v : V) : Bs := textR (right v)

def same (a b : V) : Bool := decide (right a = right b)

/-- a number, if it may be one. -/
def number (n : Int) : V × Bs := if within n (-big) big = true then (num n, []) else (null, sRange)

def nums (a b : V) : Bool := decide (a.k = 2) && decide (b.k = 2)
def texts (a b : V) : Bool := decide (a.k = 3) && decide (b.k = 3)
/-- the signs of reckoning, of right values. -/
def addR (a b : V) : V × Bs :=
  if nums a b = true then number (a.n + b.n)
  else if a.k = 3 ∨ b.k = 3 then (if 2000 < (text a ++ text b).length then (null, sLarge) else (txt (text a ++ text b), []))
  else (null, sKind)
def mulR (a b : V) : V × Bs := if nums a b = true then number (a.n * b.n) else (null, sKind)
def divR (a b : V) : V × Bs := if nums a b = true then (if b.n = 0 then (null, sZero) else number (a.n.tdiv b.n)) else (null, sKind)
def modR (a b : V) : V × Bs := if nums a b = true then (if b.n = 0 then (null, sZero) else number (a.n.tmod b.n)) else (null, sKind)
/-- an order: by what it asks of the sign of the difference. -/
def ordR (p : Int → Bool) (a b : V) : V × Bs :=
  if nums a b = true then (truth (p (Go.Lib.compareInt a.n b.n)), [])
  else if texts a b = true then (truth (p (Go.Lib.compareBytes a.s b.s)), [])
  else (null, sKind)
def add (a b : V) := addR (right a) (right b)
def mul (a b : V) := mulR (right a) (right b)
def div (a b : V) := divR (right a) (right b)
def mod (a b : V) := modR (right a) (right b)
def lessP (c : Int) : Bool := decide (c < 0)
def moreP (c : Int) : Bool := decide (0 < c)
def noP (c : Int) : Bool := decide (0 ≤ c)
def less (a b : V) := ordR lessP (right a) (right b)
def more (a b : V) := ordR moreP (right a) (right b)
def notLess (a b : V) := ordR noP (right a) (right b)
def eq (a b : V) : V × Bs := (truth (same a b), [])

inductive Sg where
  | add
  | mul
  | div
  | mod
  | lt
  | gt
  | ge
  | eq
def Sg.txt : Sg → Bs
  | .add => [43]
  | .mul => [42]
  | .div => [47]
  | .mod => [37]
  | .lt => [60]
  | .gt => [62]
  | .ge => [62, 61]
  | .eq => [61, 61]
/-- of right values. -/
def binR : Sg → V → V → V × Bs
  | .add, a, b => addR a b
  | .mul, a, b => mulR a b
  | .div, a, b => divR a b
  | .mod, a, b => modR a b
  | .lt, a, b => ordR lessP a b
  | .gt, a, b => ordR moreP a b
  | .ge, a, b => ordR noP a b
  | .eq, a, b => (truth (decide (a = b)), [])
def bin (g : Sg) (a b : V) : V × Bs := binR g (right a) (right b)

theorem check_null : check null = true := by decide
theorem check_right (v : V) : check (right v) = true := by
  unfold right; split
  · assumption
  · exact check_null
theorem right_right (v : V) : right (right v) = right v := by
  rw [right, if_pos (check_right v)]
theorem right_of {v : V} (h : check v = true) : right v = v := by rw [right, if_pos h]
theorem check_num {n : Int} : check (num n) = within n (-big) big := by simp [check, num]
theorem check_truth (b : Bool) : check (truth b) = true := by cases b <;> decide
theorem truthy_truth (b : Bool) : truthy (truth b) = b := by cases b <;> decide
theorem within_iff {n l h : Int} : within n l h = true ↔ l ≤ n ∧ n ≤ h := by simp [within]

/-! the law of what is the same -/
theorem same_comm (a b : V) : same a b = same b a := by
  unfold same; rw [Bool.eq_iff_iff]; simp; exact eq_comm
theorem same_self (a : V) : same a a = true := by simp [same]
theorem same_all {a b : V} (h : same a b = true) : text a = text b ∧ kind a = kind b ∧ truthy a = truthy b := by
  have e : right a = right b := by simpa [same] using h
  simp [text, kind, truthy, e]

/-! the laws of numbers -/
theorem number_ok {n : Int} (h : (number n).2 = []) : within n (-big) big = true ∧ number n = (num n, []) := by
  unfold number at h ⊢
  split at h
  · next hw => exact ⟨hw, by rw [if_pos hw]⟩
  · exact absurd h (by decide)
theorem add_num {a b : Int} (ha : within a (-big) big = true) (hb : within b (-big) big = true) : add (num a) (num b) = number (a + b) := by
  unfold add
  rw [right_of (by rw [check_num]; exact ha), right_of (by rw [check_num]; exact hb)]
  simp [addR, nums, num]
theorem mul_num {a b : Int} (ha : within a (-big) big = true) (hb : within b (-big) big = true) : mul (num a) (num b) = number (a * b) := by
  unfold mul
  rw [right_of (by rw [check_num]; exact ha), right_of (by rw [check_num]; exact hb)]
  simp [mulR, nums, num]
theorem div_num {a b : Int} (ha : within a (-big) big = true) (hb : within b (-big) big = true) (h0 : b ≠ 0) : div (num a) (num b) = number (a.tdiv b) := by
  unfold div
  rw [right_of (by rw [check_num]; exact ha), right_of (by rw [check_num]; exact hb)]
  simp [divR, nums, num, h0]
theorem mod_num {a b : Int} (ha : within a (-big) big = true) (hb : within b (-big) big = true) (h0 : b ≠ 0) : mod (num a) (num b) = number (a.tmod b) := by
  unfold mod
  rw [right_of (by rw [check_num]; exact ha), right_of (by rw [check_num]; exact hb)]
  simp [modR, nums, num, h0]

theorem div_mod_same (a b : Int) (h : check (num a) = false ∨ check (num b) = false ∨ b = 0) : ∃ (Q R : V) (E : Bs), bin .div (num a) (num b) = (Q, E) ∧ bin .mod (num a) (num b) = (R, E) := by
  unfold bin
  rcases h with h | h | h
  · have e : right (num a) = null := by rw [right, if_neg (by rw [h]; decide)]
    rw [e]
    exact ⟨null, null, sKind, by simp [binR, divR, nums, null], by simp [binR, modR, nums, null]⟩
  · have e : right (num b) = null := by rw [right, if_neg (by rw [h]; decide)]
    rw [e]
    exact ⟨null, null, sKind, by simp [binR, divR, nums, null], by simp [binR, modR, nums, null]⟩
  · subst h
    by_cases hc : check (num a) = true
    · rw [right_of hc, right_of (by decide)]
      exact ⟨null, null, sZero, by simp [binR, divR, nums, num], by simp [binR, modR, nums, num]⟩
    · have e : right (num a) = null := by rw [right, if_neg hc]
      rw [e]
      exact ⟨null, null, sKind, by simp [binR, divR, nums, null], by simp [binR, modR, nums, null]⟩

theorem compareBytes_self : ∀ a : Bs, Go.Lib.compareBytes a a = 0
  | [] => rfl
  | x :: a => by
    unfold Go.Lib.compareBytes
    rw [if_neg (UInt8.lt_irrefl x), if_neg (UInt8.lt_irrefl x)]
    exact compareBytes_self a
theorem compareBytes_eq : ∀ {a b : Bs}, Go.Lib.compareBytes a b = 0 → a = b
  | [], [], _ => rfl
  | [], _ :: _, h => by simp [Go.Lib.compareBytes] at h
  | _ :: _, [], h => by simp [Go.Lib.compareBytes] at h
  | x :: a, y :: b, h => by
    unfold Go.Lib.compareBytes at h
    split at h
    · simp at h
    · next h1 =>
      split at h
      · simp at h
      · next h2 =>
        have e : x = y := UInt8.le_antisymm (UInt8.not_lt.1 h2) (UInt8.not_lt.1 h1)
        rw [e, compareBytes_eq h]
theorem compareBytes_swap : ∀ a b : Bs, Go.Lib.compareBytes b a = - Go.Lib.compareBytes a b
  | [], [] => rfl
  | [], _ :: _ => rfl
  | _ :: _, [] => rfl
  | x :: a, y :: b => by
    unfold Go.Lib.compareBytes
    by_cases h1 : x < y
    · rw [if_neg (UInt8.lt_asymm h1), if_pos h1, if_pos h1]; rfl
    · by_cases h2 : y < x
      · rw [if_pos h2, if_neg h1, if_pos h2]
      · rw [if_neg h2, if_neg h1, if_neg h1, if_neg h2]; exact compareBytes_swap a b
theorem compareBytes_trans : ∀ {a b c : Bs}, Go.Lib.compareBytes a b < 0 → Go.Lib.compareBytes b c < 0 → Go.Lib.compareBytes a c < 0
  | [], [], c, h, _ => by simp [Go.Lib.compareBytes] at h
  | [], _ :: _, [], _, h => by simp [Go.Lib.compareBytes] at h
  | [], _ :: _, _ :: _, _, _ => by simp [Go.Lib.compareBytes]
  | _ :: _, [], _, h, _ => by simp [Go.Lib.compareBytes] at h
  | _ :: _, _ :: _, [], _, h => by simp [Go.Lib.compareBytes] at h
  | x :: a, y :: b, z :: c, h1, h2 => by
    unfold Go.Lib.compareBytes at h1 h2 ⊢
    by_cases e1 : x < y
    · by_cases e2 : y < z
      · rw [if_pos (UInt8.lt_trans e1 e2)]; decide
      · rw [if_neg e2] at h2
        by_cases e3 : z < y
        · rw [if_pos e3] at h2; simp at h2
        · have e : y = z := UInt8.le_antisymm (UInt8.not_lt.1 e3) (UInt8.not_lt.1 e2)
          subst e; rw [if_pos e1]; decide
    · rw [if_neg e1] at h1
      by_cases e3 : y < x
      · rw [if_pos e3] at h1; simp at h1
      · rw [if_neg e3] at h1
        have e : x = y := UInt8.le_antisymm (UInt8.not_lt.1 e3) (UInt8.not_lt.1 e1)
        subst e
        by_cases e2 : x < z
        · rw [if_pos e2]; decide
        · rw [if_neg e2] at h2 ⊢
          by_cases e4 : z < x
          · rw [if_pos e4] at h2; simp at h2
          · rw [if_neg e4] at h2 ⊢
            exact compareBytes_trans h1 h2
theorem compareInt_eq {a b : Int} : Go.Lib.compareInt a b = 0 ↔ a = b := by
  unfold Go.Lib.compareInt; split
  · constructor
    · intro h; simp at h
    · intro h; omega
  · split
    · constructor
      · intro h; simp at h
      · intro h; omega
    · constructor
      · intro _; omega
      · intro _; rfl
theorem compareInt_lt {a b : Int} : Go.Lib.compareInt a b < 0 ↔ a < b := by
  unfold Go.Lib.compareInt; split
  · simp; assumption
  · split <;> simp <;> omega
end Valu
