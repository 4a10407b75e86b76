/-
  Words for rows of structs, texts, and rows of one's own, for whatever chapter. Conditions: as each says.
-/
import Derived.Test.YtdolmjeiakdfhaaGreatDoorMem
import Derived.Test.YtdolmjeiakdfhaaGreatDoorRow
import Derived.Test.YtdolmjeiakdfhaaGreatDoorRes
import Derived.WalkKit
import Derived.WalkSpells
import Derived.Deep.QuietTactic
import Derived.BigQuiet
import Derived.Below
import Derived.Lib.Hide
import Derived.Handy
import Derived.Deep.MidRow
import Derived.Deep.RegionHeld3
import Derived.Deep.AppendLies
import Derived.Deep.LoopGhost
import Derived.Deep.Cut
import Derived.Deep.RegionLaw
import Derived.WalkLawsBesides
import Derived.Shelf.Abstract
namespace Go.Proofs.YtdolmjeiakdfhaaGreatDoor
set_option linter.unusedSimpArgs false
set_option linter.unusedVariables false
open Go.RowKit

def byt (l : List UInt8) : ByteArray := ⟨l.toArray⟩
theorem ret_bool {a b : Bool} (h : a = b) : Ending.returned (.bool a) = .returned (.bool b) := by rw [h]
theorem byt_list (s : List UInt8) : (byt s).toList = s := by rw [ByteArray.toList_eq]; rfl
theorem byt_data (s : List UInt8) : (byt s).data.toList = s := rfl
theorem byt_size (s : List UInt8) : (byt s).size = s.length := by simp [byt, ByteArray.size]
theorem byt_empty (s : List UInt8) : (byt s).toList.isEmpty = decide (s = []) := by rw [byt_list]; cases s <;> rfl
theorem byt_inj {a b : List UInt8} (h : byt a = byt b) : a = b := by
  have := congrArg (fun x : ByteArray => x.data.toList) h
  simpa [byt_data] using this
theorem byt_append (a b : List UInt8) : byt a ++ byt b = byt (a ++ b) := by
  unfold byt
  apply ByteArray.ext
  simp
theorem beq_dec (a b : Int) : (a == b) = decide (a = b) := by rw [Bool.eq_iff_iff]; simp
theorem beq_no {a b : Int} (h : a ≠ b) : (a == b) = false := by simpa using h
theorem below1 (w : World) (o : Obj) : Below w.heap.size w (w.alloc o) := (Below.refl _ _).alloc (Nat.le_refl _) _
theorem new2 (w : World) (o : Obj) (t : TypeId) (cs : Array Value) : Box ((w.alloc o).alloc (.cells cs t)) (w.heap.size + 1) t cs := by
  have := Box.new (w.alloc o) t cs
  rwa [World.size_alloc] at this
theorem new3 (w : World) (o o' : Obj) (t : TypeId) (cs : Array Value) : Box (((w.alloc o).alloc o').alloc (.cells cs t)) (w.heap.size + 2) t cs := by
  have := Box.new ((w.alloc o).alloc o') t cs
  rwa [World.size_alloc, World.size_alloc] at this
theorem ret_int {a b : Int} (h : a = b) : Ending.returned (.int .i64 a) = .returned (.int .i64 b) := by rw [h]
theorem byt_of (s : ByteArray) : ∃ l : List UInt8, s = byt l := ⟨s.data.toList, by cases s; simp [byt]⟩
/-- the cells of a list. -/
def flat {α : Type} (f : α → Array Value) (l : List α) : List Value := l.flatMap fun x => (f x).toList
section
variable {α : Type} {f : α → Array Value} {k : Nat}
theorem flat_nil : flat f [] = [] := rfl
theorem flat_cons (x : α) (l : List α) : flat f (x :: l) = (f x).toList ++ flat f l := rfl
theorem flat_append (a b : List α) : flat f (a ++ b) = flat f a ++ flat f b := by simp [flat]
theorem flat_len (hk : ∀ x, (f x).size = k) : ∀ l : List α, (flat f l).length = l.length * k
  | [] => by simp [flat]
  | x :: l => by rw [flat_cons, List.length_append, flat_len hk l, List.length_cons, Nat.add_mul]; simp [hk]; omega
theorem flat_at (hk : ∀ x, (f x).size = k) : ∀ (l : List α) (j : Nat) (x : α), l[j]? = some x → ∀ i v, (f x).toList[i]? = some v → (flat f l)[j * k + i]? = some v
  | [], _, _, h, _, _, _ => by simp at h
  | y :: l, 0, x, h, i, v, hv => by
    simp at h; subst h
    have hi : i < (f y).toList.length := (List.getElem?_eq_some_iff.1 hv).1
    rw [flat_cons, Nat.zero_mul, Nat.zero_add, List.getElem?_append_left hi]; exact hv
  | y :: l, j + 1, x, h, i, v, hv => by
    have h5 : (f y).toList.length = k := by simp [hk]
    rw [flat_cons, List.getElem?_append_right (by rw [h5, Nat.add_mul]; omega), h5, show (j + 1) * k + i - k = j * k + i by rw [Nat.add_mul]; omega]
    exact flat_at hk l j x (by simpa using h) i v hv
theorem flat_one (h1 : ∀ x, (f x).all (·.oneCell') = true) (l : List α) : ∀ u ∈ flat f l, u.oneCell' = true := by
  intro u hu
  simp only [flat, List.mem_flatMap] at hu
  obtain ⟨x, _, hx⟩ := hu
  have := h1 x
  rw [Array.all_eq_true'] at this
  exact this u (by simpa using hx)
end

/-- the slice value v reads, in w, as n elements of k cells: xs. -/
def Rd (w : World) (_k : Nat) (xs : List Value) (n : Nat) (v : Value) : Prop :=
  ∃ A cap, v = .slice A n cap ∧ n ≤ cap ∧ cap ≤ 9223372036854775807 ∧ (0 < n → ∃ g o, A = some ⟨g, o, none⟩ ∧ g < w.heap.size ∧ w.rangeAt g o xs)
/-- it reads as a list. -/
abbrev RdL {α : Type} (w : World) (k : Nat) (f : α → Array Value) (l : List α) (v : Value) : Prop := Rd w k (flat f l) l.length v
section
variable {w w1 : World} {k n : Nat} {xs : List Value} {v : Value}
theorem Rd.keep (h : Rd w k xs n v) (hb : ∀ p : Addr, p.block < w.heap.size → w1.cell? p = w.cell? p) (hz : w.heap.size ≤ w1.heap.size) : Rd w1 k xs n v := by
  obtain ⟨A, cap, e, h1, h2, h3⟩ := h
  refine ⟨A, cap, e, h1, h2, fun hn => ?_⟩
  obtain ⟨g, o, e2, h4, h5⟩ := h3 hn
  exact ⟨g, o, e2, by omega, fun j u hu => by rw [hb _ h4]; exact h5 j u hu⟩
theorem Rd.below (h : Rd w k xs n v) (hb : Below w.heap.size w w1) : Rd w1 k xs n v := h.keep (fun _ hp => hb.cell hp) hb.size
theorem Rd.nil (w : World) (k : Nat) : Rd w k [] 0 (.slice none 0 0) := ⟨none, 0, rfl, Nat.le_refl _, by omega, by omega⟩
theorem Rd.own {base : Nat} {e : TypeId} (h : w.ownsRow base e k v n xs) : Rd w k xs n v := by
  rcases h.2 with ⟨rfl, rfl⟩ | ⟨g, cap, cur, rfl, hb, hg, hn, hc, hs, ht⟩
  · exact ⟨none, 0, rfl, Nat.le_refl _, by omega, by omega⟩
  · unfold maxLen at hc
    refine ⟨_, cap, rfl, hn, by omega, fun _ => ⟨g, 0, rfl, (Array.getElem?_eq_some_iff.1 hg).1, fun j u hu => ?_⟩⟩
    have hj : j < n * k := by rw [← h.1]; exact (List.getElem?_eq_some_iff.1 hu).1
    rw [Nat.zero_add, h.cellAt j hj]; exact hu
end
/-- element j of a row that reads as a list. -/
theorem RdL.elem {α : Type} {w : World} {k : Nat} {f : α → Array Value} {l : List α} {g o j : Nat} {x : α} (hk : ∀ x, (f x).size = k)
    (h : w.rangeAt g o (flat f l)) (hx : l[j]? = some x) : w.rangeAt g (o + j * k) (f x).toList := fun i v hv => by
  have := flat_at hk l j x hx i v hv
  have h2 := h _ _ this
  rw [← Nat.add_assoc] at h2; exact h2

/-- the first place where p holds, or -1. -/
def idx {α : Type} (p : α → Bool) : List α → Int
  | [] => -1
  | x :: l => if p x then 0 else if idx p l < 0 then -1 else idx p l + 1
theorem idx_lo {α : Type} (p : α → Bool) : ∀ l, -1 ≤ idx p l
  | [] => by simp [idx]
  | x :: l => by have := idx_lo p l; unfold idx; split <;> (try split) <;> omega
theorem idx_any {α : Type} (p : α → Bool) : ∀ l, decide (0 ≤ idx p l) = l.any p
  | [] => by simp [idx]
  | x :: l => by
    have h := idx_any p l
    unfold idx
    rw [List.any_cons, ← h]
    cases hp : p x
    · by_cases hl : idx p l < 0
      · have : ¬ 0 ≤ idx p l := by omega
        simp [hl, this]
      · have : 0 ≤ idx p l + 1 := by omega
        have : 0 ≤ idx p l := by omega
        simp [*]
    · simp
theorem idx_hit {α : Type} (p : α → Bool) : ∀ (l : List α) (k : Nat) (x : α), l[k]? = some x → p x = true → (∀ j y, j < k → l[j]? = some y → p y = false) → idx p l = k
  | [], k, x, h, _, _ => by simp at h
  | y :: l, 0, x, h, hp, _ => by simp at h; subst h; simp [idx, hp]
  | y :: l, k + 1, x, h, hp, ha => by
    have h0 : p y = false := ha 0 y (by omega) rfl
    have ih := idx_hit p l k x (by simpa using h) hp (fun j z hj hz => ha (j + 1) z (by omega) (by simpa using hz))
    unfold idx
    rw [h0, ih]
    have : ¬ (k : Int) < 0 := by omega
    simp [this]
theorem idx_miss {α : Type} (p : α → Bool) : ∀ (l : List α), (∀ (j : Nat) (y : α), l[j]? = some y → p y = false) → idx p l = -1
  | [], _ => rfl
  | y :: l, ha => by
    have h0 : p y = false := ha 0 y rfl
    have ih := idx_miss p l (fun j z hz => ha (j + 1) z (by simpa using hz))
    unfold idx
    rw [h0, ih]; rfl

/-- a row of its own, from the heap's end on; nothing that was has turned. -/
def OwnOut (w : World) (E k n : Nat) (xs : List Value) (e : Ending) (w' : World) : Prop :=
  ∃ v, e = .returned v ∧ w'.ownsRow w.heap.size E k v n xs ∧ Below w.heap.size w w'
/-- the same row, with other elements. -/
def RowOut (w : World) (base E k n : Nat) (g : Option Nat) (xs : List Value) (e : Ending) (w' : World) : Prop :=
  ∃ v, e = .returned v ∧ w'.ownsRow base E k v n xs ∧ v.ownBlock = g ∧ w.grownBy w' g
theorem eraseIdx_flat {α : Type} (f : α → Array Value) : ∀ (l : List α) (i : Nat), flat f (l.eraseIdx i) = flat f (l.take i) ++ flat f (l.drop (i + 1)) := by
  intro l i
  rw [← flat_append, List.eraseIdx_eq_take_drop_succ]
def Apart (u v : Value) : Prop := ∀ g, u.ownBlock = some g → v.ownBlock ≠ some g
theorem Apart.symm {u v : Value} (h : Apart u v) : Apart v u := fun g hv hu => h g hu hv
theorem Apart.ne {u v : Value} (h : Apart u v) : u.ownBlock = none ∨ u.ownBlock ≠ v.ownBlock := by
  cases hu : u.ownBlock with
  | none => exact .inl rfl
  | some g => exact .inr (fun e => h g hu e.symm)
theorem Apart.nil (v : Value) (n c : Nat) : Apart (.slice none n c) v := fun g h => by simp [Value.ownBlock] at h
theorem own_slice {w : World} {B e k n : Nat} {v : Value} {xs : List Value} (h : w.ownsRow B e k v n xs) : ∃ A cap, v = .slice A n cap := by
  rcases h.2 with ⟨rfl, rfl⟩ | ⟨_, _, _, rfl, _⟩
  · exact ⟨_, _, rfl⟩
  · exact ⟨_, _, rfl⟩
theorem own_one {w : World} {B e k n : Nat} {v : Value} {xs : List Value} (h : w.ownsRow B e k v n xs) : v.oneCell' = true := by
  rcases h.2 with ⟨rfl, _⟩ | ⟨_, _, _, rfl, _⟩ <;> rfl
theorem own_far {w w1 : World} {base g : Nat} {e : TypeId} {k n : Nat} {v : Value} {xs : List Value} (h : w.ownsRow base e k v n xs) (hu : Upd w w1 g) (hg : g < base) : w1.ownsRow base e k v n xs :=
  own_grown h hu (by
    cases hv : v.ownBlock with
    | none => exact .inl rfl
    | some b => exact .inr (fun e => by injection e with e; have := (h.lt b hv).1; omega))
end Go.Proofs.YtdolmjeiakdfhaaGreatDoor
