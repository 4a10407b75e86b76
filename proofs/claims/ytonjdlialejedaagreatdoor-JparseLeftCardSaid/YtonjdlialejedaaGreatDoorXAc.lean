/-
  Texts that the law leans on: Wri, Mem, Max, Row, Res, Gen, PmA. Conditions: as each says.
-/
import Derived.Test.YtonjdlialejedaaGreatDoorXAb
import Derived.Lib.ItoaNum
import Derived.Lib.IndexMore
import Derived.Lib.Strings
import Derived.Test.YtonjdlialejedaaGreatDoorRows
import Derived.WalkKit
import Derived.Below
import Derived.Deep.QuietTactic
import Derived.Laws.Tables
import Derived.Laws.Rows
import Derived.Laws.ResultCell
import Derived.WalkLawsBesides
import Derived.Laws.CopyOwn
import Derived.Deep.AppendLies
import Derived.Deep.MidRow
import Derived.Lib.SliceRun
import Derived.Lib.Hide
import Derived.Deep.RegionLaw
import Derived.Deep.RegionHeld3
import Derived.WalkSpells
import Derived.BigQuiet
import Derived.Handy
import Derived.Deep.LoopGhost
import Derived.Deep.Cut
import Derived.Shelf.Abstract
import Derived.Test.YtonjdlialejedaaGreatDoorXAa
set_option linter.unusedSimpArgs false
set_option linter.unusedVariables false
namespace Wri
open Pars (Node Bs)
def plain (k : Int) (m : Nat) : Bs × Bool :=
 if k = 1 ∨ k = 2 ∨ k = 3 ∨ k = 4 ∨ k = 5 ∨ k = 10 ∨ k = 25 ∨ k = 26 ∨ k = 27 then ([], true)
 else if k = 6 then ([101, 42], true)
 else if k = 7 then ([112, 42], true)
 else if k = 8 ∨ k = 13 ∨ k = 14 ∨ k = 20 ∨ k = 28 ∨ k = 31 then ([101], true)
 else if k = 11 then ([101, 101, 42], true)
 else if k = 12 ∨ k = 15 ∨ k = 16 ∨ k = 17 then ([101, 101], true)
 else if k = 18 then ([101, 101, 101], true)
 else if k = 19 then ([116, 101], true)
 else if k = 21 then ([100], true)
 else if k = 22 then ([101, 98], true)
 else if k = 23 ∨ k = 24 then ([101, 108], true)
 else if k = 29 then ([98, 98], true)
 else if k = 30 then ([115, 42], true)
 else if k = 9 then (List.replicate (m - 1) 113 ++ [103], true)
 else ([], false)
def form (k nu : Int) (m : Nat) : Bs × Bool :=
 (if k = 22 ∧ m = 3 then [101, 98, 105] else if k = 25 ∧ m = 1 then [101] else if k = 29 ∧ nu = 3 then [98, 98, 98] else (plain k m).1, (plain k m).2)
def sort (n : Node) (c : UInt8) : Bool :=
 if c = 112 then decide (n.kind = 8)
 else if c = 116 then decide (n.kind = 5 ∨ n.kind = 12 ∨ n.kind = 13)
 else if c = 100 then decide (n.kind = 9 ∧ n.text ≠ [])
 else if c = 98 ∨ c = 108 ∨ c = 103 then decide (n.kind = 30)
 else if c = 105 then decide (n.kind = 30 ∨ n.kind = 22)
 else if c = 113 then decide (n.kind = 10)
 else if c = 115 then decide (20 ≤ n.kind ∧ n.kind ≤ 31)
 else decide (1 ≤ n.kind ∧ n.kind ≤ 19 ∧ n.kind ≠ 8 ∧ n.kind ≠ 10 ∧ (n.kind ≠ 9 ∨ n.text = []))
def unaryS : Bs := [33, 32, 45]
def binaryS : Bs := [61, 61, 32, 33, 61, 32, 60, 32, 60, 61, 32, 62, 32, 62, 61, 32, 43, 32, 45, 32, 42, 32, 47, 32, 37]
def one (s words : Bs) : Bool := Go.Lib.contains ([32] ++ words ++ [32]) ([32] ++ s ++ [32]) && (!decide (s = []) && !decide (0 ≤ Go.Lib.indexByte s 32))
def name (s : Bs) : Bool := match Lexy.toks s with
 | .ok [t] => decide (t.kind = 1) && decide (t.text = s)
 | _ => false
def fields (k nu : Int) (t : Bs) : Bool :=
 if k = 1 then decide (0 ≤ nu ∧ nu ≤ 9007199254740992) && decide (t = [])
 else if k = 3 then decide (nu = 0 ∨ nu = 1) && decide (t = [])
 else if k = 29 then decide (1 ≤ nu ∧ nu ≤ 3) && ((decide (nu = 2) && decide (t = [])) || (!decide (nu = 2) && name t))
 else if k = 2 then decide (nu = 0)
 else if k = 5 ∨ k = 8 ∨ k = 10 ∨ k = 13 ∨ k = 20 ∨ k = 24 then decide (nu = 0) && name t
 else if k = 9 then decide (nu = 0) && (decide (t = []) || name t)
 else if k = 14 then decide (nu = 0) && one t unaryS
 else if k = 15 then decide (nu = 0) && one t binaryS
 else decide (nu = 0) && decide (t = [])
def star (f : Bs) : Bool := Go.Lib.hasSuffix f [42]
def bare (f : Bs) : Bs := Go.Lib.trimSuffix f [42]
def count (f : Bs) (m : Nat) : Bool := decide (m = (bare f).length) || (star f && decide ((bare f).length ≤ m + 1))
mutual
def right : Node → Bool → Bool → Bool
 | .mk k nu t l, fn, lp => (form k nu l.length).2 && (fields k nu t && (!(decide (k = 25) && !fn) && (!(decide (k = 26 ∨ k = 27) && !lp) && (count (form k nu l.length).1 l.length && rights (bare (form k nu l.length).1) k fn lp 0 l))))
def rights (g : Bs) (k : Int) (fn lp : Bool) : Nat → List Node → Bool
 | _, [] => true
 | i, x :: l => sort x (g.getD (min i (g.length - 1)) 0) && (right x (fn || decide (g.getD (min i (g.length - 1)) 0 = 103)) (decide (g.getD (min i (g.length - 1)) 0 = 108) || (lp && (!decide (g.getD (min i (g.length - 1)) 0 = 103) && !decide (k = 9)))) && rights g k fn lp (i + 1) l)
end
def check (n : Node) : Nat := if n.kind ≠ 30 ∨ right n false false = false then 3 else if 40 < Pars.deep n then 2 else 0
def rankOf : Nat → List (List Bs) → Bs → Int
 | _, [], _ => 8
 | i, r :: l, t => if t ∈ r then i else rankOf (i + 1) l t
def rank (n : Node) : Int :=
 if n.kind = 19 then -2 else if n.kind = 18 then -1 else if n.kind = 17 then 0 else if n.kind = 16 then 1 else if n.kind = 15 then rankOf 0 Pars.ranks n.text
 else if n.kind = 14 then 6 else if n.kind = 11 ∨ n.kind = 12 ∨ n.kind = 13 then 7 else 8
def sgn (k : Int) (t : Bs) : Bs := if k = 17 then [124, 124] else if k = 16 then [38, 38] else t
def least (n : Node) : Int := if n.kind = 19 ∨ n.kind = 11 ∨ n.kind = 12 ∨ n.kind = 13 then 7 else if n.kind = 18 then 0 else rank n
def heads (k : Int) : Bool := decide (k = 19 ∨ k = 18 ∨ k = 17 ∨ k = 16 ∨ k = 15 ∨ k = 11 ∨ k = 12 ∨ k = 13)
mutual
def front : Node → Int
 | .mk k nu t l => if heads k then frontL (least (.mk k nu t l)) l else k
def frontL (q : Int) : List Node → Int
 | [] => 0
 | x :: _ => if rank x < q then 0 else front x
end
inductive M where
 | ex | at (q : Int) | fst | fn | block | ifs | tries | stmt | param | pair
def joinC : List Bs → Bs
 | [] => []
 | [a] => a
 | a :: l => a ++ [44, 32] ++ joinC l
def listed (o c : Bs) (l : List Bs) : Bs := o ++ joinC l ++ c
abbrev F := M → Bs
def kid (f : List F) (i : Nat) : F := f.getD i (fun _ => [])
def wFn (t : Bs) (f : List F) : Bs := [102, 110] ++ (if t = [] then [] else 32 :: t) ++ listed [40] [41] ((f.take (f.length - 1)).map (· .param)) ++ [32] ++ kid f (f.length - 1) .block
def wFst (k nu : Int) (t : Bs) (f : List F) : Bs :=
 if k = 1 then Go.Lib.itoa nu else if k = 2 then Lexy.quote t else if k = 3 then (if nu = 0 then Pars.wFalse else Pars.wTrue) else if k = 4 then Pars.wNull else if k = 5 then t
 else if k = 6 then listed [91] [93] (f.map (· (.at (-2)))) else if k = 7 then listed [123] [125] (f.map (· .pair)) else if k = 9 then wFn t f else []
def wEx (k nu : Int) (t : Bs) (f : List F) : Bs :=
 if k = 19 then kid f 0 (.at 7) ++ [32, 61, 32] ++ kid f 1 (.at (-2))
 else if k = 18 then kid f 0 (.at 0) ++ [32, 63, 32] ++ kid f 1 (.at (-2)) ++ [32, 58, 32] ++ kid f 2 (.at (-2))
 else if k = 17 ∨ k = 16 ∨ k = 15 then kid f 0 (.at (rank (.mk k nu t []))) ++ ([32] ++ sgn k t ++ [32]) ++ kid f 1 (.at (rank (.mk k nu t []) + 1))
 else if k = 14 then t ++ kid f 0 (.at 6)
 else if k = 11 then kid f 0 (.at 7) ++ listed [40] [41] ((f.drop 1).map (· (.at (-2))))
 else if k = 12 then kid f 0 (.at 7) ++ [91] ++ kid f 1 (.at (-2)) ++ [93]
 else if k = 13 then kid f 0 (.at 7) ++ (46 :: t)
 else wFst k nu t f
def wBlock (f : List F) : Bs := [123, 32] ++ (f.flatMap fun g => g .stmt ++ [32]) ++ [125]
def wIfs (l : List Node) (f : List F) : Bs :=
 [105, 102, 32, 40] ++ kid f 0 (.at (-2)) ++ [41, 32] ++ kid f 1 .block ++
  (if f.length = 3 then [32, 101, 108, 115, 101, 32] ++ (if (l.getD 2 default).kind = 22 then kid f 2 .ifs else kid f 2 .block) else [])
def wTries (nu : Int) (t : Bs) (f : List F) : Bs :=
 [116, 114, 121, 32] ++ kid f 0 .block ++ (if nu = 2 then [] else [32, 99, 97, 116, 99, 104, 32, 40] ++ t ++ [41, 32] ++ kid f 1 .block) ++
  (if 1 < nu then [32, 102, 105, 110, 97, 108, 108, 121, 32] ++ kid f (if nu = 2 then 1 else 2) .block else [])
def wStmt (k nu : Int) (t : Bs) (l : List Node) (f : List F) : Bs :=
 if k = 20 then [108, 101, 116, 32] ++ t ++ [32, 61, 32] ++ kid f 0 (.at (-2)) ++ [59]
 else if k = 21 then kid f 0 .fn
 else if k = 22 then wIfs l f
 else if k = 23 then [119, 104, 105, 108, 101, 32, 40] ++ kid f 0 (.at (-2)) ++ [41, 32] ++ kid f 1 .block
 else if k = 24 then [102, 111, 114, 32, 40, 108, 101, 116, 32] ++ t ++ [32, 111, 102, 32] ++ kid f 0 (.at (-2)) ++ [41, 32] ++ kid f 1 .block
 else if k = 25 then [114, 101, 116, 117, 114, 110] ++ (if 0 < f.length then 32 :: kid f 0 (.at (-2)) else []) ++ [59]
 else if k = 26 then [98, 114, 101, 97, 107, 59]
 else if k = 27 then [99, 111, 110, 116, 105, 110, 117, 101, 59]
 else if k = 28 then [116, 104, 114, 111, 119, 32] ++ kid f 0 (.at (-2)) ++ [59]
 else if k = 29 then wTries nu t f
 else if k = 30 then wBlock f
 else if k = 31 then (if front (l.getD 0 default) = 7 ∨ front (l.getD 0 default) = 9 then [40] ++ kid f 0 (.at (-2)) ++ [41] else kid f 0 (.at (-2))) ++ [59]
 else []
def step (k nu : Int) (t : Bs) (l : List Node) (f : List F) : F
 | .ex => wEx k nu t f
 | .at q => if q ≤ rank (.mk k nu t []) then wEx k nu t f else [40] ++ wEx k nu t f ++ [41]
 | .fst => wFst k nu t f
 | .fn => wFn t f
 | .block => wBlock f
 | .ifs => wIfs l f
 | .tries => wTries nu t f
 | .stmt => wStmt k nu t l f
 | .param => t
 | .pair => t ++ [58, 32] ++ kid f 0 (.at (-2))
mutual
def wr : Node → F
 | .mk k nu t l => step k nu t l (wrs l)
def wrs : List Node → List F
 | [] => []
 | n :: l => wr n :: wrs l
end
def joinB : List Bs → Bs
 | [] => []
 | [a] => a
 | a :: l => a ++ [32] ++ joinB l
def text (n : Node) : Bs := joinB (n.kids.map fun x => wr x .stmt)
def write (n : Node) : Except Nat Bs := if check n ≠ 0 then .error (check n) else if 2000 < (text n).length then .error 2 else .ok (text n)
theorem wrs_map : ∀ l : List Node, wrs l = l.map wr
 | [] => rfl
 | n :: l => by simp only [wrs, List.map_cons, wrs_map l]
mutual
def wg : Node → Nat
 | .mk _ _ t l => t.length + wgs l + 1
def wgs : List Node → Nat
 | [] => 0
 | n :: l => wg n + wgs l
end
theorem wgs_len : ∀ l : List Node, l.length ≤ wgs l
 | [] => by simp
 | n :: l => by simp only [List.length_cons, wgs]; have := wgs_len l; cases n; simp only [wg]; omega
theorem wg_mem : ∀ {l : List Node} {x : Node}, x ∈ l → wg x ≤ wgs l
 | n :: l, x, h => by
  simp only [wgs]
  rcases List.mem_cons.1 h with rfl | h
  ·omega
  ·have := wg_mem h; omega
theorem suffix_cat (l : Bs) (c : UInt8) : Go.Lib.hasSuffix (l ++ [c]) [42] = decide (c = 42) := by
 unfold Go.Lib.hasSuffix
 rw [Bool.eq_iff_iff, List.isSuffixOf_iff_suffix, decide_eq_true_iff]
 constructor
 ·intro h
  obtain ⟨r, hr⟩ := h
  have := congrArg List.getLast? hr
  simp at this
  exact this.symm
 ·rintro rfl
  exact ⟨l, rfl⟩
def forms : List Bs := [[], [101, 42], [112, 42], [101], [101, 101, 42], [101, 101], [101, 101, 101], [116, 101], [100], [101, 98], [101, 108], [98, 98], [115, 42], [101, 98, 105], [98, 98, 98]]
theorem pick {α : Type} {P : α → Prop} {c : Prop} [Decidable c] {a b : α} (ha : P a) (hb : P b) : P (if c then a else b) := by
 by_cases h : c
 ·rw [if_pos h]; exact ha
 ·rw [if_neg h]; exact hb
def Formy (f : Bs) : Prop := f ∈ forms ∨ ∃ q, f = List.replicate q 113 ++ [103]
theorem plain_cases (k : Int) (m : Nat) : Formy (plain k m).1 := by
 have h : (fun p : Bs × Bool => Formy p.1) (plain k m) := by
  unfold plain
  repeat' apply pick (P := fun p : Bs × Bool => Formy p.1)
  all_goals first
   | exact .inr ⟨_, rfl⟩
   | exact .inl (by decide)
 exact h
theorem form_cases (k nu : Int) (m : Nat) : Formy (form k nu m).1 := by
 unfold form
 simp only
 repeat' apply pick (P := Formy)
 all_goals first
  | exact plain_cases k m
  | exact .inl (by decide)
theorem forms_star : ∀ f ∈ forms, star f = true → bare f ≠ [] := by decide
theorem star_bare (k nu : Int) (m : Nat) (h : star (form k nu m).1 = true) : bare (form k nu m).1 ≠ [] := by
 rcases form_cases k nu m with hf | ⟨q, hf⟩
 ·exact forms_star _ hf h
 ·rw [hf] at h
  unfold star at h
  rw [suffix_cat] at h
  exact absurd h (by decide)
end Wri
namespace Go.Proofs.YtonjdlialejedaaGreatDoor
open Go.Lib (hid)
open Go.RowKit
def Box (w : World) (b : Nat) (t : TypeId) (cs : Array Value) : Prop := w.heap[b]? = some (.cells cs t (0, 0))
section
variable {w w1 w2 : World} {b : Nat} {t : TypeId} {cs : Array Value}
theorem Box.lt (h : Box w b t cs) : b < w.heap.size := by
 rcases Nat.lt_or_ge b w.heap.size with hlt | hge
 ·exact hlt
 ·unfold Box at h; rw [Array.getElem?_eq_none hge] at h; cases h
theorem Box.cell (h : Box w b t cs) (i : Nat) : w.cell? ⟨b, i, none⟩ = cs[i]? := by
 unfold Box at h; simp [World.cell?, h]
theorem Box.frozen (h : Box w b t cs) (i : Nat) : w.frozen? ⟨b, i, none⟩ = false := by
 unfold Box at h; simp [World.frozen?, h]
theorem Box.new (w : World) (t : TypeId) (cs : Array Value) : Box (w.alloc (.cells cs t)) w.heap.size t cs := by
 show (w.heap.push _)[w.heap.size]? = _
 simp
theorem Box.drew (h : Box w b t cs) : Box w.drew b t cs := h
theorem Box.drewN (h : Box w b t cs) (n : Nat) : Box (w.drewN n) b t cs := h
theorem Box.alloc (h : Box w b t cs) (o : Obj) : Box (w.alloc o) b t cs := (Below.heap_alloc w o b h.lt).trans h
theorem Box.set (h : Box w b t cs) (i : Nat) (u : Value) : Box (w.setCell ⟨b, i, none⟩ u) b t (cs.setIfInBounds i u) := by
 unfold Box at h ⊢
 simp [World.setCell, Array.getElem?_modify, h]
theorem Box.far (h : Box w b t cs) {p : Addr} (hp : b ≠ p.block) (u : Value) : Box (w.setCell p u) b t cs := (Below.heap_setCell w p u b hp).trans h
theorem Box.below {B : Nat} (h : Box w b t cs) (hb : Below B w w1) (hg : b < B) : Box w1 b t cs := (hb.block b hg).trans h
theorem Box.grown {row : Option Nat} (h : Box w b t cs) (hb : w.grownBy w1 row) (hg : some b ≠ row) : Box w1 b t cs := (hb.block b h.lt hg).trans h
end
abbrev Upd (w w' : World) (b : Nat) : Prop := w.grownBy w' (some b)
section
variable {a w w1 w2 : World} {b : Nat}
theorem Upd.refl (w : World) (b : Nat) : Upd w w b := ⟨rfl, rfl, rfl, Nat.le_refl _, fun _ _ _ => rfl⟩
theorem Upd.trans (h : Upd a w b) (k : Upd w w1 b) : Upd a w1 b :=
 ⟨k.os.trans h.os, k.tape.trans h.tape, k.output.trans h.output, Nat.le_trans h.size k.size, fun i hi hn => (k.block i (Nat.lt_of_lt_of_le hi h.size) hn).trans (h.block i hi hn)⟩
theorem Upd.drew (h : Upd a w b) : Upd a w.drew b := ⟨h.os, h.tape, h.output, h.size, h.block⟩
theorem Upd.drewN (h : Upd a w b) (n : Nat) : Upd a (w.drewN n) b := ⟨h.os, h.tape, h.output, h.size, h.block⟩
theorem Upd.alloc (h : Upd a w b) (o : Obj) : Upd a (w.alloc o) b :=
 ⟨h.os, h.tape, h.output, Nat.le_trans h.size (by simp), fun i hi hn => (Below.heap_alloc w o i (Nat.lt_of_lt_of_le hi h.size)).trans (h.block i hi hn)⟩
theorem Upd.set (h : Upd a w b) {p : Addr} (hp : p.block = b ∨ a.heap.size ≤ p.block) (u : Value) : Upd a (w.setCell p u) b :=
 ⟨h.os, h.tape, h.output, by simpa [World.setCell] using h.size, fun i hi hn => (Below.heap_setCell w p u i (by
  rintro rfl
  rcases hp with hp | hp
  ·exact hn (by rw [hp])
  ·omega)).trans (h.block i hi hn)⟩
theorem Upd.below (h : Below a.heap.size a w) (b : Nat) : Upd a w b := ⟨h.os, h.tape, h.output, h.size, fun i hi _ => h.block i hi⟩
theorem Upd.step (h : Upd a w b) (k : Below w.heap.size w w1) : Upd a w1 b := h.trans (.below k b)
theorem Upd.own (h : Upd w w1 b) {B : Nat} (hB : B ≤ b) (hw : B ≤ w.heap.size) : Below B w w1 :=
 ⟨h.os, h.tape, h.output, h.size, fun i hi => h.block i (by omega) (by simp; omega)⟩
theorem below_grown {B : Nat} {row : Option Nat} (hg : w.grownBy w1 row) (hB : B ≤ w.heap.size) (hr : ∀ k, row = some k → B ≤ k) : Below B w w1 :=
 ⟨hg.os, hg.tape, hg.output, hg.size, fun k hk => hg.block k (by omega) (fun e => by have := hr k e.symm; omega)⟩
theorem below_drewN {B : Nat} (h : Below B a w) (n : Nat) : Below B a (w.drewN n) := ⟨h.os, h.tape, h.output, h.size, h.block⟩
end
theorem Upd.far {a w w1 : World} {b g : Nat} (h : Upd a w b) (k : Upd w w1 g) (hg : a.heap.size ≤ g) : Upd a w1 b :=
 ⟨k.os.trans h.os, k.tape.trans h.tape, k.output.trans h.output, Nat.le_trans h.size k.size, fun i hi hn => (k.block i (Nat.lt_of_lt_of_le hi h.size) (by simp; omega)).trans (h.block i hi hn)⟩
section
variable {P : Program}
theorem wpList_store_box {ops : Array Oper} {rest : List Oper} {o : Oper} {a : Act} {w : World} {Q : Exit → Act → World → Prop} (hgd : o.guard = none) (ty : TypeId) (x y : Operand) (ho : o.op = .store ty x y)
  (g : Nat) (cells : Array Value) (hx : a.eval x = .pointer (some ⟨g, 0, none⟩)) (hy : a.eval y = .agg cells) (t : TypeId) (old : Array Value) (hg : Box w g t old) (hi : (P.info? ty).map (·.size) = some cells.size)
  (hold : old.size = cells.size) (h1 : cells.all (·.oneCell') = true)
  (h : ∀ w', Box w' g t cells → Upd w w' g → w'.heap.size = w.heap.size → wpList P ops Q rest (a.put o.dst undef) w') : wpList P ops Q (o :: rest) a w :=
 wpList_store_row hgd ty x y ho g cells hx hy t old hg hi hold h1
  (h _ (setRow_heap w g old cells t (0, 0) hg) ⟨rfl, rfl, rfl, by simp, fun k _ hn => setRow_other w g k cells (by simpa using hn)⟩ (by simp))
theorem results_box {fn : Func} {p : Tmp} {ty : TypeId} (h : fn.results = #[.cell p ty]) (tmps : Array Value) (w : World) (g : Nat) (t : TypeId) (cs : Array Value) (d : TypeDesc)
  (hp : tmps.getD p undef = .pointer (some ⟨g, 0, none⟩)) (hg : Box w g t cs) (hu : P.underlying ty = some d) (hd : (match d with | .struct _ | .array _ _ => true | _ => false) = true) (hi : (P.info? ty).map (·.size) = some cs.size) :
  (results fn tmps).run P w = .ok (.agg cs) w := results_cell_row h tmps w g t cs (0, 0) d hp hg hu hd hi
theorem results_box_tmp {fn : Func} {p u : Tmp} {ty : TypeId} (h : fn.results = #[.cell p ty, .tmp u]) (tmps : Array Value) (w : World) (g : Nat) (t : TypeId) (cs : Array Value) (d : TypeDesc)
  (hp : tmps.getD p undef = .pointer (some ⟨g, 0, none⟩)) (hg : Box w g t cs) (hu : P.underlying ty = some d) (hd : (match d with | .struct _ | .array _ _ => true | _ => false) = true) (hi : (P.info? ty).map (·.size) = some cs.size) :
  (results fn tmps).run P w = .ok (.tuple #[.agg cs, tmps.getD u undef]) w := by
 rw [results_cell_tmp h, hp]
 have := run_loadVar_row (P := P) w g t ty cs (0, 0) d hg hu hd hi
 simp [asAddr, this]
end
theorem quiet_more_same {P : Program} {f : FuncId} {args : Array Value} {w : World} {a n : Nat} {v : Value}
  (h : Calls P f args (w.drewN (a + n)) fun e w' => e = .returned v ∧ w' = w.drewN (a + n)) :
  Calls P f args (w.drewN (a + n)) fun e w'' => e = .returned v ∧ ∃ m, w'' = w.drewN (a + m) :=
 h.mono fun _ _ ⟨he, hm⟩ => ⟨he, n, hm⟩
end Go.Proofs.YtonjdlialejedaaGreatDoor
namespace Go.Proofs.YtonjdlialejedaaGreatDoor
open Go.Lib (hid)
open Go.RowKit
theorem bg {w w1 : World} {b : Nat} {t : TypeId} {cs : Array Value} {row : Option Nat} (h : Hid (Box w b t cs)) (hb : w.grownBy w1 row) (hg : some b ≠ row := by intro h; injection h with h; omega) : Hid (Box w1 b t cs) := Lib.hid (Box.grown h.out hb hg)
theorem bl {w w1 : World} {b : Nat} {t : TypeId} {cs : Array Value} (h : Hid (Box w b t cs)) (hb : Below w.heap.size w w1) : Hid (Box w1 b t cs) := Lib.hid (h.out.below hb h.out.lt)
end Go.Proofs.YtonjdlialejedaaGreatDoor
namespace Go.Proofs.YtonjdlialejedaaGreatDoor
open Go.Lib (hid)
open Go.RowKit
section
variable {P : Program} {ops : Array Oper} {rest : List Oper} {o : Oper} {a : Act} {w : World} {Q : Exit → Act → World → Prop}
theorem wpList_max2 (hgd : o.guard = none) (x y : Operand) (ts : Array TypeId) (hop : o.op = .call { callee := .builtin .max, args := #[x, y], argTypes := ts })
  (A B M : Int) (hx : a.eval x = .int .i64 A) (hy : a.eval y = .int .i64 B) (hM : max A B = M)
  (h : wpList P ops Q rest (a.put o.dst (.int .i64 M)) w) : wpList P ops Q (o :: rest) a w := by
 refine wpList_plain hgd fun K hK => ?_
 have hrun := run_max_int2 (P := P) (w := w) ts o.type .i64 .i64 A B
 have e : (if B > A then B else A) = M := by rw [← hM]; simp only [Int.max_def]; split <;> split <;> omega
 rw [e] at hrun
 unfold Oper.wp execOp
 simp only [hop, resolve, invoke, builtin, Sem.run_bind, Sem.run_pure, Result.andThen_ok, List.map_toArray, List.map_cons, List.map_nil, hx, hy, hrun]
 exact hK _ _ h
theorem wpList_min2 (hgd : o.guard = none) (x y : Operand) (ts : Array TypeId) (hop : o.op = .call { callee := .builtin .min, args := #[x, y], argTypes := ts })
  (A B M : Int) (hx : a.eval x = .int .i64 A) (hy : a.eval y = .int .i64 B) (hM : min A B = M)
  (h : wpList P ops Q rest (a.put o.dst (.int .i64 M)) w) : wpList P ops Q (o :: rest) a w := by
 refine wpList_plain hgd fun K hK => ?_
 have hrun := run_min_int2 (P := P) (w := w) ts o.type .i64 .i64 A B
 have e : (if B < A then B else A) = M := by rw [← hM]; simp only [Int.min_def]; split <;> split <;> omega
 rw [e] at hrun
 unfold Oper.wp execOp
 simp only [hop, resolve, invoke, builtin, Sem.run_bind, Sem.run_pure, Result.andThen_ok, List.map_toArray, List.map_cons, List.map_nil, hx, hy, hrun]
 exact hK _ _ h
end
end Go.Proofs.YtonjdlialejedaaGreatDoor
namespace Go.Proofs.YtonjdlialejedaaGreatDoor
open Go.Lib (hid)
open Go.RowKit
theorem own_box {w : World} {base : Nat} {e : TypeId} {k n : Nat} {v : Value} {xs : List Value} (h : w.ownsRow base e k v n xs) (hn : 0 < n) :
  ∃ g cap R, v = .slice (some ⟨g, 0, none⟩) n cap ∧ base ≤ g ∧ Box w g e (xs ++ R).toArray ∧ n ≤ cap ∧ cap ≤ 9223372036854775807 ∧ (xs ++ R).length = cap * k := by
 rcases h.2 with ⟨_, h0⟩ | ⟨g, cap, cur, hv, hb, hg, h1, h2, h3, h4⟩
 ·omega
 ·unfold maxLen at h2
  have e1 : xs ++ cur.toList.drop (n * k) = cur.toList := by rw [← h4, List.take_append_drop]
  refine ⟨g, cap, cur.toList.drop (n * k), hv, hb, ?_, h1, by omega, ?_⟩
  ·rw [e1]; exact hg
  ·rw [e1]; simpa using h3
theorem box_own {w : World} {base : Nat} {e : TypeId} {k n cap g : Nat} {xs cur : List Value} (hb : base ≤ g) (hg : Box w g e cur.toArray) (hn : n ≤ cap) (hc : cap ≤ 9223372036854775807) (hs : cur.length = cap * k) (ht : cur.take (n * k) = xs) (hl : xs.length = n * k) :
  w.ownsRow base e k (.slice (some ⟨g, 0, none⟩) n cap) n xs :=
 ⟨hl, .inr ⟨g, cap, cur.toArray, rfl, hb, hg, hn, by unfold maxLen; omega, by simpa using hs, by simpa using ht⟩⟩
theorem own_grown {w w1 : World} {base : Nat} {e : TypeId} {k n : Nat} {v : Value} {xs : List Value} {row : Option Nat} (h : w.ownsRow base e k v n xs) (hg : w.grownBy w1 row) (hne : v.ownBlock = none ∨ v.ownBlock ≠ row) : w1.ownsRow base e k v n xs := h.kept hg hne
theorem own_below {w w1 : World} {base : Nat} {e : TypeId} {k n : Nat} {v : Value} {xs : List Value} (h : w.ownsRow base e k v n xs) (hb : Below w.heap.size w w1) : w1.ownsRow base e k v n xs :=
 h.kept (row := none) ⟨hb.os, hb.tape, hb.output, hb.size, fun i hi _ => hb.block i hi⟩ (by cases hv : v.ownBlock <;> simp)
theorem own_base {w : World} {base base' : Nat} {e : TypeId} {k n : Nat} {v : Value} {xs : List Value} (h : w.ownsRow base e k v n xs) (hb : base' ≤ base) : w.ownsRow base' e k v n xs := by
 refine ⟨h.1, ?_⟩
 rcases h.2 with hn | ⟨g, cap, cur, e1, h1, h2⟩
 ·exact .inl hn
 ·exact .inr ⟨g, cap, cur, e1, by omega, h2⟩
end Go.Proofs.YtonjdlialejedaaGreatDoor
namespace Go.Proofs.YtonjdlialejedaaGreatDoor
open Go.Lib (hid)
open Go.RowKit
section
variable {P : Program} {ops : Array Oper} {o : Oper} {a : Act} {w : World} {K : Act → World → Prop} {Q : Exit → Act → World → Prop} {E : Prop}
theorem yields_load_box {S : World → Prop} (hw : Region.wanted o (yielded ops a.tmps) = true) (ty : TypeId) (x : Operand) (ho : o.op = .load ty x) (g : Nat) (t : TypeId) (cs : Array Value) (d : TypeDesc) (hx : a.eval x = .pointer (some ⟨g, 0, none⟩))
  (hS : ∀ w, S w → Box w g t cs) (hu : P.underlying ty = some d) (hd : (match d with | .struct _ | .array _ _ => true | _ => false) = true) (hi : (P.info? ty).map (·.size) = some cs.size) : YieldsIf P ops S o (.agg cs) a :=
 .inl ⟨hw, fun w h => by
  have := run_loadVar_row (P := P) w g t ty cs (0, 0) d (hS w h) hu hd hi
  unfold execOp
  simp only [ho, hx, Instr.loadAt, Instr.sureAddr, Sem.run_bind, Sem.run_pure, Result.andThen_ok, this]⟩
theorem step_store_box (hgd : o.guard = none) (ty : TypeId) (x y : Operand) (ho : o.op = .store ty x y) (g : Nat) (cells : Array Value) (hx : a.eval x = .pointer (some ⟨g, 0, none⟩)) (hy : a.eval y = .agg cells) (t : TypeId) (old : Array Value) (hg : Box w g t old)
  (hi : (P.info? ty).map (·.size) = some cells.size) (hold : old.size = cells.size) (h1 : cells.all (·.oneCell') = true)
  (h : ∀ w', Box w' g t cells → Upd w w' g → w'.heap.size = w.heap.size → K (a.put o.dst undef) w') :
  if Region.wanted o (yielded ops a.tmps) = true then Oper.wp P o a w K Q else E := by
 have hw : Region.wanted o (yielded ops a.tmps) = true := by simp [Region.wanted, hgd]
 rw [if_pos hw]
 exact wp_store_row ty x y ho g cells hx hy t old hg hi hold h1 (h _ (setRow_heap w g old cells t (0, 0) hg) ⟨rfl, rfl, rfl, by simp, fun k _ hn => setRow_other w g k cells (by simpa using hn)⟩ (by simp))
end
section
variable {P : Program} {fn : Func} {tmps : Array Value} {w : World} {p1 p2 u1 u2 : Tmp} {g1 g2 : Nat} {t1 t2 ty1 ty2 : TypeId} {c1 c2 : Array Value} {d1 d2 : TypeDesc}
structure Back (P : Program) (w : World) (tmps : Array Value) (p : Tmp) (ty : TypeId) (cs : Array Value) : Prop where
 out : ∃ a, tmps.getD p undef = .pointer (some a) ∧ (loadVar ty a).run P w = .ok (.agg cs) w
theorem Back.mk' (g : Nat) (t : TypeId) (d : TypeDesc) {p : Tmp} {ty : TypeId} {cs : Array Value} (hp : tmps.getD p undef = .pointer (some ⟨g, 0, none⟩)) (hg : Box w g t cs) (hu : P.underlying ty = some d)
  (hd : (match d with | .struct _ | .array _ _ => true | _ => false) = true) (hi : (P.info? ty).map (·.size) = some cs.size) : Back P w tmps p ty cs := ⟨⟨_, hp, run_loadVar_row (P := P) w g t ty cs (0, 0) d hg hu hd hi⟩⟩
end
end Go.Proofs.YtonjdlialejedaaGreatDoor
namespace Go.Proofs.YtonjdlialejedaaGreatDoor
open Go.Lib (hid)
open Go.RowKit
def byt (l : List UInt8) : ByteArray := ⟨l.toArray⟩
theorem ret_bool {a b : Bool} (h : a = b) : Ending.returned (.bool a) = .returned (.bool b) := by rw [h]
theorem byt_list (s : List UInt8) : (byt s).toList = s := by rw [ByteArray.toList_eq]; rfl
theorem byt_data (s : List UInt8) : (byt s).data.toList = s := rfl
theorem byt_size (s : List UInt8) : (byt s).size = s.length := by simp [byt, ByteArray.size]
theorem byt_inj {a b : List UInt8} (h : byt a = byt b) : a = b := by
 have := congrArg (fun x : ByteArray => x.data.toList) h
 simpa [byt_data] using this
theorem byt_append (a b : List UInt8) : byt a ++ byt b = byt (a ++ b) := by
 unfold byt
 apply ByteArray.ext
 simp
theorem below1 (w : World) (o : Obj) : Below w.heap.size w (w.alloc o) := (Below.refl _ _).alloc (Nat.le_refl _) _
theorem new2 (w : World) (o : Obj) (t : TypeId) (cs : Array Value) : Box ((w.alloc o).alloc (.cells cs t)) (w.heap.size + 1) t cs := by
 have := Box.new (w.alloc o) t cs
 rwa [World.size_alloc] at this
theorem new3 (w : World) (o o' : Obj) (t : TypeId) (cs : Array Value) : Box (((w.alloc o).alloc o').alloc (.cells cs t)) (w.heap.size + 2) t cs := by
 have := Box.new ((w.alloc o).alloc o') t cs
 rwa [World.size_alloc, World.size_alloc] at this
def flat {α : Type} (f : α → Array Value) (l : List α) : List Value := l.flatMap fun x => (f x).toList
section
variable {α : Type} {f : α → Array Value} {k : Nat}
theorem flat_cons (x : α) (l : List α) : flat f (x :: l) = (f x).toList ++ flat f l := rfl
theorem flat_len (hk : ∀ x, (f x).size = k) : ∀ l : List α, (flat f l).length = l.length * k
 | [] => by simp [flat]
 | x :: l => by rw [flat_cons, List.length_append, flat_len hk l, List.length_cons, Nat.add_mul]; simp [hk]; omega
theorem flat_at (hk : ∀ x, (f x).size = k) : ∀ (l : List α) (j : Nat) (x : α), l[j]? = some x → ∀ i v, (f x).toList[i]? = some v → (flat f l)[j * k + i]? = some v
 | [], _, _, h, _, _, _ => by simp at h
 | y :: l, 0, x, h, i, v, hv => by
  simp at h; subst h
  have hi : i < (f y).toList.length := (List.getElem?_eq_some_iff.1 hv).1
  rw [flat_cons, Nat.zero_mul, Nat.zero_add, List.getElem?_append_left hi]; exact hv
 | y :: l, j + 1, x, h, i, v, hv => by
  have h5 : (f y).toList.length = k := by simp [hk]
  rw [flat_cons, List.getElem?_append_right (by rw [h5, Nat.add_mul]; omega), h5, show (j + 1) * k + i - k = j * k + i by rw [Nat.add_mul]; omega]
  exact flat_at hk l j x (by simpa using h) i v hv
end
def Rd (w : World) (_k : Nat) (xs : List Value) (n : Nat) (v : Value) : Prop :=
 ∃ A cap, v = .slice A n cap ∧ n ≤ cap ∧ cap ≤ 9223372036854775807 ∧ (0 < n → ∃ g o, A = some ⟨g, o, none⟩ ∧ g < w.heap.size ∧ w.rangeAt g o xs)
abbrev RdL {α : Type} (w : World) (k : Nat) (f : α → Array Value) (l : List α) (v : Value) : Prop := Rd w k (flat f l) l.length v
section
variable {w w1 : World} {k n : Nat} {xs : List Value} {v : Value}
theorem Rd.keep (h : Rd w k xs n v) (hb : ∀ p : Addr, p.block < w.heap.size → w1.cell? p = w.cell? p) (hz : w.heap.size ≤ w1.heap.size) : Rd w1 k xs n v := by
 obtain ⟨A, cap, e, h1, h2, h3⟩ := h
 refine ⟨A, cap, e, h1, h2, fun hn => ?_⟩
 obtain ⟨g, o, e2, h4, h5⟩ := h3 hn
 exact ⟨g, o, e2, by omega, fun j u hu => by rw [hb _ h4]; exact h5 j u hu⟩
theorem Rd.below (h : Rd w k xs n v) (hb : Below w.heap.size w w1) : Rd w1 k xs n v := h.keep (fun _ hp => hb.cell hp) hb.size
theorem Rd.nil (w : World) (k : Nat) : Rd w k [] 0 (.slice none 0 0) := ⟨none, 0, rfl, Nat.le_refl _, by omega, by omega⟩
theorem Rd.own {base : Nat} {e : TypeId} (h : w.ownsRow base e k v n xs) : Rd w k xs n v := by
 rcases h.2 with ⟨rfl, rfl⟩ | ⟨g, cap, cur, rfl, hb, hg, hn, hc, hs, ht⟩
 ·exact ⟨none, 0, rfl, Nat.le_refl _, by omega, by omega⟩
 ·unfold maxLen at hc
  refine ⟨_, cap, rfl, hn, by omega, fun _ => ⟨g, 0, rfl, (Array.getElem?_eq_some_iff.1 hg).1, fun j u hu => ?_⟩⟩
  have hj : j < n * k := by rw [← h.1]; exact (List.getElem?_eq_some_iff.1 hu).1
  rw [Nat.zero_add, h.cellAt j hj]; exact hu
end
theorem RdL.elem {α : Type} {w : World} {k : Nat} {f : α → Array Value} {l : List α} {g o j : Nat} {x : α} (hk : ∀ x, (f x).size = k)
  (h : w.rangeAt g o (flat f l)) (hx : l[j]? = some x) : w.rangeAt g (o + j * k) (f x).toList := fun i v hv => by
 have := flat_at hk l j x hx i v hv
 have h2 := h _ _ this
 rw [← Nat.add_assoc] at h2; exact h2
def Apart (u v : Value) : Prop := ∀ g, u.ownBlock = some g → v.ownBlock ≠ some g
theorem Apart.symm {u v : Value} (h : Apart u v) : Apart v u := fun g hv hu => h g hu hv
theorem Apart.ne {u v : Value} (h : Apart u v) : u.ownBlock = none ∨ u.ownBlock ≠ v.ownBlock := by
 cases hu : u.ownBlock with
 | none => exact .inl rfl
 | some g => exact .inr (fun e => h g hu e.symm)
theorem Apart.nil (v : Value) (n c : Nat) : Apart (.slice none n c) v := fun g h => by simp [Value.ownBlock] at h
theorem own_one {w : World} {B e k n : Nat} {v : Value} {xs : List Value} (h : w.ownsRow B e k v n xs) : v.oneCell' = true := by
 rcases h.2 with ⟨rfl, _⟩ | ⟨_, _, _, rfl, _⟩ <;> rfl
theorem own_far {w w1 : World} {base g : Nat} {e : TypeId} {k n : Nat} {v : Value} {xs : List Value} (h : w.ownsRow base e k v n xs) (hu : Upd w w1 g) (hg : g < base) : w1.ownsRow base e k v n xs :=
 own_grown h hu (by
  cases hv : v.ownBlock with
  | none => exact .inl rfl
  | some b => exact .inr (fun e => by injection e with e; have := (h.lt b hv).1; omega))
end Go.Proofs.YtonjdlialejedaaGreatDoor
namespace Go.Proofs.YtonjdlialejedaaGreatDoor
open Go.Lib (hid)
open Go.RowKit
def nc (k n : Int) (t : List UInt8) (v : Value) : Array Value := #[.int .i64 k, .int .i64 n, .string (byt t), v]
def flatA (l : List (Array Value)) : List Value := l.flatMap Array.toList
mutual
def NodeAt (w : World) (S : Nat → Prop) : Pars.Node → Array Value → Prop
 | .mk k n t l, cs => ∃ (A : Option Addr) (cap : Nat) (css : List (Array Value)), cs = nc k n t (.slice A l.length cap) ∧ l.length ≤ cap ∧ cap ≤ 9223372036854775807 ∧
   (0 < l.length → ∃ g o, A = some ⟨g, o, none⟩ ∧ S g ∧ g < w.heap.size ∧ w.rangeAt g o (flatA css)) ∧ NodesAt w S l css
def NodesAt (w : World) (S : Nat → Prop) : List Pars.Node → List (Array Value) → Prop
 | [], [] => True
 | n :: l, c :: cs => NodeAt w S n c ∧ NodesAt w S l cs
 | [], _ :: _ => False
 | _ :: _, [] => False
end
theorem NodesAt.len {w : World} {S : Nat → Prop} : ∀ {l : List Pars.Node} {cs : List (Array Value)}, NodesAt w S l cs → cs.length = l.length
 | [], [], _ => rfl
 | _ :: l, _ :: cs, h => by unfold NodesAt at h; simp [NodesAt.len h.2]
 | [], _ :: _, h => by unfold NodesAt at h; exact h.elim
 | _ :: _, [], h => by unfold NodesAt at h; exact h.elim
mutual
theorem NodeAt.keep {w w1 : World} {S S1 : Nat → Prop} (hs : ∀ g, S g → g < w.heap.size → S1 g) (hz : w.heap.size ≤ w1.heap.size) (hb : ∀ g, S g → g < w.heap.size → w1.heap[g]? = w.heap[g]?) : ∀ {n : Pars.Node} {cs : Array Value}, NodeAt w S n cs → NodeAt w1 S1 n cs
 | .mk k n t l, cs, h => by
  unfold NodeAt at h ⊢
  obtain ⟨A, cap, css, h1, h2, h3, h4, h5⟩ := h
  refine ⟨A, cap, css, h1, h2, h3, fun hl => ?_, NodesAt.keep hs hz hb h5⟩
  obtain ⟨g, o, e1, e2, e3, e4⟩ := h4 hl
  refine ⟨g, o, e1, hs g e2 e3, by omega, fun i u hu => ?_⟩
  rw [World.cell?_of_block (hb g e2 e3)]
  exact e4 i u hu
theorem NodesAt.keep {w w1 : World} {S S1 : Nat → Prop} (hs : ∀ g, S g → g < w.heap.size → S1 g) (hz : w.heap.size ≤ w1.heap.size) (hb : ∀ g, S g → g < w.heap.size → w1.heap[g]? = w.heap[g]?) : ∀ {l : List Pars.Node} {cs : List (Array Value)}, NodesAt w S l cs → NodesAt w1 S1 l cs
 | [], [], _ => by unfold NodesAt; trivial
 | n :: l, c :: cs, h => by
  unfold NodesAt at h ⊢
  exact ⟨NodeAt.keep hs hz hb h.1, NodesAt.keep hs hz hb h.2⟩
 | [], _ :: _, h => by unfold NodesAt at h; exact h.elim
 | _ :: _, [], h => by unfold NodesAt at h; exact h.elim
end
theorem NodeAt.size {w : World} {S : Nat → Prop} : ∀ {n : Pars.Node} {cs : Array Value}, NodeAt w S n cs → cs.size = 4
 | .mk k n t l, cs, h => by unfold NodeAt at h; obtain ⟨A, cap, css, rfl, _⟩ := h; rfl
theorem NodeAt.one {w : World} {S : Nat → Prop} : ∀ {n : Pars.Node} {cs : Array Value}, NodeAt w S n cs → cs.all (·.oneCell') = true
 | .mk k n t l, cs, h => by unfold NodeAt at h; obtain ⟨A, cap, css, rfl, _⟩ := h; simp [nc, Value.oneCell']
theorem NodeAt.leaf (w : World) (S : Nat → Prop) (k n : Int) (t : List UInt8) : NodeAt w S (.mk k n t []) (nc k n t (.slice none 0 0)) := by
 unfold NodeAt
 exact ⟨none, 0, [], rfl, Nat.le_refl _, by omega, fun h => absurd h (by simp), by unfold NodesAt; trivial⟩
theorem NodesAt.snoc {w : World} {S : Nat → Prop} {n : Pars.Node} {c : Array Value} (hn : NodeAt w S n c) : ∀ {l : List Pars.Node} {cs : List (Array Value)}, NodesAt w S l cs → NodesAt w S (l ++ [n]) (cs ++ [c])
 | [], [], _ => by simp only [List.nil_append]; unfold NodesAt; exact ⟨hn, by unfold NodesAt; trivial⟩
 | m :: l, d :: cs, h => by unfold NodesAt at h; simp only [List.cons_append]; unfold NodesAt; exact ⟨h.1, NodesAt.snoc hn h.2⟩
 | [], _ :: _, h => by unfold NodesAt at h; exact h.elim
 | _ :: _, [], h => by unfold NodesAt at h; exact h.elim
theorem flatA_append (a b : List (Array Value)) : flatA (a ++ b) = flatA a ++ flatA b := by simp [flatA]
theorem NodesAt.flat_len {w : World} {S : Nat → Prop} : ∀ {l : List Pars.Node} {cs : List (Array Value)}, NodesAt w S l cs → (flatA cs).length = l.length * 4
 | [], [], _ => rfl
 | n :: l, c :: cs, h => by
  unfold NodesAt at h
  have h1 := NodeAt.size h.1
  have h2 := NodesAt.flat_len h.2
  simp only [flatA, List.flatMap_cons, List.length_append, List.length_cons] at h2 ⊢
  rw [h2, Array.length_toList, h1]; omega
 | [], _ :: _, h => by unfold NodesAt at h; exact h.elim
 | _ :: _, [], h => by unfold NodesAt at h; exact h.elim
def kc (p : Lexy.Tk × Int × Int) : Array Value := #[.int .i64 (p.1.kind : Int), .int .i64 p.2.1, .int .i64 p.2.2, .string (byt p.1.text), .int .i64 (p.1.num : Int)]
theorem kc_one (p : Lexy.Tk × Int × Int) : (kc p).all (·.oneCell') = true := by simp [kc, Value.oneCell']
def KRd (w : World) (ts : List (Lexy.Tk × Int × Int)) (v : Value) : Prop := Rd w 5 (flat kc ts) ts.length v
def pc (v : Value) (k : Nat) (fn lp : Bool) : Array Value := #[v, .int .i64 (k : Int), .bool fn, .bool lp]
def toks (ts : List (Lexy.Tk × Int × Int)) : List Lexy.Tk := ts.map (·.1)
end Go.Proofs.YtonjdlialejedaaGreatDoor
