/-
  Texts that the law leans on: Gen, PmA, PmB, ParE, ParK, PmC, PwC. Conditions: as each says.
-/
import Derived.Test.YtonjdlialejedaaGreatDoorFAa
import Derived.WalkKit
import Derived.WalkSpells
import Derived.Deep.QuietTactic
import Derived.BigQuiet
import Derived.Below
import Derived.Lib.Hide
import Derived.Handy
import Derived.Deep.MidRow
import Derived.Deep.RegionHeld3
import Derived.Deep.AppendLies
import Derived.Deep.LoopGhost
import Derived.Deep.Cut
import Derived.Deep.RegionLaw
import Derived.WalkLawsBesides
import Derived.Shelf.Abstract
import Derived.Test.YtonjdlialejedaaGreatDoorShelfW
set_option linter.unusedSimpArgs false
set_option linter.unusedVariables false
namespace Go.Proofs.YtonjdlialejedaaGreatDoor
open Go.Lib (hid)
open Go.RowKit
def byt (l : List UInt8) : ByteArray := ⟨l.toArray⟩
theorem ret_bool {a b : Bool} (h : a = b) : Ending.returned (.bool a) = .returned (.bool b) := by rw [h]
theorem byt_list (s : List UInt8) : (byt s).toList = s := by rw [ByteArray.toList_eq]; rfl
theorem byt_data (s : List UInt8) : (byt s).data.toList = s := rfl
theorem byt_size (s : List UInt8) : (byt s).size = s.length := by simp [byt, ByteArray.size]
theorem byt_inj {a b : List UInt8} (h : byt a = byt b) : a = b := by
 have := congrArg (fun x : ByteArray => x.data.toList) h
 simpa [byt_data] using this
theorem byt_append (a b : List UInt8) : byt a ++ byt b = byt (a ++ b) := by
 unfold byt
 apply ByteArray.ext
 simp
theorem below1 (w : World) (o : Obj) : Below w.heap.size w (w.alloc o) := (Below.refl _ _).alloc (Nat.le_refl _) _
theorem new2 (w : World) (o : Obj) (t : TypeId) (cs : Array Value) : Box ((w.alloc o).alloc (.cells cs t)) (w.heap.size + 1) t cs := by
 have := Box.new (w.alloc o) t cs
 rwa [World.size_alloc] at this
theorem new3 (w : World) (o o' : Obj) (t : TypeId) (cs : Array Value) : Box (((w.alloc o).alloc o').alloc (.cells cs t)) (w.heap.size + 2) t cs := by
 have := Box.new ((w.alloc o).alloc o') t cs
 rwa [World.size_alloc, World.size_alloc] at this
theorem byt_of (s : ByteArray) : ∃ l : List UInt8, s = byt l := ⟨s.data.toList, by cases s; simp [byt]⟩
def flat {α : Type} (f : α → Array Value) (l : List α) : List Value := l.flatMap fun x => (f x).toList
section
variable {α : Type} {f : α → Array Value} {k : Nat}
theorem flat_cons (x : α) (l : List α) : flat f (x :: l) = (f x).toList ++ flat f l := rfl
theorem flat_len (hk : ∀ x, (f x).size = k) : ∀ l : List α, (flat f l).length = l.length * k
 | [] => by simp [flat]
 | x :: l => by rw [flat_cons, List.length_append, flat_len hk l, List.length_cons, Nat.add_mul]; simp [hk]; omega
theorem flat_at (hk : ∀ x, (f x).size = k) : ∀ (l : List α) (j : Nat) (x : α), l[j]? = some x → ∀ i v, (f x).toList[i]? = some v → (flat f l)[j * k + i]? = some v
 | [], _, _, h, _, _, _ => by simp at h
 | y :: l, 0, x, h, i, v, hv => by
  simp at h; subst h
  have hi : i < (f y).toList.length := (List.getElem?_eq_some_iff.1 hv).1
  rw [flat_cons, Nat.zero_mul, Nat.zero_add, List.getElem?_append_left hi]; exact hv
 | y :: l, j + 1, x, h, i, v, hv => by
  have h5 : (f y).toList.length = k := by simp [hk]
  rw [flat_cons, List.getElem?_append_right (by rw [h5, Nat.add_mul]; omega), h5, show (j + 1) * k + i - k = j * k + i by rw [Nat.add_mul]; omega]
  exact flat_at hk l j x (by simpa using h) i v hv
end
def Rd (w : World) (_k : Nat) (xs : List Value) (n : Nat) (v : Value) : Prop :=
 ∃ A cap, v = .slice A n cap ∧ n ≤ cap ∧ cap ≤ 9223372036854775807 ∧ (0 < n → ∃ g o, A = some ⟨g, o, none⟩ ∧ g < w.heap.size ∧ w.rangeAt g o xs)
abbrev RdL {α : Type} (w : World) (k : Nat) (f : α → Array Value) (l : List α) (v : Value) : Prop := Rd w k (flat f l) l.length v
section
variable {w w1 : World} {k n : Nat} {xs : List Value} {v : Value}
theorem Rd.keep (h : Rd w k xs n v) (hb : ∀ p : Addr, p.block < w.heap.size → w1.cell? p = w.cell? p) (hz : w.heap.size ≤ w1.heap.size) : Rd w1 k xs n v := by
 obtain ⟨A, cap, e, h1, h2, h3⟩ := h
 refine ⟨A, cap, e, h1, h2, fun hn => ?_⟩
 obtain ⟨g, o, e2, h4, h5⟩ := h3 hn
 exact ⟨g, o, e2, by omega, fun j u hu => by rw [hb _ h4]; exact h5 j u hu⟩
theorem Rd.below (h : Rd w k xs n v) (hb : Below w.heap.size w w1) : Rd w1 k xs n v := h.keep (fun _ hp => hb.cell hp) hb.size
theorem Rd.nil (w : World) (k : Nat) : Rd w k [] 0 (.slice none 0 0) := ⟨none, 0, rfl, Nat.le_refl _, by omega, by omega⟩
theorem Rd.own {base : Nat} {e : TypeId} (h : w.ownsRow base e k v n xs) : Rd w k xs n v := by
 rcases h.2 with ⟨rfl, rfl⟩ | ⟨g, cap, cur, rfl, hb, hg, hn, hc, hs, ht⟩
 ·exact ⟨none, 0, rfl, Nat.le_refl _, by omega, by omega⟩
 ·unfold maxLen at hc
  refine ⟨_, cap, rfl, hn, by omega, fun _ => ⟨g, 0, rfl, (Array.getElem?_eq_some_iff.1 hg).1, fun j u hu => ?_⟩⟩
  have hj : j < n * k := by rw [← h.1]; exact (List.getElem?_eq_some_iff.1 hu).1
  rw [Nat.zero_add, h.cellAt j hj]; exact hu
end
theorem RdL.elem {α : Type} {w : World} {k : Nat} {f : α → Array Value} {l : List α} {g o j : Nat} {x : α} (hk : ∀ x, (f x).size = k)
  (h : w.rangeAt g o (flat f l)) (hx : l[j]? = some x) : w.rangeAt g (o + j * k) (f x).toList := fun i v hv => by
 have := flat_at hk l j x hx i v hv
 have h2 := h _ _ this
 rw [← Nat.add_assoc] at h2; exact h2
def Apart (u v : Value) : Prop := ∀ g, u.ownBlock = some g → v.ownBlock ≠ some g
theorem Apart.symm {u v : Value} (h : Apart u v) : Apart v u := fun g hv hu => h g hu hv
theorem Apart.ne {u v : Value} (h : Apart u v) : u.ownBlock = none ∨ u.ownBlock ≠ v.ownBlock := by
 cases hu : u.ownBlock with
 | none => exact .inl rfl
 | some g => exact .inr (fun e => h g hu e.symm)
theorem Apart.nil (v : Value) (n c : Nat) : Apart (.slice none n c) v := fun g h => by simp [Value.ownBlock] at h
theorem own_slice {w : World} {B e k n : Nat} {v : Value} {xs : List Value} (h : w.ownsRow B e k v n xs) : ∃ A cap, v = .slice A n cap := by
 rcases h.2 with ⟨rfl, rfl⟩ | ⟨_, _, _, rfl, _⟩
 ·exact ⟨_, _, rfl⟩
 ·exact ⟨_, _, rfl⟩
theorem own_one {w : World} {B e k n : Nat} {v : Value} {xs : List Value} (h : w.ownsRow B e k v n xs) : v.oneCell' = true := by
 rcases h.2 with ⟨rfl, _⟩ | ⟨_, _, _, rfl, _⟩ <;> rfl
theorem own_far {w w1 : World} {base g : Nat} {e : TypeId} {k n : Nat} {v : Value} {xs : List Value} (h : w.ownsRow base e k v n xs) (hu : Upd w w1 g) (hg : g < base) : w1.ownsRow base e k v n xs :=
 own_grown h hu (by
  cases hv : v.ownBlock with
  | none => exact .inl rfl
  | some b => exact .inr (fun e => by injection e with e; have := (h.lt b hv).1; omega))
end Go.Proofs.YtonjdlialejedaaGreatDoor
namespace Go.Proofs.YtonjdlialejedaaGreatDoor
open Go.Lib (hid)
open Go.RowKit
def nc (k n : Int) (t : List UInt8) (v : Value) : Array Value := #[.int .i64 k, .int .i64 n, .string (byt t), v]
def flatA (l : List (Array Value)) : List Value := l.flatMap Array.toList
mutual
def NodeAt (w : World) (S : Nat → Prop) : Pars.Node → Array Value → Prop
 | .mk k n t l, cs => ∃ (A : Option Addr) (cap : Nat) (css : List (Array Value)), cs = nc k n t (.slice A l.length cap) ∧ l.length ≤ cap ∧ cap ≤ 9223372036854775807 ∧
   (0 < l.length → ∃ g o, A = some ⟨g, o, none⟩ ∧ S g ∧ g < w.heap.size ∧ w.rangeAt g o (flatA css)) ∧ NodesAt w S l css
def NodesAt (w : World) (S : Nat → Prop) : List Pars.Node → List (Array Value) → Prop
 | [], [] => True
 | n :: l, c :: cs => NodeAt w S n c ∧ NodesAt w S l cs
 | [], _ :: _ => False
 | _ :: _, [] => False
end
theorem NodesAt.len {w : World} {S : Nat → Prop} : ∀ {l : List Pars.Node} {cs : List (Array Value)}, NodesAt w S l cs → cs.length = l.length
 | [], [], _ => rfl
 | _ :: l, _ :: cs, h => by unfold NodesAt at h; simp [NodesAt.len h.2]
 | [], _ :: _, h => by unfold NodesAt at h; exact h.elim
 | _ :: _, [], h => by unfold NodesAt at h; exact h.elim
mutual
theorem NodeAt.keep {w w1 : World} {S S1 : Nat → Prop} (hs : ∀ g, S g → g < w.heap.size → S1 g) (hz : w.heap.size ≤ w1.heap.size) (hb : ∀ g, S g → g < w.heap.size → w1.heap[g]? = w.heap[g]?) : ∀ {n : Pars.Node} {cs : Array Value}, NodeAt w S n cs → NodeAt w1 S1 n cs
 | .mk k n t l, cs, h => by
  unfold NodeAt at h ⊢
  obtain ⟨A, cap, css, h1, h2, h3, h4, h5⟩ := h
  refine ⟨A, cap, css, h1, h2, h3, fun hl => ?_, NodesAt.keep hs hz hb h5⟩
  obtain ⟨g, o, e1, e2, e3, e4⟩ := h4 hl
  refine ⟨g, o, e1, hs g e2 e3, by omega, fun i u hu => ?_⟩
  rw [World.cell?_of_block (hb g e2 e3)]
  exact e4 i u hu
theorem NodesAt.keep {w w1 : World} {S S1 : Nat → Prop} (hs : ∀ g, S g → g < w.heap.size → S1 g) (hz : w.heap.size ≤ w1.heap.size) (hb : ∀ g, S g → g < w.heap.size → w1.heap[g]? = w.heap[g]?) : ∀ {l : List Pars.Node} {cs : List (Array Value)}, NodesAt w S l cs → NodesAt w1 S1 l cs
 | [], [], _ => by unfold NodesAt; trivial
 | n :: l, c :: cs, h => by
  unfold NodesAt at h ⊢
  exact ⟨NodeAt.keep hs hz hb h.1, NodesAt.keep hs hz hb h.2⟩
 | [], _ :: _, h => by unfold NodesAt at h; exact h.elim
 | _ :: _, [], h => by unfold NodesAt at h; exact h.elim
end
theorem NodeAt.size {w : World} {S : Nat → Prop} : ∀ {n : Pars.Node} {cs : Array Value}, NodeAt w S n cs → cs.size = 4
 | .mk k n t l, cs, h => by unfold NodeAt at h; obtain ⟨A, cap, css, rfl, _⟩ := h; rfl
theorem NodeAt.one {w : World} {S : Nat → Prop} : ∀ {n : Pars.Node} {cs : Array Value}, NodeAt w S n cs → cs.all (·.oneCell') = true
 | .mk k n t l, cs, h => by unfold NodeAt at h; obtain ⟨A, cap, css, rfl, _⟩ := h; simp [nc, Value.oneCell']
theorem NodeAt.leaf (w : World) (S : Nat → Prop) (k n : Int) (t : List UInt8) : NodeAt w S (.mk k n t []) (nc k n t (.slice none 0 0)) := by
 unfold NodeAt
 exact ⟨none, 0, [], rfl, Nat.le_refl _, by omega, fun h => absurd h (by simp), by unfold NodesAt; trivial⟩
theorem NodesAt.snoc {w : World} {S : Nat → Prop} {n : Pars.Node} {c : Array Value} (hn : NodeAt w S n c) : ∀ {l : List Pars.Node} {cs : List (Array Value)}, NodesAt w S l cs → NodesAt w S (l ++ [n]) (cs ++ [c])
 | [], [], _ => by simp only [List.nil_append]; unfold NodesAt; exact ⟨hn, by unfold NodesAt; trivial⟩
 | m :: l, d :: cs, h => by unfold NodesAt at h; simp only [List.cons_append]; unfold NodesAt; exact ⟨h.1, NodesAt.snoc hn h.2⟩
 | [], _ :: _, h => by unfold NodesAt at h; exact h.elim
 | _ :: _, [], h => by unfold NodesAt at h; exact h.elim
theorem flatA_append (a b : List (Array Value)) : flatA (a ++ b) = flatA a ++ flatA b := by simp [flatA]
theorem NodesAt.flat_len {w : World} {S : Nat → Prop} : ∀ {l : List Pars.Node} {cs : List (Array Value)}, NodesAt w S l cs → (flatA cs).length = l.length * 4
 | [], [], _ => rfl
 | n :: l, c :: cs, h => by
  unfold NodesAt at h
  have h1 := NodeAt.size h.1
  have h2 := NodesAt.flat_len h.2
  simp only [flatA, List.flatMap_cons, List.length_append, List.length_cons] at h2 ⊢
  rw [h2, Array.length_toList, h1]; omega
 | [], _ :: _, h => by unfold NodesAt at h; exact h.elim
 | _ :: _, [], h => by unfold NodesAt at h; exact h.elim
def kc (p : Lexy.Tk × Int × Int) : Array Value := #[.int .i64 (p.1.kind : Int), .int .i64 p.2.1, .int .i64 p.2.2, .string (byt p.1.text), .int .i64 (p.1.num : Int)]
theorem kc_one (p : Lexy.Tk × Int × Int) : (kc p).all (·.oneCell') = true := by simp [kc, Value.oneCell']
def KRd (w : World) (ts : List (Lexy.Tk × Int × Int)) (v : Value) : Prop := Rd w 5 (flat kc ts) ts.length v
def pc (v : Value) (k : Nat) (fn lp : Bool) : Array Value := #[v, .int .i64 (k : Int), .bool fn, .bool lp]
def toks (ts : List (Lexy.Tk × Int × Int)) : List Lexy.Tk := ts.map (·.1)
end Go.Proofs.YtonjdlialejedaaGreatDoor
namespace Go.Proofs.YtonjdlialejedaaGreatDoor
open Go.Lib (hid)
open Go.RowKit
abbrev KT := Lexy.Tk × Int × Int
theorem info_tok : (Tryz.prog.info? 40).map (·.size) = some 5 := by kernel_rfl
theorem info_nod : (Tryz.prog.info? 24).map (·.size) = some 4 := by kernel_rfl
structure PSt (w : World) (b : Nat) (ts : List KT) (A : Option Addr) (c k : Nat) (fn lp : Bool) : Prop where
 box : Box w b 76 (pc (.slice A ts.length c) k fn lp)
 ks : KRd w ts (.slice A ts.length c)
 kle : k ≤ ts.length
 ne : ∀ g o, A = some ⟨g, o, none⟩ → g ≠ b
 len : ts.length ≤ 1000
theorem PSt.below {w w1 : World} {b : Nat} {ts : List KT} {A : Option Addr} {c k : Nat} {fn lp : Bool} (h : PSt w b ts A c k fn lp) (hb : Below w.heap.size w w1) : PSt w1 b ts A c k fn lp :=
 ⟨h.box.below hb h.box.lt, Rd.below h.ks hb, h.kle, h.ne, h.len⟩
theorem PSt.upd {w w1 : World} {b : Nat} {ts : List KT} {A : Option Addr} {c k k1 : Nat} {fn lp fn1 lp1 : Bool} (h : PSt w b ts A c k fn lp) (hx : Box w1 b 76 (pc (.slice A ts.length c) k1 fn1 lp1)) (hu : Upd w w1 b) (hk : k1 ≤ ts.length) : PSt w1 b ts A c k1 fn1 lp1 := by
 refine ⟨hx, ?_, hk, h.ne, h.len⟩
 obtain ⟨A', cap, e, h1, h2, h3⟩ := h.ks
 refine ⟨A', cap, e, h1, h2, fun hn => ?_⟩
 obtain ⟨g, o, rfl, hg, hr⟩ := h3 hn
 injection e with e _ _
 have hz := hu.size
 refine ⟨g, o, rfl, by omega, fun i u hi => ?_⟩
 rw [World.cell?_of_block (hu.block g hg (by intro x; injection x with x; exact h.ne g o e x))]
 exact hr i u hi
def left (ts : List KT) (k : Nat) : List Lexy.Tk := (toks ts).drop k
theorem left_cons {ts : List KT} {k : Nat} {t : KT} (h : ts[k]? = some t) : left ts k = t.1 :: left ts (k + 1) := by
 have h1 : (toks ts)[k]? = some t.1 := by unfold toks; rw [List.getElem?_map, h]; rfl
 have hlt := (List.getElem?_eq_some_iff.1 h1).1
 unfold left
 rw [List.drop_eq_getElem_cons hlt, (List.getElem?_eq_some_iff.1 h1).2]
theorem left_nil {ts : List KT} {k : Nat} (h : ts.length ≤ k) : left ts k = [] := by unfold left; exact List.drop_eq_nil_of_le (by simpa [toks] using h)
def here (ts : List KT) (k : Nat) : Array Value := match ts[k]? with
 | some t => kc t
 | none => #[.int .i64 0, .int .i64 0, .int .i64 0, .string ⟨#[]⟩, .int .i64 0]
theorem same_yes (A : ByteArray) : (A.toList == A.toList) = true ∧ decide (A.toList = A.toList) = true := by simp
theorem same_no {A B : ByteArray} (h : A ≠ B) : (A.toList == B.toList) = false ∧ decide (A.toList = B.toList) = false ∧ decide (A = B) = false := by
 have h1 : ¬ A.toList = B.toList := fun e => h (by cases A; cases B; simpa [ByteArray.toList_eq] using e)
 exact ⟨bn h1, decide_eq_false h1, decide_eq_false h⟩
theorem tz_one : (#[.int .i64 0, .int .i64 0, .int .i64 0, .string ⟨#[]⟩, .int .i64 0] : Array Value).all (·.oneCell') = true := by simp [Value.oneCell']
theorem ktok_one (ts : List KT) (k : Nat) : (here ts k).all (·.oneCell') = true := by
 unfold here
 split
 ·exact kc_one _
 ·simp [Value.oneCell']
theorem ktok_size (ts : List KT) (k : Nat) : (here ts k).size = 5 := by unfold here; split <;> rfl
set_option maxRecDepth 100000 in
set_option maxHeartbeats 4000000 in
theorem peek_any (w : World) (b : Nat) (ts : List KT) (A : Option Addr) (c k : Nat) (fn lp : Bool) (h : PSt w b ts A c k fn lp) :
  Calls Tryz.prog 59 #[.pointer (some ⟨b, 0, none⟩)] w fun e w' => e = .returned (.agg (here ts k)) ∧ Below w.heap.size w w' := by
 have hb := h.box
 have hkle := h.kle
 have HKS := hid h.ks
 have hlt := hb.lt
 obtain ⟨n, hn⟩ : ∃ n, ts.length = n := ⟨_, rfl⟩
 have HN := hid hn
 rw [hn] at hb hkle
 clear hn h
 go_enter Tryz.func59, Tryz.ntmps59
 go_upto_region 1 with fail
 have HR0 := hid (Box.new w 40 #[.int .i64 0, .int .i64 0, .int .i64 0, .string ⟨#[]⟩, .int .i64 0])
 have hU0 : Below w.heap.size w (w.alloc (.cells #[.int .i64 0, .int .i64 0, .int .i64 0, .string ⟨#[]⟩, .int .i64 0] 40)) := below1 w _
 have hb1 := hb.below hU0 hlt
 obtain ⟨W0, hW0⟩ : ∃ W0, (w.alloc (.cells #[.int .i64 0, .int .i64 0, .int .i64 0, .string ⟨#[]⟩, .int .i64 0] 40)) = W0 := ⟨_, rfl⟩
 rw [hW0] at HR0 hU0 hb1
 rw [hW0]
 clear hW0 hb
 have HU0 := hid hU0
 have c0 := hb1.cell 0
 have c1 := hb1.cell 1
 simp [pc] at c0 c1
 clear hb1 hU0
 by_cases y : k < n
 ·have d1 : decide ((k : Int) < (n : Int)) = true := decide_eq_true (by omega)
  have d2 : (k : Int) < (n : Int) := by omega
  obtain ⟨t, ht⟩ : ∃ t, ts[k]? = some t := ⟨_, List.getElem?_eq_getElem (by rw [HN.out]; exact y)⟩
  have HH : Hid (here ts k = kc t) := hid (by unfold here; rw [ht])
  obtain ⟨X, cx, e1, h1, h2, h3⟩ := HKS.out
  injection e1 with e1 _ e2
  subst e1 e2
  obtain ⟨g0, o0, rfl, hg0, hr0⟩ := h3 (by rw [HN.out]; omega)
  have hrow := RdL.elem (k := 5) (f := kc) (fun _ => rfl) hr0 ht
  have HROW : Hid (W0.rangeAt g0 (o0 + k * 5) (kc t).toList) := hid (fun i u hu => by rw [HU0.out.cell (p := ⟨g0, o0 + k * 5 + i, none⟩) hg0]; exact hrow i u hu)
  have hg0' := HU0.out.size
  clear y ht h1 h2 h3 hr0 hrow HKS
  go_quiet (fail)
  go_upto_region 2 with fail
  obtain ⟨W1, hW1⟩ : ∃ W1, W0.drewN nq = W1 := ⟨_, rfl⟩
  have hd1 : Below W0.heap.size W0 W1 := hW1 ▸ below_drewN (Below.refl _ W0) nq
  rw [hW1]
  have c0 := (hd1.cell (p := ⟨b, 0, none⟩) (block_lt_of_cell c0)).trans c0
  have c1 := (hd1.cell (p := ⟨b, 1, none⟩) (block_lt_of_cell c1)).trans c1
  have HROW : Hid (W1.rangeAt g0 (o0 + k * 5) (kc t).toList) := hid (fun i u hu => by rw [hd1.cell (p := ⟨g0, o0 + k * 5 + i, none⟩) (by show g0 < _; omega)]; exact HROW.out i u hu)
  have HR1 := bl HR0 hd1
  have HU1 := hid (HU0.out.trans (hd1.mono HU0.out.size))
  clear hW1 hd1
  refine wp_region_held_drew (S := fun w' => w'.cell? ⟨b, 0, none⟩ = some (.slice (some ⟨g0, o0, none⟩) n c) ∧ w'.cell? ⟨b, 1, none⟩ = some (.int .i64 (k : Int)) ∧ w'.rangeAt g0 (o0 + k * 5) (kc t).toList ∧ Below w.heap.size w w') (by kernel_rfl) ⟨c0, c1, HROW.out, HU1.out.drew⟩ (fun hHeld => ?_)
  refine tH (i := 0) (v := ?_) rfl ?_ (by assumption) ?_
  rotate_left
  ·intro w hSw
   obtain ⟨s1, s2, s3, s4⟩ := hSw
   go_simp
   try (with_reducible rfl)
  (try simp only [Act.put, sq])
  refine tH (i := 1) (v := ?_) rfl ?_ (by assumption) ?_
  rotate_left
  ·intro w hSw
   obtain ⟨s1, s2, s3, s4⟩ := hSw
   go_simp
   try (with_reducible rfl)
  (try simp only [Act.put, sq])
  refine tH (i := 2) (v := ?_) rfl ?_ (by assumption) ?_
  rotate_left
  ·intro w hSw
   obtain ⟨s1, s2, s3, s4⟩ := hSw
   go_simp
   try (with_reducible rfl)
  (try simp only [Act.put, sq])
  refine tH (i := 3) (v := ?_) rfl ?_ (by assumption) ?_
  rotate_left
  ·intro w hSw
   obtain ⟨s1, s2, s3, s4⟩ := hSw
   go_simp
   try (with_reducible rfl)
  (try simp only [Act.put, sq])
  refine tH (i := 4) (v := ?_) rfl ?_ (by assumption) ?_
  rotate_left
  ·intro w hSw
   obtain ⟨s1, s2, s3, s4⟩ := hSw
   go_simp
   try (with_reducible rfl)
  (try simp only [Act.put, sq])
  refine tH (i := 5) (v := ?_) rfl ?_ (by assumption) ?_
  rotate_left
  ·intro w hSw
   obtain ⟨s1, s2, s3, s4⟩ := hSw
   go_simp
   try (with_reducible rfl)
  (try simp only [Act.put, sq])
  refine tH (i := 6) (v := ?_) rfl ?_ (by assumption) ?_
  rotate_left
  ·intro w hSw
   obtain ⟨s1, s2, s3, s4⟩ := hSw
   go_simp
   try (with_reducible rfl)
  (try simp only [Act.put, sq])
  refine tH (i := 7) (v := ?_) rfl ?_ (by assumption) ?_
  rotate_left
  ·intro w hSw
   obtain ⟨s1, s2, s3, s4⟩ := hSw
   go_simp
   try (with_reducible rfl)
  (try simp only [Act.put, sq])
  refine tH (i := 8) (v := .pointer (some ⟨g0, o0 + k * 5, none⟩)) rfl ?_ (by assumption) ?_
  ·intro w hSw
   obtain ⟨s1, s2, s3, s4⟩ := hSw
   go_simp
  (try simp only [Act.put, sq])
  refine wpAnyH_take (i := 9) (v := _) rfl (by kernel_rfl) (by kernel_rfl) (by kernel_rfl) (fun _ _ _ h => h) (yieldsIf_load_mid (by kernel_rfl) 40 (.tmp 21) rfl (g0) (o0 + k * 5) rfl ((kc t).toList) _ (fun _ h => h.2.2.1) Tryz.underlying40 rfl info_tok) (by assumption) ?_
  (try simp only [Act.put, sq])
  have hzz1 := HR1.out.lt
  have hzz2 := HU1.out.size
  refine rdH 10 rfl fun K hK => ?_
  refine step_store_box rfl 40 (.tmp 2) (.tmp 22) rfl w.heap.size (kc t) rfl rfl 40 _ (Box.drew HR1.out) info_tok rfl (kc_one t) ?_
  intro wz hxz huz hzz
  refine hK.out _ _ ⟨(World.cell?_of_block (huz.block b (by show b < _; first | omega | (simp; omega)) (by simp; omega))).trans hHeld.1, (World.cell?_of_block (huz.block b (by show b < _; first | omega | (simp; omega)) (by simp; omega))).trans hHeld.2.1, fun i u hu => (World.cell?_of_block (huz.block g0 (by show g0 < _; first | omega | (simp; omega)) (by simp; omega))).trans (hHeld.2.2.1 i u hu), hHeld.2.2.2.trans (huz.own (Nat.le_refl _) hHeld.2.2.2.size)⟩ (fun hHeld => ?_)
  clear hK K
  (try simp only [Act.put, sq])
  refine wpAnyH_done (by kernel_rfl) ?_ _
  go_wp2
  refine bodyPost_ret (results_box rfl _ _ w.heap.size 40 _ _ rfl hxz Tryz.underlying40 rfl info_tok) rfl ?_
  exact ⟨by rw [HH.out], hHeld.2.2.2⟩
 ·have d1 : decide ((k : Int) < (n : Int)) = false := decide_eq_false (by omega)
  have d2 : ¬ (k : Int) < (n : Int) := by omega
  have HH : Hid (here ts k = #[.int .i64 0, .int .i64 0, .int .i64 0, .string ⟨#[]⟩, .int .i64 0]) := hid (by unfold here; rw [List.getElem?_eq_none (by rw [HN.out]; omega)])
  clear y
  go_quiet (fail)
  obtain ⟨W1, hW1⟩ : ∃ W1, W0.drewN nq = W1 := ⟨_, rfl⟩
  have hd1 : Below W0.heap.size W0 W1 := hW1 ▸ below_drewN (Below.refl _ W0) nq
  rw [hW1]
  have HR1 := bl HR0 hd1
  have HU1 := hid (HU0.out.trans (hd1.mono HU0.out.size))
  clear hW1 hd1 c0 c1
  go_wp2_with (refine wpList_store_box rfl 40 (.tmp 2) (.tmp 23) rfl w.heap.size #[.int .i64 0, .int .i64 0, .int .i64 0, .string ⟨#[]⟩, .int .i64 0] rfl rfl 40 _ HR1.out info_tok rfl tz_one ?_; intro wz hxz huz hzz; have HZZ := hid hzz; clear hzz)
  refine bodyPost_ret (results_box rfl _ _ w.heap.size 40 _ _ rfl hxz Tryz.underlying40 rfl info_tok) rfl ?_
  exact ⟨by rw [HH.out], HU1.out.trans (huz.own (Nat.le_refl _) HU1.out.size)⟩
def SL : Value := .iface 72 (.agg #[])
def IsOut (s : List UInt8) (w : World) (b : Nat) (ts : List KT) (A : Option Addr) (c k : Nat) (fn lp : Bool) (e : Ending) (w' : World) : Prop :=
 (Pars.is s (left ts k) = some (left ts (k + 1)) ∧ k < ts.length ∧ e = .returned (.bool true) ∧ Box w' b 76 (pc (.slice A ts.length c) (k + 1) fn lp) ∧ Upd w w' b) ∨
 (Pars.is s (left ts k) = none ∧ e = .returned (.bool false) ∧ Box w' b 76 (pc (.slice A ts.length c) k fn lp) ∧ Upd w w' b)
set_option maxRecDepth 100000 in
set_option maxHeartbeats 4000000 in
theorem is_any (s : List UInt8) (w : World) (b : Nat) (ts : List KT) (A : Option Addr) (c k : Nat) (fn lp : Bool) (h : PSt w b ts A c k fn lp) :
  Calls Tryz.prog 47 #[.pointer (some ⟨b, 0, none⟩), .string (byt s)] w (IsOut s w b ts A c k fn lp) := by
 have HP := hid (peek_any w b ts A c k fn lp h)
 have hlt := h.box.lt
 have HB := hid h.box
 have hlen := h.len
 have hkle := h.kle
 clear h
 by_cases y : k < ts.length
 ·obtain ⟨t, ht⟩ : ∃ t, ts[k]? = some t := ⟨_, List.getElem?_eq_getElem y⟩
  have HH : Hid (here ts k = kc t) := hid (by unfold here; rw [ht])
  have HL := hid (left_cons ht)
  rw [HH.out] at HP
  have HY := hid y
  obtain ⟨S, hS⟩ : ∃ S, byt s = S := ⟨_, rfl⟩
  rw [hS]
  have HS := hid hS
  obtain ⟨KD, hKD⟩ : ∃ K, t.1.kind = K := ⟨_, rfl⟩
  obtain ⟨TX, hTX⟩ : ∃ K, byt t.1.text = K := ⟨_, rfl⟩
  have HKD := hid hKD
  have HTX := hid hTX
  obtain ⟨tcs, htcs⟩ : ∃ K, kc t = K := ⟨_, rfl⟩
  have htc0 : tcs[0]? = some (.int .i64 (KD : Int)) := by rw [← htcs, ← hKD]; rfl
  have htc3 : tcs[3]? = some (.string TX) := by rw [← htcs, ← hTX]; rfl
  have htsz : (Tryz.prog.info? 40).map (·.size) = some tcs.size := by rw [← htcs]; exact info_tok
  have ht5 : (5 : Nat) = tcs.size := by rw [← htcs]; rfl
  have hto : tcs.all (·.oneCell') = true := by rw [← htcs]; exact kc_one t
  rw [htcs] at HP
  have HT0 := hid htc0
  have HT3 := hid htc3
  have HTS := hid htsz
  have HT5 := hid ht5
  have HTO := hid hto
  clear y ht hS hKD hTX htcs htc0 htc3 htsz ht5 hto
  go_enter Tryz.func47, Tryz.ntmps47
  go_wp2_with fail
  refine HP.out.mono ?_
  rintro e w1 ⟨rfl, hb1⟩
  go_upto_region 2 with (refine wpList_store_box rfl 40 (.tmp 5) (.tmp 7) rfl w1.heap.size tcs rfl rfl 40 _ (Box.new w1 _ _) HTS.out HT5.out HTO.out ?_; intro w2 hx2 hu2 hz2; have HZ2 := hid hz2; clear hz2)
  have hb2 : Below w1.heap.size w1 w2 := ((Below.refl _ w1).alloc (Nat.le_refl _) _).trans (hu2.own (Nat.le_refl _) (by simp))
  have HB2 := hid ((HB.out.below hb1 HB.out.lt).below hb2 (HB.out.below hb1 HB.out.lt).lt)
  have HU2 := hid (hb1.trans (hb2.mono hb1.size))
  have k0 := (hx2.cell 0).trans HT0.out
  have k3 := (hx2.cell 3).trans HT3.out
  have kb := HB2.out.cell 1
  simp [pc] at kb
  have kf : w2.frozen? ⟨b, 1, none⟩ = false := HB2.out.frozen 1
  have wk : IntKind.i64.wrap ((k : Int) + 1) = (k : Int) + 1 := by rw [IntKind.wrap_i64]; omega
  have hne : b ≠ w1.heap.size := by have := hb1.size; omega
  clear hb1 hb2 hu2 hx2
  by_cases y4 : KD = 4 ∨ KD = 5
  ·by_cases yt : TX = S
   ·subst yt
    have hst : Hid (Pars.is s (left ts k) = some (left ts (k + 1))) := hid (by
     rw [HL.out]
     simp only [Pars.is]
     rw [if_pos ⟨by rw [HKD.out]; exact y4, byt_inj (by rw [HTX.out, HS.out])⟩])
    obtain ⟨q1, q2⟩ := same_yes TX
    rcases y4 with rfl | rfl
    ·skip
     go_wp2
     go_ret
     have hB3 := HB2.out.set 1 (.int .i64 ((k : Int) + 1))
     exact .inl ⟨hst.out, HY.out, rfl, hB3, (Upd.below HU2.out b).set (.inl rfl) _⟩
    ·skip
     go_wp2
     go_ret
     have hB3 := HB2.out.set 1 (.int .i64 ((k : Int) + 1))
     exact .inl ⟨hst.out, HY.out, rfl, hB3, (Upd.below HU2.out b).set (.inl rfl) _⟩
   ·have hst : Hid (Pars.is s (left ts k) = none) := hid (by
     rw [HL.out]
     simp only [Pars.is]
     rw [if_neg (fun h => yt (by rw [← HTX.out, ← HS.out, h.2]))])
    obtain ⟨q1, q2, q3⟩ := same_no yt
    have q4 := of_decide_eq_false q2
    rcases y4 with rfl | rfl
    ·skip
     go_wp2
     go_ret
     exact .inr ⟨hst.out, rfl, HB2.out, Upd.below HU2.out b⟩
    ·skip
     go_wp2
     go_ret
     exact .inr ⟨hst.out, rfl, HB2.out, Upd.below HU2.out b⟩
  ·have hst : Hid (Pars.is s (left ts k) = none) := hid (by
    rw [HL.out]
    simp only [Pars.is]
    rw [if_neg (fun h => y4 (by rw [← HKD.out]; exact h.1))])
   have n4 : ((KD : Int) != 4) = true := by rw [bne_iff_ne]; omega
   have n5 : ((KD : Int) != 5) = true := by rw [bne_iff_ne]; omega
   clear y4
   skip
   go_wp2
   go_ret
   exact .inr ⟨hst.out, rfl, HB2.out, Upd.below HU2.out b⟩
 ·have HH : Hid (here ts k = #[.int .i64 0, .int .i64 0, .int .i64 0, .string ⟨#[]⟩, .int .i64 0]) := hid (by unfold here; rw [List.getElem?_eq_none (by omega)])
  have HL := hid (left_nil (ts := ts) (k := k) (by omega))
  rw [HH.out] at HP
  obtain ⟨S, hS⟩ : ∃ S, byt s = S := ⟨_, rfl⟩
  rw [hS]
  clear y hS
  go_enter Tryz.func47, Tryz.ntmps47
  go_wp2_with fail
  refine HP.out.mono ?_
  rintro e w1 ⟨rfl, hb1⟩
  go_upto_region 2 with (refine wpList_store_box rfl 40 (.tmp 5) (.tmp 7) rfl w1.heap.size #[.int .i64 0, .int .i64 0, .int .i64 0, .string ⟨#[]⟩, .int .i64 0] rfl rfl 40 _ (Box.new w1 _ _) info_tok rfl tz_one ?_; intro w2 hx2 hu2 hz2; have HZ2 := hid hz2; clear hz2)
  have hb2 : Below w1.heap.size w1 w2 := ((Below.refl _ w1).alloc (Nat.le_refl _) _).trans (hu2.own (Nat.le_refl _) (by simp))
  have HB2 := hid ((HB.out.below hb1 HB.out.lt).below hb2 (HB.out.below hb1 HB.out.lt).lt)
  have HU2 := hid (hb1.trans (hb2.mono hb1.size))
  have k0 := hx2.cell 0
  have k3 := hx2.cell 3
  simp at k0 k3
  clear hb1 hb2 hu2 hx2
  go_wp2
  go_ret
  exact .inr ⟨by rw [HL.out]; rfl, rfl, HB2.out, Upd.below HU2.out b⟩
def slipped : List PanicEntry := [{ v := SL, recovered := false }]
def MustOut (s : List UInt8) (w : World) (b : Nat) (ts : List KT) (A : Option Addr) (c k : Nat) (fn lp : Bool) (e : Ending) (w' : World) : Prop :=
 (Pars.is s (left ts k) = some (left ts (k + 1)) ∧ k < ts.length ∧ e = .returned (.tuple #[]) ∧ Box w' b 76 (pc (.slice A ts.length c) (k + 1) fn lp) ∧ Upd w w' b) ∨
 (Pars.is s (left ts k) = none ∧ e = .panicked slipped ∧ Upd w w' b)
set_option maxRecDepth 100000 in
set_option maxHeartbeats 4000000 in
theorem must_any (s : List UInt8) (w : World) (b : Nat) (ts : List KT) (A : Option Addr) (c k : Nat) (fn lp : Bool) (h : PSt w b ts A c k fn lp) :
  Calls Tryz.prog 49 #[.pointer (some ⟨b, 0, none⟩), .string (byt s)] w (MustOut s w b ts A c k fn lp) := by
 have HI := hid (is_any s w b ts A c k fn lp h)
 clear h
 go_enter Tryz.func49, Tryz.ntmps49
 go_wp2_with fail
 refine HI.out.mono ?_
 rintro e w1 (⟨h1, h2, rfl, h3, h4⟩ | ⟨h1, rfl, h3, h4⟩)
 ·have H1 := hid h1
  have H3 := hid h3
  have H4 := hid h4
  clear h1 h3 h4
  go_wp2
  go_end0
  exact .inl ⟨H1.out, h2, rfl, H3.out, H4.out⟩
 ·have H1 := hid h1
  have H4 := hid h4
  clear h1 h3 h4
  go_wp2
  exact ⟨rfl, .inr ⟨H1.out, rfl, H4.out⟩⟩
theorem within_any (is : Bool) (w : World) : Calls Tryz.prog 57 #[.bool is] w fun e w' => (e = if is = true then .returned (.tuple #[]) else .panicked slipped) ∧ w' = w := by
 cases is
 ·go_enter Tryz.func57, Tryz.ntmps57
  go_wp2
  exact ⟨rfl, rfl, rfl⟩
 ·go_enter Tryz.func57, Tryz.ntmps57
  go_wp2
  go_end0
  exact ⟨rfl, rfl⟩
def NameOut (w : World) (b : Nat) (ts : List KT) (A : Option Addr) (c k : Nat) (fn lp : Bool) (e : Ending) (w' : World) : Prop :=
 (∃ t : KT, ts[k]? = some t ∧ t.1.kind = 1 ∧ k < ts.length ∧ e = .returned (.string (byt t.1.text)) ∧ Box w' b 76 (pc (.slice A ts.length c) (k + 1) fn lp) ∧ Upd w w' b) ∨
 ((∀ t, ts[k]? = some t → t.1.kind ≠ 1) ∧ e = .panicked slipped ∧ Upd w w' b)
set_option maxRecDepth 100000 in
set_option maxHeartbeats 4000000 in
theorem name_any (w : World) (b : Nat) (ts : List KT) (A : Option Addr) (c k : Nat) (fn lp : Bool) (h : PSt w b ts A c k fn lp) :
  Calls Tryz.prog 48 #[.pointer (some ⟨b, 0, none⟩)] w (NameOut w b ts A c k fn lp) := by
 have HP := hid (peek_any w b ts A c k fn lp h)
 have hlt := h.box.lt
 have HB := hid h.box
 have hlen := h.len
 have hkle := h.kle
 clear h
 by_cases y : k < ts.length
 ·obtain ⟨t, ht⟩ : ∃ t, ts[k]? = some t := ⟨_, List.getElem?_eq_getElem y⟩
  have HH : Hid (here ts k = kc t) := hid (by unfold here; rw [ht])
  rw [HH.out] at HP
  have HY := hid y
  have HT := hid ht
  obtain ⟨KD, hKD⟩ : ∃ K, t.1.kind = K := ⟨_, rfl⟩
  obtain ⟨TX, hTX⟩ : ∃ K, byt t.1.text = K := ⟨_, rfl⟩
  have HKD := hid hKD
  have HTX := hid hTX
  obtain ⟨tcs, htcs⟩ : ∃ K, kc t = K := ⟨_, rfl⟩
  have htc0 : tcs[0]? = some (.int .i64 (KD : Int)) := by rw [← htcs, ← hKD]; rfl
  have htc3 : tcs[3]? = some (.string TX) := by rw [← htcs, ← hTX]; rfl
  have htsz : (Tryz.prog.info? 40).map (·.size) = some tcs.size := by rw [← htcs]; exact info_tok
  have ht5 : (5 : Nat) = tcs.size := by rw [← htcs]; rfl
  have hto : tcs.all (·.oneCell') = true := by rw [← htcs]; exact kc_one t
  rw [htcs] at HP
  have HT0 := hid htc0
  have HT3 := hid htc3
  have HTS := hid htsz
  have HT5 := hid ht5
  have HTO := hid hto
  clear y ht hKD hTX htcs htc0 htc3 htsz ht5 hto
  go_enter Tryz.func48, Tryz.ntmps48
  go_wp2_with fail
  refine HP.out.mono ?_
  rintro e w1 ⟨rfl, hb1⟩
  go_upto_region 2 with (refine wpList_store_box rfl 40 (.tmp 3) (.tmp 5) rfl w1.heap.size tcs rfl rfl 40 _ (Box.new w1 _ _) HTS.out HT5.out HTO.out ?_; intro w2 hx2 hu2 hz2; have HZ2 := hid hz2; clear hz2)
  have hb2 : Below w1.heap.size w1 w2 := ((Below.refl _ w1).alloc (Nat.le_refl _) _).trans (hu2.own (Nat.le_refl _) (by simp))
  have HB2 := hid ((HB.out.below hb1 HB.out.lt).below hb2 (HB.out.below hb1 HB.out.lt).lt)
  have HU2 := hid (hb1.trans (hb2.mono hb1.size))
  have k0 := (hx2.cell 0).trans HT0.out
  have k3 := (hx2.cell 3).trans HT3.out
  have kb := HB2.out.cell 1
  simp [pc] at kb
  have kf : w2.frozen? ⟨b, 1, none⟩ = false := HB2.out.frozen 1
  have wk : IntKind.i64.wrap ((k : Int) + 1) = (k : Int) + 1 := by rw [IntKind.wrap_i64]; omega
  have hne : b ≠ w1.heap.size := by have := hb1.size; omega
  have hne2 : w1.heap.size ≠ b := fun e => hne e.symm
  clear hb1 hb2 hu2 hx2
  by_cases y1 : KD = 1
  ·subst y1
   go_wp2
   go_ret
   have hB3 := HB2.out.set 1 (.int .i64 ((k : Int) + 1))
   exact .inl ⟨t, HT.out, HKD.out, HY.out, by rw [HTX.out] <;> rfl, hB3, (Upd.below HU2.out b).set (.inl rfl) _⟩
  ·have n1 : ((KD : Int) != 1) = true := by rw [bne_iff_ne]; omega
   have HY1 := hid y1
   clear y1
   go_wp2
   exact ⟨rfl, .inr ⟨fun t' ht' => by rw [HT.out] at ht'; injection ht' with ht'; rw [← ht', HKD.out]; exact HY1.out, rfl, Upd.below HU2.out b⟩⟩
 ·have HH : Hid (here ts k = #[.int .i64 0, .int .i64 0, .int .i64 0, .string ⟨#[]⟩, .int .i64 0]) := hid (by unfold here; rw [List.getElem?_eq_none (by omega)])
  have HN : Hid (ts[k]? = none) := hid (List.getElem?_eq_none (by omega))
  rw [HH.out] at HP
  clear y
  go_enter Tryz.func48, Tryz.ntmps48
  go_wp2_with fail
  refine HP.out.mono ?_
  rintro e w1 ⟨rfl, hb1⟩
  go_upto_region 2 with (refine wpList_store_box rfl 40 (.tmp 3) (.tmp 5) rfl w1.heap.size #[.int .i64 0, .int .i64 0, .int .i64 0, .string ⟨#[]⟩, .int .i64 0] rfl rfl 40 _ (Box.new w1 _ _) info_tok rfl tz_one ?_; intro w2 hx2 hu2 hz2; have HZ2 := hid hz2; clear hz2)
  have hb2 : Below w1.heap.size w1 w2 := ((Below.refl _ w1).alloc (Nat.le_refl _) _).trans (hu2.own (Nat.le_refl _) (by simp))
  have HU2 := hid (hb1.trans (hb2.mono hb1.size))
  have k0 := hx2.cell 0
  simp at k0
  clear hb1 hb2 hu2 hx2
  go_wp2
  exact ⟨rfl, .inr ⟨fun t' ht' => by rw [HN.out] at ht'; exact absurd ht' (by simp), rfl, Upd.below HU2.out b⟩⟩
end Go.Proofs.YtonjdlialejedaaGreatDoor
namespace Pars
open Lexy (Tk)
theorem is_some {s : Bs} {l r : List Tk} (h : is s l = some r) : (∃ t, l = t :: r ∧ (t.kind = 4 ∨ t.kind = 5) ∧ t.text = s) ∧ ∀ m, is s (l ++ m) = some (r ++ m) := by
 cases l with
 | nil => simp [is] at h
 | cons t l =>
  simp only [is] at h
  by_cases hc : (t.kind = 4 ∨ t.kind = 5) ∧ t.text = s
  ·rw [if_pos hc] at h
   injection h with h
   subst h
   exact ⟨⟨t, rfl, hc⟩, fun m => by simp only [List.cons_append, is]; rw [if_pos hc]⟩
  ·rw [if_neg hc] at h; cases h
theorem is_none {s : Bs} {l : List Tk} (h : is s l = none) (hl : l ≠ []) (m : List Tk) : is s (l ++ m) = none := by
 cases l with
 | nil => exact absurd rfl hl
 | cons t l =>
  simp only [is] at h
  by_cases hc : (t.kind = 4 ∨ t.kind = 5) ∧ t.text = s
  ·rw [if_pos hc] at h; cases h
  ·simp only [List.cons_append, is]
   rw [if_neg hc]
theorem any_some {ss : List Bs} {s : Bs} {l r : List Tk} (h : anyOf ss l = some (s, r)) : (∃ t, l = t :: r) ∧ ∀ m, anyOf ss (l ++ m) = some (s, r ++ m) := by
 induction ss with
 | nil => simp [anyOf] at h
 | cons a ss ih =>
  unfold anyOf at h
  cases hi : is a l with
  | none =>
   rw [hi] at h
   obtain ⟨h1, h2⟩ := ih h
   refine ⟨h1, fun m => ?_⟩
   unfold anyOf
   rw [is_none hi (by obtain ⟨t, rfl⟩ := h1; simp) m]
   exact h2 m
  | some r' =>
   rw [hi] at h
   injection h with h
   injection h with h1 h2
   subst h1 h2
   obtain ⟨⟨t, h3, _⟩, h4⟩ := is_some hi
   exact ⟨⟨t, h3⟩, fun m => by unfold anyOf; rw [h4 m]⟩
end Pars
namespace Pars
open Lexy (Tk)
def Short (s : Bool) (p : List Tk → R) : Prop := ∀ l x r, p l = some (x, r) → r.length ≤ l.length ∧ (s = true → r.length < l.length)
theorem Short.weak {s : Bool} {p : List Tk → R} (h : Short s p) : Short false p := fun l x r e => ⟨(h l x r e).1, fun h => by cases h⟩
theorem short_none (s : Bool) : Short s (fun _ => none) := fun l x r h => by cases h
theorem short_pure (x : Node) : Short false (fun l => some (x, l)) := fun l y r h => by
 injection h with h; injection h with h1 h2; subst h2; exact ⟨Nat.le_refl _, fun h => by cases h⟩
theorem short_alt {s : Bool} {w : Bs} {f g : List Tk → R} (hf : Short false f) (hg : Short s g) : Short s (fun l => alt w l f (g l)) := by
 intro l x r h
 cases hi : is w l with
 | none => simp only [alt, hi] at h; exact hg l x r h
 | some l' =>
  simp only [alt, hi] at h
  obtain ⟨⟨t, ht, _⟩, _⟩ := is_some hi
  have := (hf l' x r h).1
  subst ht
  exact ⟨by simp; omega, fun _ => by simp; omega⟩
theorem short_must {s : Bool} {w : Bs} {f : List Tk → R} (hf : Short false f) : Short s (fun l => must w l f) := short_alt hf (short_none _)
theorem short_tok {s : Bool} {k : Nat} {f : Tk → List Tk → R} {g : List Tk → R} (hf : ∀ t, Short false (f t)) (hg : Short s g) : Short s (fun l => tok k l f (g l)) := by
 intro l x r h
 cases l with
 | nil => exact hg [] x r h
 | cons t l =>
  simp only [tok] at h
  by_cases hk : t.kind = k
  ·rw [if_pos hk] at h
   have := (hf t l x r h).1
   exact ⟨by simp; omega, fun _ => by simp; omega⟩
  ·rw [if_neg hk] at h; exact hg _ x r h
theorem short_named {s : Bool} {f : Bs → List Tk → R} (hf : ∀ n, Short false (f n)) : Short s (fun l => named l f) := short_tok (fun t => hf t.text) (short_none _)
theorem short_and {s : Bool} {p : List Tk → R} {q : Node → List Tk → R} (hp : Short s p) (hq : ∀ x, Short false (q x)) : Short s (fun l => andThen (p l) q) := by
 intro l x r h
 cases hi : p l with
 | none => simp only [andThen, hi] at h; cases h
 | some y =>
  obtain ⟨y, l1⟩ := y
  simp only [andThen, hi] at h
  have h1 := hp l y l1 hi
  have h2 := (hq y l1 x r h).1
  exact ⟨by omega, fun hs => by have := h1.2 hs; omega⟩
theorem short_signs {s : Bool} {ss : List Bs} {f : Bs → List Tk → R} {g : List Tk → R} (hf : ∀ n, Short false (f n)) (hg : Short s g) : Short s (fun l => signs ss l f (g l)) := by
 intro l x r h
 cases hi : anyOf ss l with
 | none => simp only [signs, hi] at h; exact hg l x r h
 | some y =>
  obtain ⟨w, l'⟩ := y
  simp only [signs, hi] at h
  obtain ⟨⟨t, ht⟩, _⟩ := any_some hi
  have := (hf w l' x r h).1
  subst ht
  exact ⟨by simp; omega, fun _ => by simp; omega⟩
theorem short_peek {s : Bool} {w : Bs} {a b : List Tk → R} (ha : Short s a) (hb : Short s b) : Short s (fun l => peek w l (a l) (b l)) := by
 intro l x r h
 cases l with
 | nil => exact hb [] x r h
 | cons t l =>
  simp only [peek] at h
  by_cases hk : t.kind = 4 ∧ t.text = w
  ·rw [if_pos hk] at h; exact ha _ x r h
  ·rw [if_neg hk] at h; exact hb _ x r h
theorem short_sep {more : Bool} {f : List Tk → R} (hf : Short false f) : Short false (fun l => sep more l f) := by
 cases more
 ·exact hf
 ·exact (short_must (s := false) hf)
theorem short_ite {s : Bool} {c : Prop} [Decidable c] {p q : List Tk → R} (hp : Short s p) (hq : Short s q) : Short s (fun l => if c then p l else q l) := by
 by_cases h : c
 ·simpa [h] using hp
 ·simpa [h] using hq
def passes : Nt → Bool
 | .binGo _ _ => false
 | .post _ => false
 | .some _ _ _ _ => false
 | _ => true
theorem run_short : ∀ n nt fn lp, Short (passes nt) (fun l => run n nt fn lp l)
 | 0, nt, fn, lp => by simp only [run]; exact short_none _
 | n + 1, nt, fn, lp => by
  have ih : ∀ nt fn lp, passes nt = true → Short true (fun l => run n nt fn lp l) := fun nt fn lp h => by have := run_short n nt fn lp; rw [h] at this; exact this
  have iw : ∀ nt fn lp, Short false (fun l => run n nt fn lp l) := fun nt fn lp => (run_short n nt fn lp).weak
  cases nt <;> simp only [run, passes] <;>
  repeat' first
   | exact ih _ _ _ rfl
   | exact iw _ _ _
   | exact short_none _
   | exact short_pure _
   | (refine short_must ?_)
   | (refine short_named fun _ => ?_)
   | (refine short_alt ?_ ?_)
   | (refine short_and ?_ fun _ => ?_)
   | (refine short_tok (fun _ => ?_) ?_)
   | (refine short_signs (fun _ => ?_) ?_)
   | (refine short_peek ?_ ?_)
   | (refine short_sep ?_)
   | (refine short_ite ?_ ?_)
theorem run_passes {n : Nat} {nt : Nt} {fn lp : Bool} {l r : List Tk} {x : Node} (h : run n nt fn lp l = some (x, r)) (hp : passes nt = true) : r.length < l.length := (run_short n nt fn lp l x r h).2 hp
theorem must_some {s : Bs} {l r : List Tk} {f : List Tk → R} (h : is s l = some r) : must s l f = f r := by simp only [must, alt, h]
theorem must_no {s : Bs} {l : List Tk} {f : List Tk → R} (h : is s l = none) : must s l f = none := by simp only [must, alt, h]
theorem alt_some {s : Bs} {l r : List Tk} {f : List Tk → R} {g : R} (h : is s l = some r) : alt s l f g = f r := by simp only [alt, h]
theorem alt_no {s : Bs} {l : List Tk} {f : List Tk → R} {g : R} (h : is s l = none) : alt s l f g = g := by simp only [alt, h]
theorem and_some {p : R} {x : Node} {l : List Tk} {f : Node → List Tk → R} (h : p = some (x, l)) : andThen p f = f x l := by simp only [andThen, h]
theorem and_no {p : R} {f : Node → List Tk → R} (h : p = none) : andThen p f = none := by simp only [andThen, h]
end Pars
namespace Go.Proofs.YtonjdlialejedaaGreatDoor
open Go.Lib (hid)
open Go.RowKit
theorem gen_world {P : Program} {c : Code} {Q : Exit → Act → World → Prop} {a : Act} {w0 : World} {F : World → Prop} (hf : F w0) (h : ∀ W, F W → Code.wp P c Q a W) : Code.wp P c Q a w0 := h w0 hf
theorem NodeAt.weak {w : World} {S S1 : Nat → Prop} {n : Pars.Node} {cs : Array Value} (h : NodeAt w S n cs) (hs : ∀ g, S g → S1 g) : NodeAt w S1 n cs := NodeAt.keep (fun g h _ => hs g h) (Nat.le_refl _) (fun _ _ _ => rfl) h
theorem NodeAt.below {w w1 : World} {S : Nat → Prop} {n : Pars.Node} {cs : Array Value} (h : NodeAt w S n cs) (hb : Below w.heap.size w w1) : NodeAt w1 S n cs := NodeAt.keep (fun _ h _ => h) hb.size (fun g _ hg => hb.block g hg) h
theorem NodeAt.upd {w w1 : World} {S : Nat → Prop} {n : Pars.Node} {cs : Array Value} {r : Nat} (h : NodeAt w S n cs) (hu : Upd w w1 r) (hr : ∀ g, S g → g ≠ r) : NodeAt w1 S n cs := NodeAt.keep (fun _ h _ => h) hu.size (fun g hs hg => hu.block g hg (by intro e; injection e with e; exact hr g hs e)) h
theorem Upd.fresh {w w1 w2 : World} {b r : Nat} (h : Upd w w1 b) (hu : Upd w1 w2 r) (hr : w.heap.size ≤ r) : Upd w w2 b := by
 have hz := h.size
 refine ⟨hu.os.trans h.os, hu.tape.trans h.tape, hu.output.trans h.output, Nat.le_trans h.size hu.size, fun i hi hn => ?_⟩
 rw [hu.block i (by omega) (by intro e; injection e with e; omega), h.block i hi hn]
theorem left_len (ts : List KT) (k : Nat) : (left ts k).length = ts.length - k := by unfold left toks; simp
def Got (w : World) (b : Nat) (ts : List KT) (A : Option Addr) (c k : Nat) (fn lp : Bool) (r : Pars.R) (e : Ending) (w' : World) : Prop :=
 (∃ x k' cs, r = some (x, left ts k') ∧ k ≤ k' ∧ k' ≤ ts.length ∧ e = .returned (.agg cs) ∧ NodeAt w' (fun g => w.heap.size ≤ g) x cs ∧ Box w' b 76 (pc (.slice A ts.length c) k' fn lp) ∧ Upd w w' b) ∨
 (r = none ∧ e = .panicked slipped ∧ Upd w w' b)
theorem got_lt {n : Nat} {nt : Pars.Nt} {fn lp : Bool} {ts : List KT} {k k' : Nat} {x : Pars.Node} (h : Pars.run n nt fn lp (left ts k) = some (x, left ts k')) (hp : Pars.passes nt = true) : k < k' := by
 have := Pars.run_passes h hp
 rw [left_len, left_len] at this
 omega
structure All (n : Nat) : Prop where
 block : ∀ {w : World} {b : Nat} {ts : List KT} {A : Option Addr} {c k : Nat} {fn lp : Bool}, PSt w b ts A c k fn lp → 20 * (ts.length - k) + 1 < n → Calls Tryz.prog 60 #[.pointer (some ⟨b, 0, none⟩)] w (Got w b ts A c k fn lp (Pars.run n .block fn lp (left ts k)))
 stmt : ∀ {w : World} {b : Nat} {ts : List KT} {A : Option Addr} {c k : Nat} {fn lp : Bool}, PSt w b ts A c k fn lp → 20 * (ts.length - k) + 14 < n → Calls Tryz.prog 28 #[.pointer (some ⟨b, 0, none⟩)] w (Got w b ts A c k fn lp (Pars.run n .statement fn lp (left ts k)))
 expr : ∀ {w : World} {b : Nat} {ts : List KT} {A : Option Addr} {c k : Nat} {fn lp : Bool}, PSt w b ts A c k fn lp → 20 * (ts.length - k) + 12 < n → Calls Tryz.prog 50 #[.pointer (some ⟨b, 0, none⟩)] w (Got w b ts A c k fn lp (Pars.run n .expression fn lp (left ts k)))
 cond : ∀ {w : World} {b : Nat} {ts : List KT} {A : Option Addr} {c k : Nat} {fn lp : Bool}, PSt w b ts A c k fn lp → 20 * (ts.length - k) + 11 < n → Calls Tryz.prog 79 #[.pointer (some ⟨b, 0, none⟩)] w (Got w b ts A c k fn lp (Pars.run n .cond fn lp (left ts k)))
 un : ∀ {w : World} {b : Nat} {ts : List KT} {A : Option Addr} {c k : Nat} {fn lp : Bool}, PSt w b ts A c k fn lp → 20 * (ts.length - k) + 3 < n → Calls Tryz.prog 97 #[.pointer (some ⟨b, 0, none⟩)] w (Got w b ts A c k fn lp (Pars.run n .unary fn lp (left ts k)))
 first : ∀ {w : World} {b : Nat} {ts : List KT} {A : Option Addr} {c k : Nat} {fn lp : Bool}, PSt w b ts A c k fn lp → 20 * (ts.length - k) + 2 < n → Calls Tryz.prog 106 #[.pointer (some ⟨b, 0, none⟩)] w (Got w b ts A c k fn lp (Pars.run n .first fn lp (left ts k)))
 inner : ∀ {w : World} {b : Nat} {ts : List KT} {A : Option Addr} {c k : Nat} {fn lp : Bool}, PSt w b ts A c k fn lp → 20 * (ts.length - k) + 1 < n → Calls Tryz.prog 54 #[.pointer (some ⟨b, 0, none⟩)] w (Got w b ts A c k fn lp (Pars.run n .inner fn lp (left ts k)))
 ifs : ∀ {w : World} {b : Nat} {ts : List KT} {A : Option Addr} {c k : Nat} {fn lp : Bool}, PSt w b ts A c k fn lp → 20 * (ts.length - k) + 2 < n → Calls Tryz.prog 53 #[.pointer (some ⟨b, 0, none⟩)] w (Got w b ts A c k fn lp (Pars.run n .ifs fn lp (left ts k)))
 loops : ∀ {w : World} {b : Nat} {ts : List KT} {A : Option Addr} {c k : Nat} {fn lp : Bool}, PSt w b ts A c k fn lp → 20 * (ts.length - k) + 1 < n → Calls Tryz.prog 56 #[.pointer (some ⟨b, 0, none⟩)] w (Got w b ts A c k fn lp (Pars.run n .loops fn lp (left ts k)))
 tries : ∀ {w : World} {b : Nat} {ts : List KT} {A : Option Addr} {c k : Nat} {fn lp : Bool}, PSt w b ts A c k fn lp → 20 * (ts.length - k) + 2 < n → Calls Tryz.prog 58 #[.pointer (some ⟨b, 0, none⟩)] w (Got w b ts A c k fn lp (Pars.run n .tries fn lp (left ts k)))
 bin : ∀ (r : Nat), r ≤ 6 → ∀ {w : World} {b : Nat} {ts : List KT} {A : Option Addr} {c k : Nat} {fn lp : Bool}, PSt w b ts A c k fn lp → 20 * (ts.length - k) + (10 - r) < n → Calls Tryz.prog 92 #[.pointer (some ⟨b, 0, none⟩), .int .i64 (r : Int)] w (Got w b ts A c k fn lp (Pars.run n (.binary r) fn lp (left ts k)))
 body : ∀ (f : Bool), ∀ {w : World} {b : Nat} {ts : List KT} {A : Option Addr} {c k : Nat} {fn lp : Bool}, PSt w b ts A c k fn lp → 20 * (ts.length - k) + 2 < n → Calls Tryz.prog 55 #[.pointer (some ⟨b, 0, none⟩), .bool f] w (Got w b ts A c k fn lp (Pars.run n (.body f) fn lp (left ts k)))
 func : ∀ (nm : List UInt8), ∀ {w : World} {b : Nat} {ts : List KT} {A : Option Addr} {c k : Nat} {fn lp : Bool}, PSt w b ts A c k fn lp → 20 * (ts.length - k) + 1 < n → Calls Tryz.prog 52 #[.pointer (some ⟨b, 0, none⟩), .string (byt nm)] w (Got w b ts A c k fn lp (Pars.run n (.function nm) fn lp (left ts k)))
set_option maxRecDepth 100000 in
set_option maxHeartbeats 4000000 in
theorem inner_step {n : Nat} (h : All n) : ∀ {w : World} {b : Nat} {ts : List KT} {A : Option Addr} {c k : Nat} {fn lp : Bool}, PSt w b ts A c k fn lp → 20 * (ts.length - k) + 1 < n + 1 → Calls Tryz.prog 54 #[.pointer (some ⟨b, 0, none⟩)] w (Got w b ts A c k fn lp (Pars.run (n + 1) .inner fn lp (left ts k))) := by
 intro w b ts A c k fn lp hP hm
 have HR : Hid (Pars.run (n + 1) .inner fn lp (left ts k) = _) := hid (by rw [Pars.run])
 have hbl := hP.box.lt
 have hle := hP.kle
 go_enter Tryz.func54, Tryz.ntmps54
 go_upto_region 1 with fail
 refine gen_world (F := fun W => Box W w.heap.size 24 #[.int .i64 0, .int .i64 0, .string ⟨#[]⟩, .slice none 0 0] ∧ Below w.heap.size w W) ⟨Box.new w _ _, below1 w _⟩ ?_
 rintro W0 ⟨r0, hU⟩
 have RB := hid r0
 have HP := hid (hP.below hU)
 have HU : Hid (Upd w W0 b) := hid (Upd.below hU b)
 have HZ : Hid (w.heap.size < W0.heap.size) := hid r0.lt
 have hz0 := r0.lt
 have HZW : Hid (W0.heap.size ≤ W0.heap.size) := hid (Nat.le_refl _)
 clear r0 hU hP
 go_wp2_with fail
 refine (must_any [40] _ b ts A c (k) fn lp HP.out).mono ?_
 rintro e w1 (⟨hi, hk, rfl, hx, hu⟩ | ⟨hi, rfl, hu⟩)
 rotate_left
 ·exact ⟨rfl, .inr ⟨HR.out.trans (Pars.must_no hi), rfl, HU.out.trans hu⟩⟩
 replace HR := hid (HR.out.trans (Pars.must_some hi))
 replace RB := bg RB hu
 replace HP := hid (HP.out.upd hx hu (by omega))
 replace HU := hid (HU.out.trans hu)
 replace HZW := hid (Nat.le_trans HZW.out hu.size)
 clear hi hx hu
 have hle1 := HP.out.kle
 go_wp2_with fail
 refine (h.expr HP.out (by omega)).mono ?_
 rintro e w2 (⟨x1, k1, cs1, hr, hk1, hk2, rfl, hn, hx, hu⟩ | ⟨hr, rfl, hu⟩)
 rotate_left
 ·exact ⟨rfl, .inr ⟨HR.out.trans (Pars.and_no hr), rfl, HU.out.trans hu⟩⟩
 have hlt1 := got_lt hr rfl
 replace HR := hid (HR.out.trans (Pars.and_some hr))
 have HN1 : Hid (NodeAt _ (fun g => W0.heap.size ≤ g) x1 cs1) := hid (hn.weak (fun g hg => by have := HZW.out; omega))
 have hcs1 : (Tryz.prog.info? 24).map (·.size) = some cs1.size := by rw [NodeAt.size hn]; exact info_nod
 have h41 : (4 : Nat) = cs1.size := (NodeAt.size hn).symm
 have hone1 := NodeAt.one hn
 have HCS1 := hid hcs1
 have H41 := hid h41
 have HONE1 := hid hone1
 replace RB := bg RB hu
 replace HP := hid (HP.out.upd hx hu (by omega))
 replace HU := hid (HU.out.trans hu)
 replace HZW := hid (Nat.le_trans HZW.out hu.size)
 clear hr hn hx hu hcs1 h41 hone1
 have hle2 := HP.out.kle
 go_upto_region 3 with (refine wpList_store_box rfl 24 (.tmp 3) (.tmp 7) rfl w2.heap.size cs1 rfl rfl 24 _ (Box.new w2 _ _) HCS1.out H41.out HONE1.out ?_; intro w3 hx hv hz; have HZ1 := hid hz; clear hz)
 have hb : Below w2.heap.size w2 w3 := ((Below.refl _ w2).alloc (Nat.le_refl _) _).trans (hv.own (Nat.le_refl _) (by simp))
 have EB1 := hid hx
 have hzE1 := Nat.lt_of_lt_of_le HZ.out HZW.out
 replace RB := bl RB hb
 replace HN1 := hid (HN1.out.below hb)
 replace HP := hid (HP.out.below hb)
 replace HU := hid (HU.out.step hb)
 replace HZW := hid (Nat.le_trans HZW.out hb.size)
 clear hx hv hb
 go_wp2_with fail
 refine (must_any [41] _ b ts A c (k1) fn lp HP.out).mono ?_
 rintro e w4 (⟨hi, hk, rfl, hx, hu⟩ | ⟨hi, rfl, hu⟩)
 rotate_left
 ·exact ⟨rfl, .inr ⟨HR.out.trans (Pars.must_no hi), rfl, HU.out.trans hu⟩⟩
 replace HR := hid (HR.out.trans (Pars.must_some hi))
 replace RB := bg RB hu
 replace EB1 := bg EB1 hu
 replace HN1 := hid (HN1.out.upd hu (fun g hg => by first | omega | (simp only at hg; omega)))
 replace HP := hid (HP.out.upd hx hu (by omega))
 replace HU := hid (HU.out.trans hu)
 replace HZW := hid (Nat.le_trans HZW.out hu.size)
 clear hi hx hu
 have eb1 := EB1.out
 go_wp2_with (first | (refine wpList_load_row rfl 24 (.tmp 3) rfl w2.heap.size rfl _ cs1 (0, 0) _ eb1 Tryz.underlying24 rfl HCS1.out ?_) | (refine wpList_store_box rfl 24 (.tmp 2) (.tmp 10) rfl w.heap.size cs1 rfl rfl 24 _ RB.out HCS1.out H41.out HONE1.out ?_; intro wz hxz huz hzz; have HZZ := hid hzz; clear hzz))
 refine bodyPost_ret (results_box rfl _ _ w.heap.size 24 _ _ rfl hxz Tryz.underlying24 rfl HCS1.out) rfl ?_
 exact .inl ⟨x1, k1 + 1, cs1, HR.out, by omega, HP.out.kle, rfl, (HN1.out.upd huz (fun g hg => by first | omega | (simp only at hg; omega))).weak (fun g hg => by first | omega | (simp only at hg; omega)), Box.grown HP.out.box huz (by intro h; injection h with h; omega), Upd.fresh HU.out huz (Nat.le_refl _)⟩
end Go.Proofs.YtonjdlialejedaaGreatDoor
namespace Go.Proofs.YtonjdlialejedaaGreatDoor
open Go.Lib (hid)
open Go.RowKit
theorem plain_fn (n : Nat) : Ending.returned (.tuple #[.string ((⟨(Lib.repeatL [113] (n - 1)).toArray⟩ : ByteArray) ++ ⟨#[103]⟩), .bool true]) = .returned (.tuple #[.string (byt (Wri.plain 9 n).1), .bool (Wri.plain 9 n).2]) := by
 have e : ∀ q, Lib.repeatL [113] q = List.replicate q 113 := by
  intro q
  induction q with
  | zero => rfl
  | succ q ih => simp only [Lib.repeatL, ih]; rfl
 have h1 : (⟨(Lib.repeatL [113] (n - 1)).toArray⟩ : ByteArray) = byt (List.replicate (n - 1) 113) := by
  show (⟨(Lib.repeatL [113] (n - 1)).toArray⟩ : ByteArray) = _
  rw [e]; rfl
 have h2 : (⟨#[103]⟩ : ByteArray) = byt [103] := rfl
 rw [h1, h2, byt_append]
 rfl
set_option maxRecDepth 100000 in
set_option maxHeartbeats 4000000 in
theorem plain_nine (nu : Int) (t : List UInt8) (A : Option Addr) (n c : Nat) (hn : n ≤ 70368744177664) (w : World) : Calls Tryz.prog 82 #[.agg (nc 9 nu t (.slice A n c))] w fun e w' => e = .returned (.tuple #[.string (byt (Wri.plain 9 n).1), .bool (Wri.plain 9 n).2]) ∧ Below w.heap.size w w' := by
 have hz : IntKind.i64.wrap ((n : Int) - 1) = (n : Int) - 1 := by rw [IntKind.wrap_i64]; omega
 obtain ⟨q, hq⟩ : ∃ q : Nat, q = n - 1 := ⟨_, rfl⟩
 have HQ := hid hq
 have HM : Hid (max ((n : Int) - 1) 0 = (q : Int)) := hid (by omega)
 have hqn : q ≤ 70368744177664 := by omega
 clear hq
 have HRP : Hid (∀ W, Calls Tryz.prog 93 #[.string ⟨#[113]⟩, .int .i64 (q : Int)] W fun e w' => e = .returned (.string ⟨(Lib.repeatL [113] q).toArray⟩) ∧ Below W.heap.size W w') := hid (fun W => Tryz.strings_Repeat ⟨#[113]⟩ q W (by omega) (by rw [show (⟨#[113]⟩ : ByteArray).size = 1 from rfl]; omega))
 go_enter Tryz.func82, Tryz.ntmps82
 go_upto_region 1 with fail
 refine gen_world (F := fun W => Box W w.heap.size 24 (nc 9 nu t (.slice A n c)) ∧ Below w.heap.size w W) ⟨Box.new w _ _, below1 w _⟩ ?_
 rintro W0 ⟨b0, hU⟩
 have NB := hid b0
 have HU := hid hU
 have c0 := b0.cell 0
 have c3 := b0.cell 3
 simp [nc] at c0 c3
 clear b0 hU
 go_wp2_with (refine wpList_max2 rfl (.tmp 54) (.const (.int .i64 0)) _ rfl _ _ _ rfl rfl HM.out ?_)
 refine (HRP.out _).mono ?_
 rintro e w1 ⟨rfl, hb⟩
 have HU1 := hid (HU.out.trans (hb.mono HU.out.size))
 clear hb
 obtain ⟨RS, hRS⟩ : ∃ RS : ByteArray, (⟨(Lib.repeatL [113] q).toArray⟩ : ByteArray) = RS := ⟨_, rfl⟩
 have hsz : RS.size = q := by rw [← hRS]; show (Lib.repeatL _ q).toArray.size = q; rw [List.size_toArray, Lib.repeatL_length]; simp
 rw [hRS]
 have HRS := hid hRS
 clear hRS
 have hz0 : RS.size ≤ 70368744177664 := by omega
 clear hsz
 have hg1 : (⟨#[103]⟩ : ByteArray).size = 1 := rfl
 go_wp2
 go_ret2
 refine ⟨?_, HU1.out⟩
 rw [← HRS.out, HQ.out]
 exact plain_fn n
set_option maxRecDepth 100000 in
set_option maxHeartbeats 4000000 in
theorem plain_any (k nu : Int) (t : List UInt8) (A : Option Addr) (n c : Nat) (hn : n ≤ 70368744177664) (w : World) : Calls Tryz.prog 82 #[.agg (nc k nu t (.slice A n c))] w fun e w' => e = .returned (.tuple #[.string (byt (Wri.plain k n).1), .bool (Wri.plain k n).2]) ∧ Below w.heap.size w w' := by
 by_cases y : k = 9
 ·subst y
  exact plain_nine nu t A n c hn w
 have n9 : (k == 9) = false := by rw [beq_eq_false_iff_ne]; omega
 have m9 : ¬ k = 9 := by omega
 clear y
 go_enter Tryz.func82, Tryz.ntmps82
 go_upto_region 1 with fail
 refine gen_world (F := fun W => Box W w.heap.size 24 (nc k nu t (.slice A n c)) ∧ Below w.heap.size w W) ⟨Box.new w _ _, below1 w _⟩ ?_
 rintro W0 ⟨b0, hU⟩
 have NB := hid b0
 have HU := hid hU
 have c0 := b0.cell 0
 have c3 := b0.cell 3
 simp [nc] at c0 c3
 clear b0 hU
 go_upto_region 2 with fail
 by_cases y : k = 1
 ·subst y
  go_wp2
  go_ret2
  exact ⟨by first | rfl | simp [Wri.plain, byt], HU.out⟩
 have n1 : (k == 1) = false := by rw [beq_eq_false_iff_ne]; omega
 have m1 : ¬ k = 1 := by omega
 clear y
 go_upto_region 3 with fail
 by_cases y : k = 2
 ·subst y
  go_wp2
  go_ret2
  exact ⟨by first | rfl | simp [Wri.plain, byt], HU.out⟩
 have n2 : (k == 2) = false := by rw [beq_eq_false_iff_ne]; omega
 have m2 : ¬ k = 2 := by omega
 clear y
 go_upto_region 4 with fail
 by_cases y : k = 3
 ·subst y
  go_wp2
  go_ret2
  exact ⟨by first | rfl | simp [Wri.plain, byt], HU.out⟩
 have n3 : (k == 3) = false := by rw [beq_eq_false_iff_ne]; omega
 have m3 : ¬ k = 3 := by omega
 clear y
 go_upto_region 5 with fail
 by_cases y : k = 4
 ·subst y
  go_wp2
  go_ret2
  exact ⟨by first | rfl | simp [Wri.plain, byt], HU.out⟩
 have n4 : (k == 4) = false := by rw [beq_eq_false_iff_ne]; omega
 have m4 : ¬ k = 4 := by omega
 clear y
 go_upto_region 6 with fail
 by_cases y : k = 5
 ·subst y
  go_wp2
  go_ret2
  exact ⟨by first | rfl | simp [Wri.plain, byt], HU.out⟩
 have n5 : (k == 5) = false := by rw [beq_eq_false_iff_ne]; omega
 have m5 : ¬ k = 5 := by omega
 clear y
 go_upto_region 7 with fail
 by_cases y : k = 10
 ·subst y
  go_wp2
  go_ret2
  exact ⟨by first | rfl | simp [Wri.plain, byt], HU.out⟩
 have n10 : (k == 10) = false := by rw [beq_eq_false_iff_ne]; omega
 have m10 : ¬ k = 10 := by omega
 clear y
 go_upto_region 8 with fail
 by_cases y : k = 25
 ·subst y
  go_wp2
  go_ret2
  exact ⟨by first | rfl | simp [Wri.plain, byt], HU.out⟩
 have n25 : (k == 25) = false := by rw [beq_eq_false_iff_ne]; omega
 have m25 : ¬ k = 25 := by omega
 clear y
 go_upto_region 9 with fail
 by_cases y : k = 26
 ·subst y
  go_wp2
  go_ret2
  exact ⟨by first | rfl | simp [Wri.plain, byt], HU.out⟩
 have n26 : (k == 26) = false := by rw [beq_eq_false_iff_ne]; omega
 have m26 : ¬ k = 26 := by omega
 clear y
 go_upto_region 10 with fail
 by_cases y : k = 27
 ·subst y
  go_wp2
  go_ret2
  exact ⟨by first | rfl | simp [Wri.plain, byt], HU.out⟩
 have n27 : (k == 27) = false := by rw [beq_eq_false_iff_ne]; omega
 have m27 : ¬ k = 27 := by omega
 clear y
 go_upto_region 12 with fail
 by_cases y : k = 6
 ·subst y
  go_wp2
  go_ret2
  exact ⟨by first | rfl | simp [Wri.plain, byt], HU.out⟩
 have n6 : (k == 6) = false := by rw [beq_eq_false_iff_ne]; omega
 have m6 : ¬ k = 6 := by omega
 clear y
 go_upto_region 14 with fail
 by_cases y : k = 7
 ·subst y
  go_wp2
  go_ret2
  exact ⟨by first | rfl | simp [Wri.plain, byt], HU.out⟩
 have n7 : (k == 7) = false := by rw [beq_eq_false_iff_ne]; omega
 have m7 : ¬ k = 7 := by omega
 clear y
 go_upto_region 16 with fail
 by_cases y : k = 8
 ·subst y
  go_wp2
  go_ret2
  exact ⟨by first | rfl | simp [Wri.plain, byt], HU.out⟩
 have n8 : (k == 8) = false := by rw [beq_eq_false_iff_ne]; omega
 have m8 : ¬ k = 8 := by omega
 clear y
 go_upto_region 17 with fail
 by_cases y : k = 13
 ·subst y
  go_wp2
  go_ret2
  exact ⟨by first | rfl | simp [Wri.plain, byt], HU.out⟩
 have n13 : (k == 13) = false := by rw [beq_eq_false_iff_ne]; omega
 have m13 : ¬ k = 13 := by omega
 clear y
 go_upto_region 18 with fail
 by_cases y : k = 14
 ·subst y
  go_wp2
  go_ret2
  exact ⟨by first | rfl | simp [Wri.plain, byt], HU.out⟩
 have n14 : (k == 14) = false := by rw [beq_eq_false_iff_ne]; omega
 have m14 : ¬ k = 14 := by omega
 clear y
 go_upto_region 19 with fail
 by_cases y : k = 20
 ·subst y
  go_wp2
  go_ret2
  exact ⟨by first | rfl | simp [Wri.plain, byt], HU.out⟩
 have n20 : (k == 20) = false := by rw [beq_eq_false_iff_ne]; omega
 have m20 : ¬ k = 20 := by omega
 clear y
 go_upto_region 20 with fail
 by_cases y : k = 28
 ·subst y
  go_wp2
  go_ret2
  exact ⟨by first | rfl | simp [Wri.plain, byt], HU.out⟩
 have n28 : (k == 28) = false := by rw [beq_eq_false_iff_ne]; omega
 have m28 : ¬ k = 28 := by omega
 clear y
 go_upto_region 21 with fail
 by_cases y : k = 31
 ·subst y
  go_wp2
  go_ret2
  exact ⟨by first | rfl | simp [Wri.plain, byt], HU.out⟩
 have n31 : (k == 31) = false := by rw [beq_eq_false_iff_ne]; omega
 have m31 : ¬ k = 31 := by omega
 clear y
 go_upto_region 23 with fail
 by_cases y : k = 11
 ·subst y
  go_wp2
  go_ret2
  exact ⟨by first | rfl | simp [Wri.plain, byt], HU.out⟩
 have n11 : (k == 11) = false := by rw [beq_eq_false_iff_ne]; omega
 have m11 : ¬ k = 11 := by omega
 clear y
 go_upto_region 25 with fail
 by_cases y : k = 12
 ·subst y
  go_wp2
  go_ret2
  exact ⟨by first | rfl | simp [Wri.plain, byt], HU.out⟩
 have n12 : (k == 12) = false := by rw [beq_eq_false_iff_ne]; omega
 have m12 : ¬ k = 12 := by omega
 clear y
 go_upto_region 26 with fail
 by_cases y : k = 15
 ·subst y
  go_wp2
  go_ret2
  exact ⟨by first | rfl | simp [Wri.plain, byt], HU.out⟩
 have n15 : (k == 15) = false := by rw [beq_eq_false_iff_ne]; omega
 have m15 : ¬ k = 15 := by omega
 clear y
 go_upto_region 27 with fail
 by_cases y : k = 16
 ·subst y
  go_wp2
  go_ret2
  exact ⟨by first | rfl | simp [Wri.plain, byt], HU.out⟩
 have n16 : (k == 16) = false := by rw [beq_eq_false_iff_ne]; omega
 have m16 : ¬ k = 16 := by omega
 clear y
 go_upto_region 28 with fail
 by_cases y : k = 17
 ·subst y
  go_wp2
  go_ret2
  exact ⟨by first | rfl | simp [Wri.plain, byt], HU.out⟩
 have n17 : (k == 17) = false := by rw [beq_eq_false_iff_ne]; omega
 have m17 : ¬ k = 17 := by omega
 clear y
 go_upto_region 30 with fail
 by_cases y : k = 18
 ·subst y
  go_wp2
  go_ret2
  exact ⟨by first | rfl | simp [Wri.plain, byt], HU.out⟩
 have n18 : (k == 18) = false := by rw [beq_eq_false_iff_ne]; omega
 have m18 : ¬ k = 18 := by omega
 clear y
 go_upto_region 32 with fail
 by_cases y : k = 19
 ·subst y
  go_wp2
  go_ret2
  exact ⟨by first | rfl | simp [Wri.plain, byt], HU.out⟩
 have n19 : (k == 19) = false := by rw [beq_eq_false_iff_ne]; omega
 have m19 : ¬ k = 19 := by omega
 clear y
 go_upto_region 34 with fail
 by_cases y : k = 21
 ·subst y
  go_wp2
  go_ret2
  exact ⟨by first | rfl | simp [Wri.plain, byt], HU.out⟩
 have n21 : (k == 21) = false := by rw [beq_eq_false_iff_ne]; omega
 have m21 : ¬ k = 21 := by omega
 clear y
 go_upto_region 36 with fail
 by_cases y : k = 22
 ·subst y
  go_wp2
  go_ret2
  exact ⟨by first | rfl | simp [Wri.plain, byt], HU.out⟩
 have n22 : (k == 22) = false := by rw [beq_eq_false_iff_ne]; omega
 have m22 : ¬ k = 22 := by omega
 clear y
 go_upto_region 38 with fail
 by_cases y : k = 23
 ·subst y
  go_wp2
  go_ret2
  exact ⟨by first | rfl | simp [Wri.plain, byt], HU.out⟩
 have n23 : (k == 23) = false := by rw [beq_eq_false_iff_ne]; omega
 have m23 : ¬ k = 23 := by omega
 clear y
 go_upto_region 39 with fail
 by_cases y : k = 24
 ·subst y
  go_wp2
  go_ret2
  exact ⟨by first | rfl | simp [Wri.plain, byt], HU.out⟩
 have n24 : (k == 24) = false := by rw [beq_eq_false_iff_ne]; omega
 have m24 : ¬ k = 24 := by omega
 clear y
 go_upto_region 41 with fail
 by_cases y : k = 29
 ·subst y
  go_wp2
  go_ret2
  exact ⟨by first | rfl | simp [Wri.plain, byt], HU.out⟩
 have n29 : (k == 29) = false := by rw [beq_eq_false_iff_ne]; omega
 have m29 : ¬ k = 29 := by omega
 clear y
 go_upto_region 43 with fail
 by_cases y : k = 30
 ·subst y
  go_wp2
  go_ret2
  exact ⟨by first | rfl | simp [Wri.plain, byt], HU.out⟩
 have n30 : (k == 30) = false := by rw [beq_eq_false_iff_ne]; omega
 have m30 : ¬ k = 30 := by omega
 clear y
 go_wp2
 go_ret2
 refine ⟨?_, HU.out⟩
 have e : Wri.plain k n = ([], false) := by unfold Wri.plain; simp only [m1, m2, m3, m4, m5, m6, m7, m8, m9, m10, m11, m12, m13, m14, m15, m16, m17, m18, m19, m20, m21, m22, m23, m24, m25, m26, m27, m28, m29, m30, m31, or_self, if_false]
 rw [e]
 rfl
end Go.Proofs.YtonjdlialejedaaGreatDoor
