/-
  Texts that the law leans on: Gen, PmA, PmB. Conditions: as each says.
-/
import Derived.Test.YtonjdlialejedaaGreatDoorSAb
import Derived.WalkKit
import Derived.WalkSpells
import Derived.Deep.QuietTactic
import Derived.BigQuiet
import Derived.Below
import Derived.Lib.Hide
import Derived.Handy
import Derived.Deep.MidRow
import Derived.Deep.RegionHeld3
import Derived.Deep.AppendLies
import Derived.Deep.LoopGhost
import Derived.Deep.Cut
import Derived.Deep.RegionLaw
import Derived.WalkLawsBesides
import Derived.Shelf.Abstract
import Derived.Test.YtonjdlialejedaaGreatDoorSAa
set_option linter.unusedSimpArgs false
set_option linter.unusedVariables false
namespace Go.Proofs.YtonjdlialejedaaGreatDoor
open Go.Lib (hid)
open Go.RowKit
def byt (l : List UInt8) : ByteArray := ⟨l.toArray⟩
theorem ret_bool {a b : Bool} (h : a = b) : Ending.returned (.bool a) = .returned (.bool b) := by rw [h]
theorem byt_list (s : List UInt8) : (byt s).toList = s := by rw [ByteArray.toList_eq]; rfl
theorem byt_data (s : List UInt8) : (byt s).data.toList = s := rfl
theorem byt_size (s : List UInt8) : (byt s).size = s.length := by simp [byt, ByteArray.size]
theorem byt_inj {a b : List UInt8} (h : byt a = byt b) : a = b := by
 have := congrArg (fun x : ByteArray => x.data.toList) h
 simpa [byt_data] using this
theorem byt_append (a b : List UInt8) : byt a ++ byt b = byt (a ++ b) := by
 unfold byt
 apply ByteArray.ext
 simp
theorem below1 (w : World) (o : Obj) : Below w.heap.size w (w.alloc o) := (Below.refl _ _).alloc (Nat.le_refl _) _
theorem new2 (w : World) (o : Obj) (t : TypeId) (cs : Array Value) : Box ((w.alloc o).alloc (.cells cs t)) (w.heap.size + 1) t cs := by
 have := Box.new (w.alloc o) t cs
 rwa [World.size_alloc] at this
theorem new3 (w : World) (o o' : Obj) (t : TypeId) (cs : Array Value) : Box (((w.alloc o).alloc o').alloc (.cells cs t)) (w.heap.size + 2) t cs := by
 have := Box.new ((w.alloc o).alloc o') t cs
 rwa [World.size_alloc, World.size_alloc] at this
theorem byt_of (s : ByteArray) : ∃ l : List UInt8, s = byt l := ⟨s.data.toList, by cases s; simp [byt]⟩
def flat {α : Type} (f : α → Array Value) (l : List α) : List Value := l.flatMap fun x => (f x).toList
section
variable {α : Type} {f : α → Array Value} {k : Nat}
theorem flat_cons (x : α) (l : List α) : flat f (x :: l) = (f x).toList ++ flat f l := rfl
theorem flat_len (hk : ∀ x, (f x).size = k) : ∀ l : List α, (flat f l).length = l.length * k
 | [] => by simp [flat]
 | x :: l => by rw [flat_cons, List.length_append, flat_len hk l, List.length_cons, Nat.add_mul]; simp [hk]; omega
theorem flat_at (hk : ∀ x, (f x).size = k) : ∀ (l : List α) (j : Nat) (x : α), l[j]? = some x → ∀ i v, (f x).toList[i]? = some v → (flat f l)[j * k + i]? = some v
 | [], _, _, h, _, _, _ => by simp at h
 | y :: l, 0, x, h, i, v, hv => by
  simp at h; subst h
  have hi : i < (f y).toList.length := (List.getElem?_eq_some_iff.1 hv).1
  rw [flat_cons, Nat.zero_mul, Nat.zero_add, List.getElem?_append_left hi]; exact hv
 | y :: l, j + 1, x, h, i, v, hv => by
  have h5 : (f y).toList.length = k := by simp [hk]
  rw [flat_cons, List.getElem?_append_right (by rw [h5, Nat.add_mul]; omega), h5, show (j + 1) * k + i - k = j * k + i by rw [Nat.add_mul]; omega]
  exact flat_at hk l j x (by simpa using h) i v hv
end
def Rd (w : World) (_k : Nat) (xs : List Value) (n : Nat) (v : Value) : Prop :=
 ∃ A cap, v = .slice A n cap ∧ n ≤ cap ∧ cap ≤ 9223372036854775807 ∧ (0 < n → ∃ g o, A = some ⟨g, o, none⟩ ∧ g < w.heap.size ∧ w.rangeAt g o xs)
abbrev RdL {α : Type} (w : World) (k : Nat) (f : α → Array Value) (l : List α) (v : Value) : Prop := Rd w k (flat f l) l.length v
section
variable {w w1 : World} {k n : Nat} {xs : List Value} {v : Value}
theorem Rd.keep (h : Rd w k xs n v) (hb : ∀ p : Addr, p.block < w.heap.size → w1.cell? p = w.cell? p) (hz : w.heap.size ≤ w1.heap.size) : Rd w1 k xs n v := by
 obtain ⟨A, cap, e, h1, h2, h3⟩ := h
 refine ⟨A, cap, e, h1, h2, fun hn => ?_⟩
 obtain ⟨g, o, e2, h4, h5⟩ := h3 hn
 exact ⟨g, o, e2, by omega, fun j u hu => by rw [hb _ h4]; exact h5 j u hu⟩
theorem Rd.below (h : Rd w k xs n v) (hb : Below w.heap.size w w1) : Rd w1 k xs n v := h.keep (fun _ hp => hb.cell hp) hb.size
theorem Rd.nil (w : World) (k : Nat) : Rd w k [] 0 (.slice none 0 0) := ⟨none, 0, rfl, Nat.le_refl _, by omega, by omega⟩
theorem Rd.own {base : Nat} {e : TypeId} (h : w.ownsRow base e k v n xs) : Rd w k xs n v := by
 rcases h.2 with ⟨rfl, rfl⟩ | ⟨g, cap, cur, rfl, hb, hg, hn, hc, hs, ht⟩
 ·exact ⟨none, 0, rfl, Nat.le_refl _, by omega, by omega⟩
 ·unfold maxLen at hc
  refine ⟨_, cap, rfl, hn, by omega, fun _ => ⟨g, 0, rfl, (Array.getElem?_eq_some_iff.1 hg).1, fun j u hu => ?_⟩⟩
  have hj : j < n * k := by rw [← h.1]; exact (List.getElem?_eq_some_iff.1 hu).1
  rw [Nat.zero_add, h.cellAt j hj]; exact hu
end
theorem RdL.elem {α : Type} {w : World} {k : Nat} {f : α → Array Value} {l : List α} {g o j : Nat} {x : α} (hk : ∀ x, (f x).size = k)
  (h : w.rangeAt g o (flat f l)) (hx : l[j]? = some x) : w.rangeAt g (o + j * k) (f x).toList := fun i v hv => by
 have := flat_at hk l j x hx i v hv
 have h2 := h _ _ this
 rw [← Nat.add_assoc] at h2; exact h2
def Apart (u v : Value) : Prop := ∀ g, u.ownBlock = some g → v.ownBlock ≠ some g
theorem Apart.symm {u v : Value} (h : Apart u v) : Apart v u := fun g hv hu => h g hu hv
theorem Apart.ne {u v : Value} (h : Apart u v) : u.ownBlock = none ∨ u.ownBlock ≠ v.ownBlock := by
 cases hu : u.ownBlock with
 | none => exact .inl rfl
 | some g => exact .inr (fun e => h g hu e.symm)
theorem Apart.nil (v : Value) (n c : Nat) : Apart (.slice none n c) v := fun g h => by simp [Value.ownBlock] at h
theorem own_one {w : World} {B e k n : Nat} {v : Value} {xs : List Value} (h : w.ownsRow B e k v n xs) : v.oneCell' = true := by
 rcases h.2 with ⟨rfl, _⟩ | ⟨_, _, _, rfl, _⟩ <;> rfl
theorem own_far {w w1 : World} {base g : Nat} {e : TypeId} {k n : Nat} {v : Value} {xs : List Value} (h : w.ownsRow base e k v n xs) (hu : Upd w w1 g) (hg : g < base) : w1.ownsRow base e k v n xs :=
 own_grown h hu (by
  cases hv : v.ownBlock with
  | none => exact .inl rfl
  | some b => exact .inr (fun e => by injection e with e; have := (h.lt b hv).1; omega))
end Go.Proofs.YtonjdlialejedaaGreatDoor
namespace Go.Proofs.YtonjdlialejedaaGreatDoor
open Go.Lib (hid)
open Go.RowKit
def nc (k n : Int) (t : List UInt8) (v : Value) : Array Value := #[.int .i64 k, .int .i64 n, .string (byt t), v]
def flatA (l : List (Array Value)) : List Value := l.flatMap Array.toList
mutual
def NodeAt (w : World) (S : Nat → Prop) : Pars.Node → Array Value → Prop
 | .mk k n t l, cs => ∃ (A : Option Addr) (cap : Nat) (css : List (Array Value)), cs = nc k n t (.slice A l.length cap) ∧ l.length ≤ cap ∧ cap ≤ 9223372036854775807 ∧
   (0 < l.length → ∃ g o, A = some ⟨g, o, none⟩ ∧ S g ∧ g < w.heap.size ∧ w.rangeAt g o (flatA css)) ∧ NodesAt w S l css
def NodesAt (w : World) (S : Nat → Prop) : List Pars.Node → List (Array Value) → Prop
 | [], [] => True
 | n :: l, c :: cs => NodeAt w S n c ∧ NodesAt w S l cs
 | [], _ :: _ => False
 | _ :: _, [] => False
end
theorem NodesAt.len {w : World} {S : Nat → Prop} : ∀ {l : List Pars.Node} {cs : List (Array Value)}, NodesAt w S l cs → cs.length = l.length
 | [], [], _ => rfl
 | _ :: l, _ :: cs, h => by unfold NodesAt at h; simp [NodesAt.len h.2]
 | [], _ :: _, h => by unfold NodesAt at h; exact h.elim
 | _ :: _, [], h => by unfold NodesAt at h; exact h.elim
mutual
theorem NodeAt.keep {w w1 : World} {S S1 : Nat → Prop} (hs : ∀ g, S g → g < w.heap.size → S1 g) (hz : w.heap.size ≤ w1.heap.size) (hb : ∀ g, S g → g < w.heap.size → w1.heap[g]? = w.heap[g]?) : ∀ {n : Pars.Node} {cs : Array Value}, NodeAt w S n cs → NodeAt w1 S1 n cs
 | .mk k n t l, cs, h => by
  unfold NodeAt at h ⊢
  obtain ⟨A, cap, css, h1, h2, h3, h4, h5⟩ := h
  refine ⟨A, cap, css, h1, h2, h3, fun hl => ?_, NodesAt.keep hs hz hb h5⟩
  obtain ⟨g, o, e1, e2, e3, e4⟩ := h4 hl
  refine ⟨g, o, e1, hs g e2 e3, by omega, fun i u hu => ?_⟩
  rw [World.cell?_of_block (hb g e2 e3)]
  exact e4 i u hu
theorem NodesAt.keep {w w1 : World} {S S1 : Nat → Prop} (hs : ∀ g, S g → g < w.heap.size → S1 g) (hz : w.heap.size ≤ w1.heap.size) (hb : ∀ g, S g → g < w.heap.size → w1.heap[g]? = w.heap[g]?) : ∀ {l : List Pars.Node} {cs : List (Array Value)}, NodesAt w S l cs → NodesAt w1 S1 l cs
 | [], [], _ => by unfold NodesAt; trivial
 | n :: l, c :: cs, h => by
  unfold NodesAt at h ⊢
  exact ⟨NodeAt.keep hs hz hb h.1, NodesAt.keep hs hz hb h.2⟩
 | [], _ :: _, h => by unfold NodesAt at h; exact h.elim
 | _ :: _, [], h => by unfold NodesAt at h; exact h.elim
end
theorem NodeAt.size {w : World} {S : Nat → Prop} : ∀ {n : Pars.Node} {cs : Array Value}, NodeAt w S n cs → cs.size = 4
 | .mk k n t l, cs, h => by unfold NodeAt at h; obtain ⟨A, cap, css, rfl, _⟩ := h; rfl
theorem NodeAt.one {w : World} {S : Nat → Prop} : ∀ {n : Pars.Node} {cs : Array Value}, NodeAt w S n cs → cs.all (·.oneCell') = true
 | .mk k n t l, cs, h => by unfold NodeAt at h; obtain ⟨A, cap, css, rfl, _⟩ := h; simp [nc, Value.oneCell']
theorem NodeAt.leaf (w : World) (S : Nat → Prop) (k n : Int) (t : List UInt8) : NodeAt w S (.mk k n t []) (nc k n t (.slice none 0 0)) := by
 unfold NodeAt
 exact ⟨none, 0, [], rfl, Nat.le_refl _, by omega, fun h => absurd h (by simp), by unfold NodesAt; trivial⟩
theorem NodesAt.snoc {w : World} {S : Nat → Prop} {n : Pars.Node} {c : Array Value} (hn : NodeAt w S n c) : ∀ {l : List Pars.Node} {cs : List (Array Value)}, NodesAt w S l cs → NodesAt w S (l ++ [n]) (cs ++ [c])
 | [], [], _ => by simp only [List.nil_append]; unfold NodesAt; exact ⟨hn, by unfold NodesAt; trivial⟩
 | m :: l, d :: cs, h => by unfold NodesAt at h; simp only [List.cons_append]; unfold NodesAt; exact ⟨h.1, NodesAt.snoc hn h.2⟩
 | [], _ :: _, h => by unfold NodesAt at h; exact h.elim
 | _ :: _, [], h => by unfold NodesAt at h; exact h.elim
theorem flatA_append (a b : List (Array Value)) : flatA (a ++ b) = flatA a ++ flatA b := by simp [flatA]
theorem NodesAt.flat_len {w : World} {S : Nat → Prop} : ∀ {l : List Pars.Node} {cs : List (Array Value)}, NodesAt w S l cs → (flatA cs).length = l.length * 4
 | [], [], _ => rfl
 | n :: l, c :: cs, h => by
  unfold NodesAt at h
  have h1 := NodeAt.size h.1
  have h2 := NodesAt.flat_len h.2
  simp only [flatA, List.flatMap_cons, List.length_append, List.length_cons] at h2 ⊢
  rw [h2, Array.length_toList, h1]; omega
 | [], _ :: _, h => by unfold NodesAt at h; exact h.elim
 | _ :: _, [], h => by unfold NodesAt at h; exact h.elim
def kc (p : Lexy.Tk × Int × Int) : Array Value := #[.int .i64 (p.1.kind : Int), .int .i64 p.2.1, .int .i64 p.2.2, .string (byt p.1.text), .int .i64 (p.1.num : Int)]
theorem kc_one (p : Lexy.Tk × Int × Int) : (kc p).all (·.oneCell') = true := by simp [kc, Value.oneCell']
def KRd (w : World) (ts : List (Lexy.Tk × Int × Int)) (v : Value) : Prop := Rd w 5 (flat kc ts) ts.length v
def pc (v : Value) (k : Nat) (fn lp : Bool) : Array Value := #[v, .int .i64 (k : Int), .bool fn, .bool lp]
def toks (ts : List (Lexy.Tk × Int × Int)) : List Lexy.Tk := ts.map (·.1)
end Go.Proofs.YtonjdlialejedaaGreatDoor
namespace Go.Proofs.YtonjdlialejedaaGreatDoor
open Go.Lib (hid)
open Go.RowKit
abbrev KT := Lexy.Tk × Int × Int
theorem info_tok : (Tryz.prog.info? 40).map (·.size) = some 5 := by kernel_rfl
theorem info_nod : (Tryz.prog.info? 24).map (·.size) = some 4 := by kernel_rfl
structure PSt (w : World) (b : Nat) (ts : List KT) (A : Option Addr) (c k : Nat) (fn lp : Bool) : Prop where
 box : Box w b 76 (pc (.slice A ts.length c) k fn lp)
 ks : KRd w ts (.slice A ts.length c)
 kle : k ≤ ts.length
 ne : ∀ g o, A = some ⟨g, o, none⟩ → g ≠ b
 len : ts.length ≤ 1000
theorem PSt.below {w w1 : World} {b : Nat} {ts : List KT} {A : Option Addr} {c k : Nat} {fn lp : Bool} (h : PSt w b ts A c k fn lp) (hb : Below w.heap.size w w1) : PSt w1 b ts A c k fn lp :=
 ⟨h.box.below hb h.box.lt, Rd.below h.ks hb, h.kle, h.ne, h.len⟩
theorem PSt.upd {w w1 : World} {b : Nat} {ts : List KT} {A : Option Addr} {c k k1 : Nat} {fn lp fn1 lp1 : Bool} (h : PSt w b ts A c k fn lp) (hx : Box w1 b 76 (pc (.slice A ts.length c) k1 fn1 lp1)) (hu : Upd w w1 b) (hk : k1 ≤ ts.length) : PSt w1 b ts A c k1 fn1 lp1 := by
 refine ⟨hx, ?_, hk, h.ne, h.len⟩
 obtain ⟨A', cap, e, h1, h2, h3⟩ := h.ks
 refine ⟨A', cap, e, h1, h2, fun hn => ?_⟩
 obtain ⟨g, o, rfl, hg, hr⟩ := h3 hn
 injection e with e _ _
 have hz := hu.size
 refine ⟨g, o, rfl, by omega, fun i u hi => ?_⟩
 rw [World.cell?_of_block (hu.block g hg (by intro x; injection x with x; exact h.ne g o e x))]
 exact hr i u hi
def left (ts : List KT) (k : Nat) : List Lexy.Tk := (toks ts).drop k
theorem left_cons {ts : List KT} {k : Nat} {t : KT} (h : ts[k]? = some t) : left ts k = t.1 :: left ts (k + 1) := by
 have h1 : (toks ts)[k]? = some t.1 := by unfold toks; rw [List.getElem?_map, h]; rfl
 have hlt := (List.getElem?_eq_some_iff.1 h1).1
 unfold left
 rw [List.drop_eq_getElem_cons hlt, (List.getElem?_eq_some_iff.1 h1).2]
theorem left_nil {ts : List KT} {k : Nat} (h : ts.length ≤ k) : left ts k = [] := by unfold left; exact List.drop_eq_nil_of_le (by simpa [toks] using h)
def here (ts : List KT) (k : Nat) : Array Value := match ts[k]? with
 | some t => kc t
 | none => #[.int .i64 0, .int .i64 0, .int .i64 0, .string ⟨#[]⟩, .int .i64 0]
theorem same_yes (A : ByteArray) : (A.toList == A.toList) = true ∧ decide (A.toList = A.toList) = true := by simp
theorem same_no {A B : ByteArray} (h : A ≠ B) : (A.toList == B.toList) = false ∧ decide (A.toList = B.toList) = false ∧ decide (A = B) = false := by
 have h1 : ¬ A.toList = B.toList := fun e => h (by cases A; cases B; simpa [ByteArray.toList_eq] using e)
 exact ⟨bn h1, decide_eq_false h1, decide_eq_false h⟩
theorem tz_one : (#[.int .i64 0, .int .i64 0, .int .i64 0, .string ⟨#[]⟩, .int .i64 0] : Array Value).all (·.oneCell') = true := by simp [Value.oneCell']
theorem ktok_one (ts : List KT) (k : Nat) : (here ts k).all (·.oneCell') = true := by
 unfold here
 split
 ·exact kc_one _
 ·simp [Value.oneCell']
theorem ktok_size (ts : List KT) (k : Nat) : (here ts k).size = 5 := by unfold here; split <;> rfl
set_option maxRecDepth 100000 in
set_option maxHeartbeats 4000000 in
theorem peek_any (w : World) (b : Nat) (ts : List KT) (A : Option Addr) (c k : Nat) (fn lp : Bool) (h : PSt w b ts A c k fn lp) :
  Calls Tryz.prog 59 #[.pointer (some ⟨b, 0, none⟩)] w fun e w' => e = .returned (.agg (here ts k)) ∧ Below w.heap.size w w' := by
 have hb := h.box
 have hkle := h.kle
 have HKS := hid h.ks
 have hlt := hb.lt
 obtain ⟨n, hn⟩ : ∃ n, ts.length = n := ⟨_, rfl⟩
 have HN := hid hn
 rw [hn] at hb hkle
 clear hn h
 go_enter Tryz.func59, Tryz.ntmps59
 go_upto_region 1 with fail
 have HR0 := hid (Box.new w 40 #[.int .i64 0, .int .i64 0, .int .i64 0, .string ⟨#[]⟩, .int .i64 0])
 have hU0 : Below w.heap.size w (w.alloc (.cells #[.int .i64 0, .int .i64 0, .int .i64 0, .string ⟨#[]⟩, .int .i64 0] 40)) := below1 w _
 have hb1 := hb.below hU0 hlt
 obtain ⟨W0, hW0⟩ : ∃ W0, (w.alloc (.cells #[.int .i64 0, .int .i64 0, .int .i64 0, .string ⟨#[]⟩, .int .i64 0] 40)) = W0 := ⟨_, rfl⟩
 rw [hW0] at HR0 hU0 hb1
 rw [hW0]
 clear hW0 hb
 have HU0 := hid hU0
 have c0 := hb1.cell 0
 have c1 := hb1.cell 1
 simp [pc] at c0 c1
 clear hb1 hU0
 by_cases y : k < n
 ·have d1 : decide ((k : Int) < (n : Int)) = true := decide_eq_true (by omega)
  have d2 : (k : Int) < (n : Int) := by omega
  obtain ⟨t, ht⟩ : ∃ t, ts[k]? = some t := ⟨_, List.getElem?_eq_getElem (by rw [HN.out]; exact y)⟩
  have HH : Hid (here ts k = kc t) := hid (by unfold here; rw [ht])
  obtain ⟨X, cx, e1, h1, h2, h3⟩ := HKS.out
  injection e1 with e1 _ e2
  subst e1 e2
  obtain ⟨g0, o0, rfl, hg0, hr0⟩ := h3 (by rw [HN.out]; omega)
  have hrow := RdL.elem (k := 5) (f := kc) (fun _ => rfl) hr0 ht
  have HROW : Hid (W0.rangeAt g0 (o0 + k * 5) (kc t).toList) := hid (fun i u hu => by rw [HU0.out.cell (p := ⟨g0, o0 + k * 5 + i, none⟩) hg0]; exact hrow i u hu)
  have hg0' := HU0.out.size
  clear y ht h1 h2 h3 hr0 hrow HKS
  go_quiet (fail)
  go_upto_region 2 with fail
  obtain ⟨W1, hW1⟩ : ∃ W1, W0.drewN nq = W1 := ⟨_, rfl⟩
  have hd1 : Below W0.heap.size W0 W1 := hW1 ▸ below_drewN (Below.refl _ W0) nq
  rw [hW1]
  have c0 := (hd1.cell (p := ⟨b, 0, none⟩) (block_lt_of_cell c0)).trans c0
  have c1 := (hd1.cell (p := ⟨b, 1, none⟩) (block_lt_of_cell c1)).trans c1
  have HROW : Hid (W1.rangeAt g0 (o0 + k * 5) (kc t).toList) := hid (fun i u hu => by rw [hd1.cell (p := ⟨g0, o0 + k * 5 + i, none⟩) (by show g0 < _; omega)]; exact HROW.out i u hu)
  have HR1 := bl HR0 hd1
  have HU1 := hid (HU0.out.trans (hd1.mono HU0.out.size))
  clear hW1 hd1
  refine wp_region_held_drew (S := fun w' => w'.cell? ⟨b, 0, none⟩ = some (.slice (some ⟨g0, o0, none⟩) n c) ∧ w'.cell? ⟨b, 1, none⟩ = some (.int .i64 (k : Int)) ∧ w'.rangeAt g0 (o0 + k * 5) (kc t).toList ∧ Below w.heap.size w w') (by kernel_rfl) ⟨c0, c1, HROW.out, HU1.out.drew⟩ (fun hHeld => ?_)
  refine tH (i := 0) (v := ?_) rfl ?_ (by assumption) ?_
  rotate_left
  ·intro w hSw
   obtain ⟨s1, s2, s3, s4⟩ := hSw
   go_simp
   try (with_reducible rfl)
  (try simp only [Act.put, sq])
  refine tH (i := 1) (v := ?_) rfl ?_ (by assumption) ?_
  rotate_left
  ·intro w hSw
   obtain ⟨s1, s2, s3, s4⟩ := hSw
   go_simp
   try (with_reducible rfl)
  (try simp only [Act.put, sq])
  refine tH (i := 2) (v := ?_) rfl ?_ (by assumption) ?_
  rotate_left
  ·intro w hSw
   obtain ⟨s1, s2, s3, s4⟩ := hSw
   go_simp
   try (with_reducible rfl)
  (try simp only [Act.put, sq])
  refine tH (i := 3) (v := ?_) rfl ?_ (by assumption) ?_
  rotate_left
  ·intro w hSw
   obtain ⟨s1, s2, s3, s4⟩ := hSw
   go_simp
   try (with_reducible rfl)
  (try simp only [Act.put, sq])
  refine tH (i := 4) (v := ?_) rfl ?_ (by assumption) ?_
  rotate_left
  ·intro w hSw
   obtain ⟨s1, s2, s3, s4⟩ := hSw
   go_simp
   try (with_reducible rfl)
  (try simp only [Act.put, sq])
  refine tH (i := 5) (v := ?_) rfl ?_ (by assumption) ?_
  rotate_left
  ·intro w hSw
   obtain ⟨s1, s2, s3, s4⟩ := hSw
   go_simp
   try (with_reducible rfl)
  (try simp only [Act.put, sq])
  refine tH (i := 6) (v := ?_) rfl ?_ (by assumption) ?_
  rotate_left
  ·intro w hSw
   obtain ⟨s1, s2, s3, s4⟩ := hSw
   go_simp
   try (with_reducible rfl)
  (try simp only [Act.put, sq])
  refine tH (i := 7) (v := ?_) rfl ?_ (by assumption) ?_
  rotate_left
  ·intro w hSw
   obtain ⟨s1, s2, s3, s4⟩ := hSw
   go_simp
   try (with_reducible rfl)
  (try simp only [Act.put, sq])
  refine tH (i := 8) (v := .pointer (some ⟨g0, o0 + k * 5, none⟩)) rfl ?_ (by assumption) ?_
  ·intro w hSw
   obtain ⟨s1, s2, s3, s4⟩ := hSw
   go_simp
  (try simp only [Act.put, sq])
  refine wpAnyH_take (i := 9) (v := _) rfl (by kernel_rfl) (by kernel_rfl) (by kernel_rfl) (fun _ _ _ h => h) (yieldsIf_load_mid (by kernel_rfl) 40 (.tmp 21) rfl (g0) (o0 + k * 5) rfl ((kc t).toList) _ (fun _ h => h.2.2.1) Tryz.underlying40 rfl info_tok) (by assumption) ?_
  (try simp only [Act.put, sq])
  have hzz1 := HR1.out.lt
  have hzz2 := HU1.out.size
  refine rdH 10 rfl fun K hK => ?_
  refine step_store_box rfl 40 (.tmp 2) (.tmp 22) rfl w.heap.size (kc t) rfl rfl 40 _ (Box.drew HR1.out) info_tok rfl (kc_one t) ?_
  intro wz hxz huz hzz
  refine hK.out _ _ ⟨(World.cell?_of_block (huz.block b (by show b < _; first | omega | (simp; omega)) (by simp; omega))).trans hHeld.1, (World.cell?_of_block (huz.block b (by show b < _; first | omega | (simp; omega)) (by simp; omega))).trans hHeld.2.1, fun i u hu => (World.cell?_of_block (huz.block g0 (by show g0 < _; first | omega | (simp; omega)) (by simp; omega))).trans (hHeld.2.2.1 i u hu), hHeld.2.2.2.trans (huz.own (Nat.le_refl _) hHeld.2.2.2.size)⟩ (fun hHeld => ?_)
  clear hK K
  (try simp only [Act.put, sq])
  refine wpAnyH_done (by kernel_rfl) ?_ _
  go_wp2
  refine bodyPost_ret (results_box rfl _ _ w.heap.size 40 _ _ rfl hxz Tryz.underlying40 rfl info_tok) rfl ?_
  exact ⟨by rw [HH.out], hHeld.2.2.2⟩
 ·have d1 : decide ((k : Int) < (n : Int)) = false := decide_eq_false (by omega)
  have d2 : ¬ (k : Int) < (n : Int) := by omega
  have HH : Hid (here ts k = #[.int .i64 0, .int .i64 0, .int .i64 0, .string ⟨#[]⟩, .int .i64 0]) := hid (by unfold here; rw [List.getElem?_eq_none (by rw [HN.out]; omega)])
  clear y
  go_quiet (fail)
  obtain ⟨W1, hW1⟩ : ∃ W1, W0.drewN nq = W1 := ⟨_, rfl⟩
  have hd1 : Below W0.heap.size W0 W1 := hW1 ▸ below_drewN (Below.refl _ W0) nq
  rw [hW1]
  have HR1 := bl HR0 hd1
  have HU1 := hid (HU0.out.trans (hd1.mono HU0.out.size))
  clear hW1 hd1 c0 c1
  go_wp2_with (refine wpList_store_box rfl 40 (.tmp 2) (.tmp 23) rfl w.heap.size #[.int .i64 0, .int .i64 0, .int .i64 0, .string ⟨#[]⟩, .int .i64 0] rfl rfl 40 _ HR1.out info_tok rfl tz_one ?_; intro wz hxz huz hzz; have HZZ := hid hzz; clear hzz)
  refine bodyPost_ret (results_box rfl _ _ w.heap.size 40 _ _ rfl hxz Tryz.underlying40 rfl info_tok) rfl ?_
  exact ⟨by rw [HH.out], HU1.out.trans (huz.own (Nat.le_refl _) HU1.out.size)⟩
def SL : Value := .iface 72 (.agg #[])
def IsOut (s : List UInt8) (w : World) (b : Nat) (ts : List KT) (A : Option Addr) (c k : Nat) (fn lp : Bool) (e : Ending) (w' : World) : Prop :=
 (Pars.is s (left ts k) = some (left ts (k + 1)) ∧ k < ts.length ∧ e = .returned (.bool true) ∧ Box w' b 76 (pc (.slice A ts.length c) (k + 1) fn lp) ∧ Upd w w' b) ∨
 (Pars.is s (left ts k) = none ∧ e = .returned (.bool false) ∧ Box w' b 76 (pc (.slice A ts.length c) k fn lp) ∧ Upd w w' b)
set_option maxRecDepth 100000 in
set_option maxHeartbeats 4000000 in
theorem is_any (s : List UInt8) (w : World) (b : Nat) (ts : List KT) (A : Option Addr) (c k : Nat) (fn lp : Bool) (h : PSt w b ts A c k fn lp) :
  Calls Tryz.prog 47 #[.pointer (some ⟨b, 0, none⟩), .string (byt s)] w (IsOut s w b ts A c k fn lp) := by
 have HP := hid (peek_any w b ts A c k fn lp h)
 have hlt := h.box.lt
 have HB := hid h.box
 have hlen := h.len
 have hkle := h.kle
 clear h
 by_cases y : k < ts.length
 ·obtain ⟨t, ht⟩ : ∃ t, ts[k]? = some t := ⟨_, List.getElem?_eq_getElem y⟩
  have HH : Hid (here ts k = kc t) := hid (by unfold here; rw [ht])
  have HL := hid (left_cons ht)
  rw [HH.out] at HP
  have HY := hid y
  obtain ⟨S, hS⟩ : ∃ S, byt s = S := ⟨_, rfl⟩
  rw [hS]
  have HS := hid hS
  obtain ⟨KD, hKD⟩ : ∃ K, t.1.kind = K := ⟨_, rfl⟩
  obtain ⟨TX, hTX⟩ : ∃ K, byt t.1.text = K := ⟨_, rfl⟩
  have HKD := hid hKD
  have HTX := hid hTX
  obtain ⟨tcs, htcs⟩ : ∃ K, kc t = K := ⟨_, rfl⟩
  have htc0 : tcs[0]? = some (.int .i64 (KD : Int)) := by rw [← htcs, ← hKD]; rfl
  have htc3 : tcs[3]? = some (.string TX) := by rw [← htcs, ← hTX]; rfl
  have htsz : (Tryz.prog.info? 40).map (·.size) = some tcs.size := by rw [← htcs]; exact info_tok
  have ht5 : (5 : Nat) = tcs.size := by rw [← htcs]; rfl
  have hto : tcs.all (·.oneCell') = true := by rw [← htcs]; exact kc_one t
  rw [htcs] at HP
  have HT0 := hid htc0
  have HT3 := hid htc3
  have HTS := hid htsz
  have HT5 := hid ht5
  have HTO := hid hto
  clear y ht hS hKD hTX htcs htc0 htc3 htsz ht5 hto
  go_enter Tryz.func47, Tryz.ntmps47
  go_wp2_with fail
  refine HP.out.mono ?_
  rintro e w1 ⟨rfl, hb1⟩
  go_upto_region 2 with (refine wpList_store_box rfl 40 (.tmp 5) (.tmp 7) rfl w1.heap.size tcs rfl rfl 40 _ (Box.new w1 _ _) HTS.out HT5.out HTO.out ?_; intro w2 hx2 hu2 hz2; have HZ2 := hid hz2; clear hz2)
  have hb2 : Below w1.heap.size w1 w2 := ((Below.refl _ w1).alloc (Nat.le_refl _) _).trans (hu2.own (Nat.le_refl _) (by simp))
  have HB2 := hid ((HB.out.below hb1 HB.out.lt).below hb2 (HB.out.below hb1 HB.out.lt).lt)
  have HU2 := hid (hb1.trans (hb2.mono hb1.size))
  have k0 := (hx2.cell 0).trans HT0.out
  have k3 := (hx2.cell 3).trans HT3.out
  have kb := HB2.out.cell 1
  simp [pc] at kb
  have kf : w2.frozen? ⟨b, 1, none⟩ = false := HB2.out.frozen 1
  have wk : IntKind.i64.wrap ((k : Int) + 1) = (k : Int) + 1 := by rw [IntKind.wrap_i64]; omega
  have hne : b ≠ w1.heap.size := by have := hb1.size; omega
  clear hb1 hb2 hu2 hx2
  by_cases y4 : KD = 4 ∨ KD = 5
  ·by_cases yt : TX = S
   ·subst yt
    have hst : Hid (Pars.is s (left ts k) = some (left ts (k + 1))) := hid (by
     rw [HL.out]
     simp only [Pars.is]
     rw [if_pos ⟨by rw [HKD.out]; exact y4, byt_inj (by rw [HTX.out, HS.out])⟩])
    obtain ⟨q1, q2⟩ := same_yes TX
    rcases y4 with rfl | rfl
    ·skip
     go_wp2
     go_ret
     have hB3 := HB2.out.set 1 (.int .i64 ((k : Int) + 1))
     exact .inl ⟨hst.out, HY.out, rfl, hB3, (Upd.below HU2.out b).set (.inl rfl) _⟩
    ·skip
     go_wp2
     go_ret
     have hB3 := HB2.out.set 1 (.int .i64 ((k : Int) + 1))
     exact .inl ⟨hst.out, HY.out, rfl, hB3, (Upd.below HU2.out b).set (.inl rfl) _⟩
   ·have hst : Hid (Pars.is s (left ts k) = none) := hid (by
     rw [HL.out]
     simp only [Pars.is]
     rw [if_neg (fun h => yt (by rw [← HTX.out, ← HS.out, h.2]))])
    obtain ⟨q1, q2, q3⟩ := same_no yt
    have q4 := of_decide_eq_false q2
    rcases y4 with rfl | rfl
    ·skip
     go_wp2
     go_ret
     exact .inr ⟨hst.out, rfl, HB2.out, Upd.below HU2.out b⟩
    ·skip
     go_wp2
     go_ret
     exact .inr ⟨hst.out, rfl, HB2.out, Upd.below HU2.out b⟩
  ·have hst : Hid (Pars.is s (left ts k) = none) := hid (by
    rw [HL.out]
    simp only [Pars.is]
    rw [if_neg (fun h => y4 (by rw [← HKD.out]; exact h.1))])
   have n4 : ((KD : Int) != 4) = true := by rw [bne_iff_ne]; omega
   have n5 : ((KD : Int) != 5) = true := by rw [bne_iff_ne]; omega
   clear y4
   skip
   go_wp2
   go_ret
   exact .inr ⟨hst.out, rfl, HB2.out, Upd.below HU2.out b⟩
 ·have HH : Hid (here ts k = #[.int .i64 0, .int .i64 0, .int .i64 0, .string ⟨#[]⟩, .int .i64 0]) := hid (by unfold here; rw [List.getElem?_eq_none (by omega)])
  have HL := hid (left_nil (ts := ts) (k := k) (by omega))
  rw [HH.out] at HP
  obtain ⟨S, hS⟩ : ∃ S, byt s = S := ⟨_, rfl⟩
  rw [hS]
  clear y hS
  go_enter Tryz.func47, Tryz.ntmps47
  go_wp2_with fail
  refine HP.out.mono ?_
  rintro e w1 ⟨rfl, hb1⟩
  go_upto_region 2 with (refine wpList_store_box rfl 40 (.tmp 5) (.tmp 7) rfl w1.heap.size #[.int .i64 0, .int .i64 0, .int .i64 0, .string ⟨#[]⟩, .int .i64 0] rfl rfl 40 _ (Box.new w1 _ _) info_tok rfl tz_one ?_; intro w2 hx2 hu2 hz2; have HZ2 := hid hz2; clear hz2)
  have hb2 : Below w1.heap.size w1 w2 := ((Below.refl _ w1).alloc (Nat.le_refl _) _).trans (hu2.own (Nat.le_refl _) (by simp))
  have HB2 := hid ((HB.out.below hb1 HB.out.lt).below hb2 (HB.out.below hb1 HB.out.lt).lt)
  have HU2 := hid (hb1.trans (hb2.mono hb1.size))
  have k0 := hx2.cell 0
  have k3 := hx2.cell 3
  simp at k0 k3
  clear hb1 hb2 hu2 hx2
  go_wp2
  go_ret
  exact .inr ⟨by rw [HL.out]; rfl, rfl, HB2.out, Upd.below HU2.out b⟩
def slipped : List PanicEntry := [{ v := SL, recovered := false }]
def MustOut (s : List UInt8) (w : World) (b : Nat) (ts : List KT) (A : Option Addr) (c k : Nat) (fn lp : Bool) (e : Ending) (w' : World) : Prop :=
 (Pars.is s (left ts k) = some (left ts (k + 1)) ∧ k < ts.length ∧ e = .returned (.tuple #[]) ∧ Box w' b 76 (pc (.slice A ts.length c) (k + 1) fn lp) ∧ Upd w w' b) ∨
 (Pars.is s (left ts k) = none ∧ e = .panicked slipped ∧ Upd w w' b)
set_option maxRecDepth 100000 in
set_option maxHeartbeats 4000000 in
theorem must_any (s : List UInt8) (w : World) (b : Nat) (ts : List KT) (A : Option Addr) (c k : Nat) (fn lp : Bool) (h : PSt w b ts A c k fn lp) :
  Calls Tryz.prog 49 #[.pointer (some ⟨b, 0, none⟩), .string (byt s)] w (MustOut s w b ts A c k fn lp) := by
 have HI := hid (is_any s w b ts A c k fn lp h)
 clear h
 go_enter Tryz.func49, Tryz.ntmps49
 go_wp2_with fail
 refine HI.out.mono ?_
 rintro e w1 (⟨h1, h2, rfl, h3, h4⟩ | ⟨h1, rfl, h3, h4⟩)
 ·have H1 := hid h1
  have H3 := hid h3
  have H4 := hid h4
  clear h1 h3 h4
  go_wp2
  go_end0
  exact .inl ⟨H1.out, h2, rfl, H3.out, H4.out⟩
 ·have H1 := hid h1
  have H4 := hid h4
  clear h1 h3 h4
  go_wp2
  exact ⟨rfl, .inr ⟨H1.out, rfl, H4.out⟩⟩
theorem within_any (is : Bool) (w : World) : Calls Tryz.prog 57 #[.bool is] w fun e w' => (e = if is = true then .returned (.tuple #[]) else .panicked slipped) ∧ w' = w := by
 cases is
 ·go_enter Tryz.func57, Tryz.ntmps57
  go_wp2
  exact ⟨rfl, rfl, rfl⟩
 ·go_enter Tryz.func57, Tryz.ntmps57
  go_wp2
  go_end0
  exact ⟨rfl, rfl⟩
def NameOut (w : World) (b : Nat) (ts : List KT) (A : Option Addr) (c k : Nat) (fn lp : Bool) (e : Ending) (w' : World) : Prop :=
 (∃ t : KT, ts[k]? = some t ∧ t.1.kind = 1 ∧ k < ts.length ∧ e = .returned (.string (byt t.1.text)) ∧ Box w' b 76 (pc (.slice A ts.length c) (k + 1) fn lp) ∧ Upd w w' b) ∨
 ((∀ t, ts[k]? = some t → t.1.kind ≠ 1) ∧ e = .panicked slipped ∧ Upd w w' b)
set_option maxRecDepth 100000 in
set_option maxHeartbeats 4000000 in
theorem name_any (w : World) (b : Nat) (ts : List KT) (A : Option Addr) (c k : Nat) (fn lp : Bool) (h : PSt w b ts A c k fn lp) :
  Calls Tryz.prog 48 #[.pointer (some ⟨b, 0, none⟩)] w (NameOut w b ts A c k fn lp) := by
 have HP := hid (peek_any w b ts A c k fn lp h)
 have hlt := h.box.lt
 have HB := hid h.box
 have hlen := h.len
 have hkle := h.kle
 clear h
 by_cases y : k < ts.length
 ·obtain ⟨t, ht⟩ : ∃ t, ts[k]? = some t := ⟨_, List.getElem?_eq_getElem y⟩
  have HH : Hid (here ts k = kc t) := hid (by unfold here; rw [ht])
  rw [HH.out] at HP
  have HY := hid y
  have HT := hid ht
  obtain ⟨KD, hKD⟩ : ∃ K, t.1.kind = K := ⟨_, rfl⟩
  obtain ⟨TX, hTX⟩ : ∃ K, byt t.1.text = K := ⟨_, rfl⟩
  have HKD := hid hKD
  have HTX := hid hTX
  obtain ⟨tcs, htcs⟩ : ∃ K, kc t = K := ⟨_, rfl⟩
  have htc0 : tcs[0]? = some (.int .i64 (KD : Int)) := by rw [← htcs, ← hKD]; rfl
  have htc3 : tcs[3]? = some (.string TX) := by rw [← htcs, ← hTX]; rfl
  have htsz : (Tryz.prog.info? 40).map (·.size) = some tcs.size := by rw [← htcs]; exact info_tok
  have ht5 : (5 : Nat) = tcs.size := by rw [← htcs]; rfl
  have hto : tcs.all (·.oneCell') = true := by rw [← htcs]; exact kc_one t
  rw [htcs] at HP
  have HT0 := hid htc0
  have HT3 := hid htc3
  have HTS := hid htsz
  have HT5 := hid ht5
  have HTO := hid hto
  clear y ht hKD hTX htcs htc0 htc3 htsz ht5 hto
  go_enter Tryz.func48, Tryz.ntmps48
  go_wp2_with fail
  refine HP.out.mono ?_
  rintro e w1 ⟨rfl, hb1⟩
  go_upto_region 2 with (refine wpList_store_box rfl 40 (.tmp 3) (.tmp 5) rfl w1.heap.size tcs rfl rfl 40 _ (Box.new w1 _ _) HTS.out HT5.out HTO.out ?_; intro w2 hx2 hu2 hz2; have HZ2 := hid hz2; clear hz2)
  have hb2 : Below w1.heap.size w1 w2 := ((Below.refl _ w1).alloc (Nat.le_refl _) _).trans (hu2.own (Nat.le_refl _) (by simp))
  have HB2 := hid ((HB.out.below hb1 HB.out.lt).below hb2 (HB.out.below hb1 HB.out.lt).lt)
  have HU2 := hid (hb1.trans (hb2.mono hb1.size))
  have k0 := (hx2.cell 0).trans HT0.out
  have k3 := (hx2.cell 3).trans HT3.out
  have kb := HB2.out.cell 1
  simp [pc] at kb
  have kf : w2.frozen? ⟨b, 1, none⟩ = false := HB2.out.frozen 1
  have wk : IntKind.i64.wrap ((k : Int) + 1) = (k : Int) + 1 := by rw [IntKind.wrap_i64]; omega
  have hne : b ≠ w1.heap.size := by have := hb1.size; omega
  have hne2 : w1.heap.size ≠ b := fun e => hne e.symm
  clear hb1 hb2 hu2 hx2
  by_cases y1 : KD = 1
  ·subst y1
   go_wp2
   go_ret
   have hB3 := HB2.out.set 1 (.int .i64 ((k : Int) + 1))
   exact .inl ⟨t, HT.out, HKD.out, HY.out, by rw [HTX.out] <;> rfl, hB3, (Upd.below HU2.out b).set (.inl rfl) _⟩
  ·have n1 : ((KD : Int) != 1) = true := by rw [bne_iff_ne]; omega
   have HY1 := hid y1
   clear y1
   go_wp2
   exact ⟨rfl, .inr ⟨fun t' ht' => by rw [HT.out] at ht'; injection ht' with ht'; rw [← ht', HKD.out]; exact HY1.out, rfl, Upd.below HU2.out b⟩⟩
 ·have HH : Hid (here ts k = #[.int .i64 0, .int .i64 0, .int .i64 0, .string ⟨#[]⟩, .int .i64 0]) := hid (by unfold here; rw [List.getElem?_eq_none (by omega)])
  have HN : Hid (ts[k]? = none) := hid (List.getElem?_eq_none (by omega))
  rw [HH.out] at HP
  clear y
  go_enter Tryz.func48, Tryz.ntmps48
  go_wp2_with fail
  refine HP.out.mono ?_
  rintro e w1 ⟨rfl, hb1⟩
  go_upto_region 2 with (refine wpList_store_box rfl 40 (.tmp 3) (.tmp 5) rfl w1.heap.size #[.int .i64 0, .int .i64 0, .int .i64 0, .string ⟨#[]⟩, .int .i64 0] rfl rfl 40 _ (Box.new w1 _ _) info_tok rfl tz_one ?_; intro w2 hx2 hu2 hz2; have HZ2 := hid hz2; clear hz2)
  have hb2 : Below w1.heap.size w1 w2 := ((Below.refl _ w1).alloc (Nat.le_refl _) _).trans (hu2.own (Nat.le_refl _) (by simp))
  have HU2 := hid (hb1.trans (hb2.mono hb1.size))
  have k0 := hx2.cell 0
  simp at k0
  clear hb1 hb2 hu2 hx2
  go_wp2
  exact ⟨rfl, .inr ⟨fun t' ht' => by rw [HN.out] at ht'; exact absurd ht' (by simp), rfl, Upd.below HU2.out b⟩⟩
end Go.Proofs.YtonjdlialejedaaGreatDoor
