/-
  Texts that the law leans on: Unt, Lex. Conditions: as each says.
-/
import Derived.OrdersHeld
import Derived.Deep.RegionHeld
import Derived.Lib.Hide
set_option linter.unusedSimpArgs false
set_option linter.unusedVariables false
namespace Go
theorem sq {α : Type} : (∀ (xs : List α) (i : Nat) (h : i < xs.toArray.size), xs.toArray[i] = xs[i]'(by simpa using h)) ∧ (∀ (a : α) (as : List α) (i : Nat) (h : i + 1 < (a :: as).length), (a :: as)[i + 1] = as[i]'(by simpa using h)) ∧ (∀ (a : α) (as : List α) (h : 0 < (a :: as).length), (a :: as)[0] = a) ∧ (∀ (xs : List α) (i : Nat) (v : α), xs.toArray.setIfInBounds i v = (xs.set i v).toArray) ∧ (∀ (a : α) (as : List α) (v : α), (a :: as).set 0 v = v :: as) ∧ (∀ (a : α) (as : List α) (i : Nat) (v : α), (a :: as).set (i + 1) v = a :: as.set i v) := ⟨fun _ _ _ => List.getElem_toArray .., fun _ _ _ _ => rfl, fun _ _ _ => rfl, fun _ _ _ => List.setIfInBounds_toArray .., fun _ _ _ => rfl, fun _ _ _ _ => rfl⟩
theorem ln {α : Type} : (∀ (a b : List α), (a ++ b).length = a.length + b.length) ∧ (∀ (a : α) (l : List α), (a :: l).length = l.length + 1) ∧ ([] : List α).length = 0 := ⟨fun _ _ => List.length_append, fun _ _ => rfl, rfl⟩
theorem bn {α : Type} [BEq α] [LawfulBEq α] {a b : α} (h : ¬ a = b) : (a == b) = false := beq_eq_false_iff_ne.2 h
end Go
namespace Go.Proofs.YtonjdlialejedaaGreatDoor
open Go.Lib (hid)
section
variable {P : Program} {ops : Array Oper} {Q : Exit → Act → World → Prop} {md : Region.Mode} {m : Nat} {S : World → Prop}
def wpAnyU (P : Program) (md : Region.Mode) (ops : Array Oper) (Q : Exit → Act → World → Prop) (m : Nat) (S : World → Prop) : Nat → Array Bool → Act → World → Prop
 | 0, listed, a, w => Region.ready md ops listed = [] ∧ Q .normal a w
 | fuel + 1, listed, a, w =>
  (Region.ready md ops listed = [] → Q .normal a w) ∧
  ∀ i ∈ Region.ready md ops listed, wpOp P ops Q i (fun a' w' => ((listed.setIfInBounds i true).getD m false = true ∨ S w') ∧ wpAnyU P md ops Q m S fuel (listed.setIfInBounds i true) a' w') a w
theorem wpAny_of_U : ∀ (fuel : Nat) (listed : Array Bool) (a : Act) (w : World), wpAnyU P md ops Q m S fuel listed a w → wpAny P md ops Q fuel listed a w
 | 0, _, _, _, h => h
 | fuel + 1, _, _, _, h => ⟨h.1, fun i hi => wpOp_mono (fun a' w' h' => wpAny_of_U fuel _ a' w' h'.2) (h.2 i hi)⟩
def waitsFor (md : Region.Mode) (ops : Array Oper) (m i : Nat) : Bool := match ops[m]? with
 | some o => o.after.any fun e => Region.binds md e && e.on == i
 | none => false
theorem notReady {listed : Array Bool} {i : Nat} (hm : waitsFor md ops m i = true) (hi : listed.getD i true = false) : m ∉ Region.ready md ops listed := by
 intro h
 obtain ⟨_, o, ho, hall⟩ := mem_ready.1 h
 unfold waitsFor at hm
 rw [ho] at hm
 simp only [Array.any_eq_true', Bool.and_eq_true, beq_iff_eq, List.any_eq_true] at hm
 obtain ⟨e, he, hb, hei⟩ := hm
 have h1 := hall e he hb
 rw [hei] at h1
 rcases Nat.lt_or_ge i listed.size with h' | h'
 ·simp [h'] at hi h1; rw [hi] at h1; cases h1
 ·simp [Array.getElem?_eq_none h'] at h1
theorem getD_ne {l : Array Bool} {j : Nat} (h : j ≠ m) : (l.setIfInBounds j true).getD m false = l.getD m false := by
 simp only [Array.getD_eq_getD_getElem?, Array.getElem?_setIfInBounds_ne h]
theorem wpAnyU_first {i : Nat} {oi : Oper} {v : Value} (hi : ops[i]? = some oi) (hsel : ∀ (j : Nat) (o : Oper) cs b, ops[j]? = some o → o.op ≠ .select cs b)
  (hQ : ∀ c a w, Q (.panic c) (a.put oi.dst v) w → Q (.panic c) a w) (hm : waitsFor md ops m i = true) :
  ∀ (fuel : Nat) (listed : Array Bool) (a : Act) (w : World), listed.getD m false = false →
   (∀ j oj, ops[j]? = some oj → j ≠ i → listed.getD j true = false → (∀ e ∈ oj.after, Region.binds md e = true → e.on ≠ i) → oi.apart ops oj = true) →
   i ∈ Region.ready md ops listed → YieldsIf P ops S oi v a → S w →
   wpAnyU P md ops Q m S fuel (listed.setIfInBounds i true) (a.put oi.dst v) w → wpAnyU P md ops Q m S (fuel + 1) listed a w := by
 intro fuel
 induction fuel with
 | zero =>
  intro listed a w _ _ hr hy hS H
  refine ⟨fun h => (by rw [h] at hr; cases hr), fun j hj => ?_⟩
  by_cases hji : j = i
  ·subst hji; exact hy.wpOp hi hS ⟨.inr hS, H⟩
  ·have := ready_mono hj hji
   rw [H.1] at this
   cases this
 | succ fuel ih =>
  intro listed a w hlm hfree hr hy hS H
  refine ⟨fun h => (by rw [h] at hr; cases hr), fun j hj => ?_⟩
  by_cases hji : j = i
  ·subst hji; exact hy.wpOp hi hS ⟨.inr hS, H⟩
  ·have hjm : j ≠ m := fun e => notReady hm (mem_ready.1 hr).1 (e ▸ hj)
   have him : i ≠ m := fun e => by
    have h := hm
    rw [← e] at h
    exact notReady h (mem_ready.1 hr).1 hr
   have h1 := H.2 j (ready_mono hj hji)
   obtain ⟨hjun, oj, hoj, hall⟩ := mem_ready.1 hj
   have hnot : ∀ e ∈ oj.after, Region.binds md e = true → e.on ≠ i := fun e he hb heq => by
    have h1 := hall e he hb
    have h0 := (mem_ready.1 hr).1
    rw [heq] at h1
    rcases Nat.lt_or_ge i listed.size with h' | h'
    ·simp [h'] at h0 h1; rw [h0] at h1; cases h1
    ·simp [Array.getElem?_eq_none h'] at h1
   have h2 := wpOp_putIf hoj (hfree j oj hoj hji hjun hnot) (fun cs b => hsel i oi cs b hi) (fun cs b => hsel j oj cs b hoj) hQ hy h1
   have hfree' : ∀ k ok, ops[k]? = some ok → k ≠ i → (listed.setIfInBounds j true).getD k true = false →
     (∀ e ∈ ok.after, Region.binds md e = true → e.on ≠ i) → oi.apart ops ok = true := fun k ok hk hki hun hno => by
    refine hfree k ok hk hki ?_ hno
    by_cases hjk : j = k
    ·subst hjk; exact hjun
    ·rw [getD_set_ne true hjk] at hun; exact hun
   have hlm' : (listed.setIfInBounds j true).getD m false = false := by rw [getD_ne hjm]; exact hlm
   have hlm2 : ((listed.setIfInBounds i true).setIfInBounds j true).getD m false = false := by rw [getD_ne hjm, getD_ne him]; exact hlm
   refine wpOp_mono (fun a' w' h3 => ?_) h2
   have hS' : S w' := h3.2.1.resolve_left (by rw [hlm2]; simp)
   refine ⟨.inr hS', ih (listed.setIfInBounds j true) a' w' hlm' hfree' (ready_mono hr (Ne.symm hji)) h3.1 hS' ?_⟩
   rw [Array.setIfInBounds_comm _ _ hji]
   exact h3.2.2
theorem wpAnyU_takeY {i : Nat} {oi : Oper} {v : Value} (him : i ≠ m) (hi : ops[i]? = some oi) (hse : Region.noSelect ops = true)
  (hQ : ∀ c a w, Q (.panic c) (a.put oi.dst v) w → Q (.panic c) a w) :
  ∀ {fuel : Nat} {listed : Array Bool} {a : Act} {w : World},
   Region.free md ops listed i = true →
   (Region.ready md ops listed).contains i = true → YieldsIf P ops (fun _ => True) oi v a → (listed.getD m false = true ∨ S w) →
   wpAnyU P md ops Q m S fuel (listed.setIfInBounds i true) (a.put oi.dst v) w → wpAnyU P md ops Q m S (fuel + 1) listed a w := by
 have hsel := Region.noSelect_spec hse
 suffices G : ∀ (fuel : Nat) (listed : Array Bool) (a : Act) (w : World),
   (∀ j oj, ops[j]? = some oj → j ≠ i → listed.getD j true = false → (∀ e ∈ oj.after, Region.binds md e = true → e.on ≠ i) → oi.apart ops oj = true) →
   i ∈ Region.ready md ops listed → YieldsIf P ops (fun _ => True) oi v a → (listed.getD m false = true ∨ S w) →
   wpAnyU P md ops Q m S fuel (listed.setIfInBounds i true) (a.put oi.dst v) w → wpAnyU P md ops Q m S (fuel + 1) listed a w from
  fun {fuel listed a w} hf hr => G fuel listed a w (Region.free_spec hi hf) (by simpa using hr)
 intro fuel
 induction fuel with
 | zero =>
  intro listed a w _ hr hy hS H
  refine ⟨fun h => (by rw [h] at hr; cases hr), fun j hj => ?_⟩
  by_cases hji : j = i
  ·subst hji; exact hy.wpOp hi trivial ⟨by rw [getD_ne him]; exact hS, H⟩
  ·have := ready_mono hj hji
   rw [H.1] at this
   cases this
 | succ fuel ih =>
  intro listed a w hfree hr hy hS H
  refine ⟨fun h => (by rw [h] at hr; cases hr), fun j hj => ?_⟩
  by_cases hji : j = i
  ·subst hji; exact hy.wpOp hi trivial ⟨by rw [getD_ne him]; exact hS, H⟩
  ·have h1 := H.2 j (ready_mono hj hji)
   obtain ⟨hjun, oj, hoj, hall⟩ := mem_ready.1 hj
   have hnot : ∀ e ∈ oj.after, Region.binds md e = true → e.on ≠ i := fun e he hb heq => by
    have h1 := hall e he hb
    have h0 := (mem_ready.1 hr).1
    rw [heq] at h1
    rcases Nat.lt_or_ge i listed.size with h' | h'
    ·simp [h'] at h0 h1; rw [h0] at h1; cases h1
    ·simp [Array.getElem?_eq_none h'] at h1
   have h2 := wpOp_putIf hoj (hfree j oj hoj hji hjun hnot) (fun cs b => hsel i oi cs b hi) (fun cs b => hsel j oj cs b hoj) hQ hy h1
   have hfree' : ∀ k ok, ops[k]? = some ok → k ≠ i → (listed.setIfInBounds j true).getD k true = false →
     (∀ e ∈ ok.after, Region.binds md e = true → e.on ≠ i) → oi.apart ops ok = true := fun k ok hk hki hun hno => by
    refine hfree k ok hk hki ?_ hno
    by_cases hjk : j = k
    ·subst hjk; exact hjun
    ·rw [getD_set_ne true hjk] at hun; exact hun
   refine wpOp_mono (fun a' w' h3 => ?_) h2
   have hS' : (listed.setIfInBounds j true).getD m false = true ∨ S w' := by
    have h4 := h3.2.1
    rw [Array.setIfInBounds_comm _ _ (Ne.symm hji), getD_ne him] at h4
    exact h4
   refine ⟨hS', ih (listed.setIfInBounds j true) a' w' hfree' (ready_mono hr (Ne.symm hji)) h3.1 hS' ?_⟩
   rw [Array.setIfInBounds_comm _ _ hji]
   exact h3.2.2
theorem wpAnyU_take {i : Nat} {oi : Oper} {v : Value} {fuel : Nat} {listed : Array Bool} {a : Act} {w : World} (hi : ops[i]? = some oi) (hm : waitsFor md ops m i = true) (hl : listed.getD m false = false)
  (hs : Region.noSelect ops = true) (hf : Region.free md ops listed i = true) (hr : (Region.ready md ops listed).contains i = true)
  (hQ : ∀ c a w, Q (.panic c) (a.put oi.dst v) w → Q (.panic c) a w) (hy : YieldsIf P ops S oi v a) (hS : S w)
  (h : wpAnyU P md ops Q m S fuel (listed.setIfInBounds i true) (a.put oi.dst v) w) : wpAnyU P md ops Q m S (fuel + 1) listed a w :=
 wpAnyU_first hi (Region.noSelect_spec hs) hQ hm fuel listed a w hl (Region.free_spec hi hf) (by simpa using hr) hy hS h
theorem wpAnyU_done {listed : Array Bool} {a : Act} {w : World} (hr : Region.ready md ops listed = []) (h : Q .normal a w) :
  ∀ fuel, wpAnyU P md ops Q m S fuel listed a w
 | 0 => ⟨hr, h⟩
 | _ + 1 => ⟨fun _ => h, by rw [hr]; simp⟩
def AllReadyU (P : Program) (md : Region.Mode) (ops : Array Oper) (Q : Exit → Act → World → Prop) (m : Nat) (S : World → Prop) (fuel : Nat) (listed : Array Bool) (a : Act) (w : World) (rs : List Nat) : Prop :=
 ∀ i ∈ rs, wpOp P ops Q i (fun a' w' => ((listed.setIfInBounds i true).getD m false = true ∨ S w') ∧ wpAnyU P md ops Q m S fuel (listed.setIfInBounds i true) a' w') a w
theorem AllReadyU.nil {fuel : Nat} {listed : Array Bool} {a : Act} {w : World} : AllReadyU P md ops Q m S fuel listed a w [] := fun _ h => by cases h
theorem AllReadyU.cons {fuel : Nat} {listed : Array Bool} {a : Act} {w : World} {i : Nat} {o : Oper} {rs : List Nat} (ho : ops[i]? = some o)
  (h : ∀ K' : Act → World → Prop, Shut (∀ a w, ((listed.setIfInBounds i true).getD m false = true ∨ S w) → (((listed.setIfInBounds i true).getD m false = true ∨ S w) → wpAnyU P md ops Q m S fuel (listed.setIfInBounds i true) a w) → K' a w) → if Region.wanted o (yielded ops a.tmps) = true then Oper.wp P o a w K' Q else K' (a.put o.dst undef) w)
  (hs : AllReadyU P md ops Q m S fuel listed a w rs) : AllReadyU P md ops Q m S fuel listed a w (i :: rs) := fun j hj => by
 rcases List.mem_cons.1 hj with rfl | hj
 ·exact wpOp_step ho (fun K' hK => h K' (fun a w hS hW => hK a w ⟨hS, hW hS⟩))
 ·exact hs j hj
theorem wpAnyU_ready {rs : List Nat} {fuel : Nat} {listed : Array Bool} {a : Act} {w : World} (hr : Region.ready md ops listed = rs) (hne : rs ≠ [])
  (h : AllReadyU P md ops Q m S fuel listed a w rs) : wpAnyU P md ops Q m S (fuel + 1) listed a w :=
 ⟨fun h0 => absurd (hr ▸ h0) hne, hr ▸ h⟩
theorem wp_region_until {id : Nat} {a : Act} {w : World} (m : Nat) (S : World → Prop) (hm : P.follows .mixedOrders = true) (hS : S w.drew)
  (h : S w.drew → wpAnyU P .any ops Q m S ops.size (Array.replicate ops.size false) a w.drew) : (Code.region id ops true).wp P Q a w :=
 wp_region_any hm (wpAny_of_U _ _ _ _ (h hS))
end
end Go.Proofs.YtonjdlialejedaaGreatDoor
namespace Go.Proofs.YtonjdlialejedaaGreatDoor
open Go.Lib (hid)
section
variable {P : Program} {ops : Array Oper} {Q : Exit → Act → World → Prop} {md : Region.Mode} {m : Nat} {S : World → Prop} {fuel : Nat} {listed : Array Bool} {a : Act} {w : World}
theorem rdU (i : Nat) {o : Oper} (ho : ops[i]? = some o)
    (h : ∀ K' : Act → World → Prop, Shut (∀ a w, ((listed.setIfInBounds i true).getD m false = true ∨ S w) → (((listed.setIfInBounds i true).getD m false = true ∨ S w) → wpAnyU P md ops Q m S fuel (listed.setIfInBounds i true) a w) → K' a w) → if Region.wanted o (yielded ops a.tmps) = true then Oper.wp P o a w K' Q else K' (a.put o.dst undef) w)
    (hr : Region.ready md ops listed = [i] := by kernel_rfl) : wpAnyU P md ops Q m S (fuel + 1) listed a w := wpAnyU_ready hr (by simp) (AllReadyU.cons ho h AllReadyU.nil)
theorem rdH (i : Nat) {o : Oper} (ho : ops[i]? = some o)
    (h : ∀ K' : Act → World → Prop, Shut (∀ a w, S w → (S w → wpAnyH P md ops Q S fuel (listed.setIfInBounds i true) a w) → K' a w) → if Region.wanted o (yielded ops a.tmps) = true then Oper.wp P o a w K' Q else K' (a.put o.dst undef) w)
    (hr : Region.ready md ops listed = [i] := by kernel_rfl) : wpAnyH P md ops Q S (fuel + 1) listed a w := wpAnyH_ready hr (by simp) (AllReadyH.cons ho h AllReadyH.nil)
theorem tU {i : Nat} {v : Value} {oi : Oper} (hi : ops[i]? = some oi) (hy : ∀ w, True → (execOp a.eval oi).run P w = .ok (.value v) w) (hS : listed.getD m false = true ∨ S w) (h : wpAnyU P md ops Q m S fuel (listed.setIfInBounds i true) (a.put oi.dst v) w)
    (hw : Region.wanted oi (yielded ops a.tmps) = true := by kernel_rfl) (him : i ≠ m := by decide) (hse : Region.noSelect ops = true := by kernel_rfl) (hQ : ∀ c a w, Q (.panic c) (a.put oi.dst v) w → Q (.panic c) a w := by exact fun _ _ _ h => h) (hf : Region.free md ops listed i = true := by kernel_rfl) (hr : (Region.ready md ops listed).contains i = true := by kernel_rfl) : wpAnyU P md ops Q m S (fuel + 1) listed a w :=
  wpAnyU_takeY him hi hse hQ hf hr (Or.inl ⟨hw, hy⟩) hS h
theorem tV {i : Nat} {v : Value} {oi : Oper} (hi : ops[i]? = some oi) (hy : ∀ w, S w → (execOp a.eval oi).run P w = .ok (.value v) w) (hS : S w) (h : wpAnyU P md ops Q m S fuel (listed.setIfInBounds i true) (a.put oi.dst v) w)
    (hw : Region.wanted oi (yielded ops a.tmps) = true := by kernel_rfl) (hm : waitsFor md ops m i = true := by kernel_rfl) (hl : listed.getD m false = false := by kernel_rfl) (hse : Region.noSelect ops = true := by kernel_rfl) (hQ : ∀ c a w, Q (.panic c) (a.put oi.dst v) w → Q (.panic c) a w := by exact fun _ _ _ h => h) (hf : Region.free md ops listed i = true := by kernel_rfl) (hr : (Region.ready md ops listed).contains i = true := by kernel_rfl) : wpAnyU P md ops Q m S (fuel + 1) listed a w :=
  wpAnyU_take hi hm hl hse hf hr hQ (Or.inl ⟨hw, hy⟩) hS h
theorem tH {i : Nat} {v : Value} {oi : Oper} (hi : ops[i]? = some oi) (hy : ∀ w, S w → (execOp a.eval oi).run P w = .ok (.value v) w) (hS : S w) (h : wpAnyH P md ops Q S fuel (listed.setIfInBounds i true) (a.put oi.dst v) w)
    (hw : Region.wanted oi (yielded ops a.tmps) = true := by kernel_rfl) (hse : Region.noSelect ops = true := by kernel_rfl) (hf : Region.free md ops listed i = true := by kernel_rfl) (hr : (Region.ready md ops listed).contains i = true := by kernel_rfl) (hQ : ∀ c a w, Q (.panic c) (a.put oi.dst v) w → Q (.panic c) a w := by exact fun _ _ _ h => h) : wpAnyH P md ops Q S (fuel + 1) listed a w :=
  wpAnyH_take hi hse hf hr hQ (Or.inl ⟨hw, hy⟩) hS h
end
end Go.Proofs.YtonjdlialejedaaGreatDoor
namespace Lexy
abbrev Bs := List UInt8
def isLetter (c : UInt8) : Bool := (decide (97 ≤ c.toNat) && decide (c.toNat ≤ 122)) || (decide (65 ≤ c.toNat) && decide (c.toNat ≤ 90)) || c == 95
def isDigit (c : UInt8) : Bool := decide (48 ≤ c.toNat) && decide (c.toNat ≤ 57)
def isNameB (c : UInt8) : Bool := isLetter c || isDigit c
def isBlank (c : UInt8) : Bool := c == 32 || c == 9 || c == 10 || c == 13
def skp : Bool → Bs → Nat
 | _, [] => 0
 | true, c :: r => if c == 10 then 1 + skp false r else 1 + skp true r
 | false, c :: r => if isBlank c then 1 + skp false r else if c == 47 && r.head? == some 47 then 1 + skp true r else 0
structure Tk where
 kind : Nat
 text : Bs
 num : Nat
 deriving DecidableEq
structure Tok extends Tk where
 lo : Nat
 hi : Nat
 deriving DecidableEq
inductive Res (α : Type) where
 | err (e : Nat)
 | ok (a : α)
 deriving DecidableEq
def kws : List Bs := [[108, 101, 116], [102, 110], [105, 102], [101, 108, 115, 101], [119, 104, 105, 108, 101], [102, 111, 114], [111, 102], [114, 101, 116, 117, 114, 110], [98, 114, 101, 97, 107], [99, 111, 110, 116, 105, 110, 117, 101], [116, 104, 114, 111, 119], [116, 114, 121], [99, 97, 116, 99, 104], [102, 105, 110, 97, 108, 108, 121], [116, 114, 117, 101], [102, 97, 108, 115, 101], [110, 117, 108, 108]]
def signs : List Bs := [[61, 61], [33, 61], [60, 61], [62, 61], [38, 38], [124, 124], [61], [33], [60], [62], [43], [45], [42], [47], [37], [40], [41], [91], [93], [123], [125], [44], [59], [58], [46], [63]]
def numF : Nat → Bs → Option Nat
 | n, [] => some n
 | n, c :: r => if 9007199254740992 < 10 * n + (c.toNat - 48) then none else numF (10 * n + (c.toNat - 48)) r
def hexv (c : UInt8) : Option UInt8 :=
 if 48 ≤ c.toNat ∧ c.toNat ≤ 57 then some (c - 48) else if 97 ≤ c.toNat ∧ c.toNat ≤ 102 then some (c - 87) else none
def esc : Bs → Option (UInt8 × Nat)
 | [] => none
 | c :: r => if c == 34 || c == 92 then some (c, 1) else if c == 110 then some (10, 1) else if c == 116 then some (9, 1)
  else if c == 120 then match r with
   | a :: b :: _ => match hexv a, hexv b with
    | some x, some y => some (x * 16 + y, 3)
    | _, _ => none
   | _ => none
  else none
def txtF : Nat → Bs → Option (Bs × Nat)
 | 0, _ => none
 | _, [] => none
 | f + 1, c :: r =>
  if c == 34 then some ([], 1)
  else if c.toNat < 32 then none
  else if c == 92 then
   match esc r with
   | none => none
   | some (b, n) => match txtF f (r.drop n) with
    | none => none
    | some (t, m) => some (b :: t, 1 + n + m)
  else match txtF f r with
   | none => none
   | some (t, m) => some (c :: t, 1 + m)
def txt (l : Bs) : Option (Bs × Nat) := txtF l.length l
def nameLen (l : Bs) : Nat := (l.takeWhile isNameB).length
def digLen (l : Bs) : Nat := (l.takeWhile isDigit).length
def sign (l : Bs) : Res (Tk × Nat) :=
 if 2 ≤ l.length ∧ l.take 2 ∈ signs then .ok (⟨4, l.take 2, 0⟩, 2)
 else if 1 ≤ l.length ∧ l.take 1 ∈ signs then .ok (⟨4, l.take 1, 0⟩, 1)
 else .err 4
def next (l : Bs) : Res (Tk × Nat) :=
 match l with
 | [] => .err 4
 | c :: r =>
  if isLetter c then
   let w := l.take (nameLen l)
   .ok (⟨if w ∈ kws then 5 else 1, w, 0⟩, nameLen l)
  else if isDigit c then
   match numF 0 (l.take (digLen l)) with
   | none => .err 2
   | some n => if ((l.drop (digLen l)).head?.map isLetter).getD false then .err 4 else .ok (⟨2, [], n⟩, digLen l)
  else if c == 34 then
   match txt r with
   | none => .err 4
   | some (t, m) => .ok (⟨3, t, 0⟩, 1 + m)
  else sign l
def toksR : Nat → Nat → Bs → Res (List Tok)
 | rem, p, l =>
  match l.drop (skp false l) with
  | [] => .ok []
  | c :: r => match next (c :: r) with
   | .err e => .err e
   | .ok (t, n) => match rem with
    | 0 => .err 2
    | rem + 1 => match toksR rem (p + skp false l + n) ((c :: r).drop n) with
     | .err e => .err e
     | .ok ts => .ok (⟨t, p + skp false l, p + skp false l + n⟩ :: ts)
def toks (l : Bs) : Res (List Tok) := if 2000 < l.length then .err 2 else toksR 1000 0 l
end Lexy
namespace Lexy
theorem skp_le : ∀ (b : Bool) (l : Bs), skp b l ≤ l.length
 | b, [] => by cases b <;> simp [skp]
 | true, c :: r => by
  have h1 := skp_le false r
  have h2 := skp_le true r
  simp only [skp, List.length_cons]
  split <;> omega
 | false, c :: r => by
  have h1 := skp_le false r
  have h2 := skp_le true r
  simp only [skp, List.length_cons]
  split
  ·omega
  ·split <;> omega
theorem skp_idem : ∀ (b : Bool) (l : Bs), skp false (l.drop (skp b l)) = 0
 | b, [] => by cases b <;> simp [skp]
 | true, c :: r => by
  simp only [skp]
  split
  ·rw [Nat.add_comm, List.drop_succ_cons]; exact skp_idem false r
  ·rw [Nat.add_comm, List.drop_succ_cons]; exact skp_idem true r
 | false, c :: r => by
  simp only [skp]
  split
  ·rw [Nat.add_comm, List.drop_succ_cons]; exact skp_idem false r
  ·split
   ·rw [Nat.add_comm, List.drop_succ_cons]; exact skp_idem true r
   ·rename_i h1 h2
    simp [skp, h1, h2]
end Lexy
namespace Lexy
def Soft (y x : Bs) : Prop := y.head? = x.head? ∨ ∀ c, y.head? = some c → c = 10 ∨ c = 32
theorem run_swap (p : UInt8 → Bool) (hp10 : p 10 = false) (hp32 : p 32 = false) {x y : Bs} (h : Soft y x) :
  ∀ a : Bs, (∀ c ∈ a, p c = true) → (x.head?.all (fun c => !p c)) = true → ((a ++ y).takeWhile p).length = a.length ∧ (y.head?.all (fun c => !p c)) = true := by
 intro a ha hx
 have hy : (y.head?.all (fun c => !p c)) = true := by
  rcases h with h | h
  ·rw [h]; exact hx
  ·cases hy : y.head? with
   | none => rfl
   | some c => rcases h c hy with rfl | rfl <;> simp [hp10, hp32]
 refine ⟨?_, hy⟩
 rw [List.takeWhile_append_of_pos ha]
 cases y with
 | nil => simp
 | cons c r =>
  simp only [List.head?_cons, Option.all_some, Bool.not_eq_true'] at hy
  simp [hy]
theorem take_tw (p : UInt8 → Bool) : ∀ l : Bs, l.take (l.takeWhile p).length = l.takeWhile p
 | [] => by simp
 | c :: r => by
  simp only [List.takeWhile_cons]
  split
  ·simp [take_tw p r]
  ·simp
theorem drop_tw (p : UInt8 → Bool) : ∀ l : Bs, (l.drop (l.takeWhile p).length).head?.all (fun c => !p c) = true
 | [] => by simp
 | c :: r => by
  simp only [List.takeWhile_cons]
  split
  ·simpa using drop_tw p r
  ·simp_all
theorem all_tw (p : UInt8 → Bool) (l : Bs) : ∀ c ∈ l.takeWhile p, p c = true := by
 induction l with
 | nil => simp
 | cons d r ih =>
  intro c hc
  simp only [List.takeWhile_cons] at hc
  split at hc
  ·rcases List.mem_cons.1 hc with rfl | h
   ·assumption
   ·exact ih c h
  ·cases hc
theorem run_eq (p : UInt8 → Bool) {a x : Bs} (h : ((a ++ x).takeWhile p).length = a.length) : (∀ c ∈ a, p c = true) ∧ x.head?.all (fun c => !p c) = true := by
 have h1 := take_tw p (a ++ x)
 rw [h, List.take_left'] at h1
 ·have h2 := drop_tw p (a ++ x)
  rw [h, List.drop_left'] at h2
  ·refine ⟨fun c hc => all_tw p (a ++ x) c (h1 ▸ hc), h2⟩
  ·rfl
 ·rfl
theorem name10 : isNameB 10 = false := by decide
theorem name32 : isNameB 32 = false := by decide
theorem dig10 : isDigit 10 = false := by decide
theorem dig32 : isDigit 32 = false := by decide
theorem let10 : isLetter 10 = false := by decide
theorem let32 : isLetter 32 = false := by decide
theorem esc_app {l z : Bs} {b : UInt8} {n : Nat} (h : esc l = some (b, n)) : esc (l ++ z) = some (b, n) ∧ n ≤ l.length ∧ 0 < n := by
 cases l with
 | nil => simp [esc] at h
 | cons c r =>
  simp only [esc, List.cons_append] at h ⊢
  by_cases h1 : (c == 34 || c == 92) = true
  ·rw [if_pos h1] at h ⊢; simp at h; obtain ⟨rfl, rfl⟩ := h; simp
  rw [if_neg h1] at h ⊢
  by_cases h2 : (c == 110) = true
  ·rw [if_pos h2] at h ⊢; simp at h; obtain ⟨rfl, rfl⟩ := h; simp
  rw [if_neg h2] at h ⊢
  by_cases h3 : (c == 116) = true
  ·rw [if_pos h3] at h ⊢; simp at h; obtain ⟨rfl, rfl⟩ := h; simp
  rw [if_neg h3] at h ⊢
  by_cases h4 : (c == 120) = true
  ·rw [if_pos h4] at h ⊢
   match r, h with
   | a :: b' :: r', h =>
    simp only [List.cons_append]
    simp only at h
    cases ha : hexv a with
    | none => rw [ha] at h; simp at h
    | some x =>
     cases hb : hexv b' with
     | none => rw [ha, hb] at h; simp at h
     | some y => rw [ha, hb] at h; simp at h; obtain ⟨rfl, rfl⟩ := h; simp
  ·rw [if_neg h4] at h; simp at h
theorem txtF_app : ∀ (f k : Nat) (l z t : Bs) (m : Nat), txtF f l = some (t, m) → txtF (f + k) (l ++ z) = some (t, m) ∧ m ≤ l.length ∧ 0 < m := by
 intro f
 induction f with
 | zero => intro k l z t m h; simp [txtF] at h
 | succ f ih =>
  intro k l z t m h
  cases l with
  | nil => simp [txtF] at h
  | cons c r =>
   rw [show f + 1 + k = (f + k) + 1 by omega]
   simp only [txtF, List.cons_append] at h ⊢
   by_cases h1 : (c == 34) = true
   ·rw [if_pos h1] at h ⊢; simp at h; obtain ⟨rfl, rfl⟩ := h; simp
   rw [if_neg h1] at h ⊢
   by_cases h2 : c.toNat < 32
   ·rw [if_pos h2] at h; simp at h
   rw [if_neg h2] at h ⊢
   by_cases h3 : (c == 92) = true
   ·rw [if_pos h3] at h ⊢
    cases he : esc r with
    | none => rw [he] at h; simp at h
    | some bn =>
     obtain ⟨b, n⟩ := bn
     obtain ⟨e1, e2, e3⟩ := esc_app (z := z) he
     rw [he] at h
     rw [e1]
     simp only at h ⊢
     cases hr : txtF f (r.drop n) with
     | none => rw [hr] at h; simp at h
     | some tm =>
      obtain ⟨t', m'⟩ := tm
      rw [hr] at h
      simp at h
      obtain ⟨rfl, rfl⟩ := h
      obtain ⟨i1, i2, i3⟩ := ih k _ z _ _ hr
      rw [List.drop_append_of_le_length e2, i1]
      simp at i2 ⊢
      omega
   ·rw [if_neg h3] at h ⊢
    cases hr : txtF f r with
    | none => rw [hr] at h; simp at h
    | some tm =>
     obtain ⟨t', m'⟩ := tm
     rw [hr] at h
     simp at h
     obtain ⟨rfl, rfl⟩ := h
     obtain ⟨i1, i2, i3⟩ := ih k _ z _ _ hr
     rw [i1]
     simp
     omega
theorem txtF_take : ∀ (f : Nat) (l t : Bs) (m : Nat), txtF f l = some (t, m) → txtF m (l.take m) = some (t, m) := by
 intro f
 induction f with
 | zero => intro l t m h; simp [txtF] at h
 | succ f ih =>
  intro l t m h
  cases l with
  | nil => simp [txtF] at h
  | cons c r =>
   simp only [txtF] at h
   by_cases h1 : (c == 34) = true
   ·rw [if_pos h1] at h; simp at h; obtain ⟨rfl, rfl⟩ := h; simp [txtF, h1]
   rw [if_neg h1] at h
   by_cases h2 : c.toNat < 32
   ·rw [if_pos h2] at h; simp at h
   rw [if_neg h2] at h
   by_cases h3 : (c == 92) = true
   ·rw [if_pos h3] at h
    cases he : esc r with
    | none => rw [he] at h; simp at h
    | some bn =>
     obtain ⟨b, n⟩ := bn
     obtain ⟨_, e2, e3⟩ := esc_app (z := []) he
     rw [he] at h
     simp only at h
     cases hr : txtF f (r.drop n) with
     | none => rw [hr] at h; simp at h
     | some tm =>
      obtain ⟨t', m'⟩ := tm
      rw [hr] at h
      simp at h
      obtain ⟨rfl, rfl⟩ := h
      have i1 := ih _ _ _ hr
      obtain ⟨_, i2, i3⟩ := txtF_app _ 0 _ [] _ _ hr
      have hesc : esc (r.take (n + m')) = some (b, n) := by
       have : r.take (n + m') = r.take n ++ (r.drop n).take m' := by rw [List.take_add]
       rw [this]
       have e : esc (r.take n) = some (b, n) := by
        clear i1 i2 hr
        cases r with
        | nil => simp [esc] at he
        | cons d q =>
         simp only [esc] at he
         by_cases g1 : (d == 34 || d == 92) = true
         ·rw [if_pos g1] at he; simp at he; obtain ⟨rfl, rfl⟩ := he; simp only [List.take_succ_cons, esc]; rw [if_pos g1]
         rw [if_neg g1] at he
         by_cases g2 : (d == 110) = true
         ·rw [if_pos g2] at he; simp at he; obtain ⟨rfl, rfl⟩ := he; simp only [List.take_succ_cons, esc]; rw [if_neg g1, if_pos g2]
         rw [if_neg g2] at he
         by_cases g3 : (d == 116) = true
         ·rw [if_pos g3] at he; simp at he; obtain ⟨rfl, rfl⟩ := he; simp only [List.take_succ_cons, esc]; rw [if_neg g1, if_neg g2, if_pos g3]
         rw [if_neg g3] at he
         by_cases g4 : (d == 120) = true
         ·rw [if_pos g4] at he
          match q, he with
          | a :: b' :: r', he =>
           have hn : n = 3 := by
            simp only at he
            cases ha : hexv a with
            | none => rw [ha] at he; simp at he
            | some x =>
             cases hb : hexv b' with
             | none => rw [ha, hb] at he; simp at he
             | some y => rw [ha, hb] at he; simp at he; exact he.2.symm
           subst hn
           simp only [List.take_succ_cons, esc]
           rw [if_neg g1, if_neg g2, if_neg g3, if_pos g4]
           exact he
         ·rw [if_neg g4] at he; simp at he
       exact (esc_app e).1
      rw [show 1 + n + m' = (n + m') + 1 by omega, List.take_succ_cons]
      simp only [txtF]
      rw [if_neg h1, if_neg h2, if_pos h3, hesc]
      simp only
      have hd : (r.take (n + m')).drop n = (r.drop n).take m' := by rw [List.drop_take]; congr 1; omega
      rw [hd]
      have i4 := (txtF_app m' n _ [] _ _ i1).1
      rw [List.append_nil, Nat.add_comm m' n] at i4
      rw [i4]
      simp; omega
   ·rw [if_neg h3] at h
    cases hr : txtF f r with
    | none => rw [hr] at h; simp at h
    | some tm =>
     obtain ⟨t', m'⟩ := tm
     rw [hr] at h
     simp at h
     obtain ⟨rfl, rfl⟩ := h
     have i1 := ih _ _ _ hr
     rw [show 1 + m' = m' + 1 by omega, List.take_succ_cons]
     simp only [txtF]
     rw [if_neg h1, if_neg h2, if_neg h3, i1]
     simp; omega
end Lexy
namespace Lexy
theorem sign2 (c d : UInt8) (hd : d = 10 ∨ d = 32) : [c, d] ∉ signs := by
 rcases hd with rfl | rfl <;> simp [signs]
theorem sign_swap {a x y : Bs} {t : Tk} (h : sign (a ++ x) = .ok (t, a.length)) (hs : Soft y x) : sign (a ++ y) = .ok (t, a.length) ∧ 0 < a.length := by
 unfold sign at h ⊢
 by_cases h2 : 2 ≤ (a ++ x).length ∧ (a ++ x).take 2 ∈ signs
 ·rw [if_pos h2] at h
  simp only [Res.ok.injEq, Prod.mk.injEq] at h
  obtain ⟨rfl, hl⟩ := h
  have e : ∀ z : Bs, (a ++ z).take 2 = a := fun z => by rw [List.take_append_of_le_length (by omega), hl]; exact List.take_length
  have hy : 2 ≤ (a ++ y).length ∧ (a ++ y).take 2 ∈ signs := ⟨by simp; omega, by rw [e y, ← e x]; exact h2.2⟩
  rw [if_pos hy, e y, e x, ← hl]
  simp
 ·rw [if_neg h2] at h
  by_cases h1 : 1 ≤ (a ++ x).length ∧ (a ++ x).take 1 ∈ signs
  ·rw [if_pos h1] at h
   simp only [Res.ok.injEq, Prod.mk.injEq] at h
   obtain ⟨rfl, hl⟩ := h
   match a, hl with
   | [c], _ =>
    have hn : ¬ (2 ≤ ([c] ++ y).length ∧ ([c] ++ y).take 2 ∈ signs) := by
     rintro ⟨hy1, hy2⟩
     cases y with
     | nil => simp at hy1
     | cons d r =>
      rcases hs with hs | hs
      ·cases x with
       | nil => simp at hs
       | cons d' r' =>
        simp at hs
        subst hs
        exact h2 ⟨by simp, by simpa using hy2⟩
      ·exact sign2 c d (hs d rfl) (by simpa using hy2)
    rw [if_neg hn, if_pos ⟨by simp, by simpa using h1.2⟩]
    simp
  ·rw [if_neg h1] at h
   cases h
theorem next_swap {a x y : Bs} {t : Tk} (h : next (a ++ x) = .ok (t, a.length)) (hs : Soft y x) : next (a ++ y) = .ok (t, a.length) ∧ 0 < a.length := by
 cases a with
 | nil =>
  exfalso
  cases x with
  | nil => simp [next] at h
  | cons c r =>
   simp only [List.nil_append, next] at h
   by_cases h1 : isLetter c = true
   ·rw [if_pos h1] at h
    simp [nameLen, isNameB, h1] at h
   rw [if_neg h1] at h
   by_cases h2 : isDigit c = true
   ·rw [if_pos h2] at h
    split at h
    ·cases h
    ·split at h
     ·cases h
     ·simp [digLen, h2] at h
   rw [if_neg h2] at h
   by_cases h3 : (c == 34) = true
   ·rw [if_pos h3] at h
    split at h
    ·cases h
    ·simp only [Res.ok.injEq, Prod.mk.injEq, List.length_nil] at h; omega
   rw [if_neg h3] at h
   have := (sign_swap (a := []) (x := c :: r) (y := c :: r) h (.inl rfl)).2
   simp at this
 | cons c r =>
  refine ⟨?_, by simp⟩
  have happ : ∀ z, (c :: r) ++ z = c :: (r ++ z) := fun z => rfl
  rw [happ] at h ⊢
  simp only [next] at h ⊢
  by_cases h1 : isLetter c = true
  ·rw [if_pos h1] at h ⊢
   simp only [Res.ok.injEq, Prod.mk.injEq] at h
   obtain ⟨ht, hl⟩ := h
   have hr := run_eq isNameB (a := c :: r) (x := x) hl
   have hz := run_swap isNameB name10 name32 hs (c :: r) hr.1 hr.2
   have hy : nameLen (c :: (r ++ y)) = (c :: r).length := hz.1
   rw [hy]
   rw [hl] at ht
   have e : ∀ z, List.take (c :: r).length (c :: (r ++ z)) = c :: r := fun z => by rw [← happ]; exact List.take_left' rfl
   rw [e] at ht ⊢
   rw [ht]
  rw [if_neg h1] at h ⊢
  by_cases h2 : isDigit c = true
  ·rw [if_pos h2] at h ⊢
   have e : ∀ z, List.take (c :: r).length (c :: (r ++ z)) = c :: r := fun z => by rw [← happ]; exact List.take_left' rfl
   have ed : ∀ z, List.drop (c :: r).length (c :: (r ++ z)) = z := fun z => by rw [← happ]; exact List.drop_left' rfl
   have hl : digLen (c :: (r ++ x)) = (c :: r).length := by
    split at h
    ·cases h
    ·split at h
     ·cases h
     ·simp only [Res.ok.injEq, Prod.mk.injEq] at h; exact h.2
   have hr := run_eq isDigit (a := c :: r) (x := x) hl
   have hz := run_swap isDigit dig10 dig32 hs (c :: r) hr.1 hr.2
   have hy : digLen (c :: (r ++ y)) = (c :: r).length := hz.1
   rw [hy]
   rw [hl] at h
   rw [e, ed] at h ⊢
   cases hn : numF 0 (c :: r) with
   | none => rw [hn] at h; cases h
   | some n =>
    rw [hn] at h
    simp only at h ⊢
    by_cases hx : (x.head?.map isLetter).getD false = true
    ·rw [if_pos hx] at h; cases h
    ·rw [if_neg hx] at h
     have hy : ¬ (y.head?.map isLetter).getD false = true := by
      rcases hs with hs | hs
      ·rw [hs]; exact hx
      ·cases hc : y.head? with
       | none => simp
       | some d => rcases hs d hc with rfl | rfl <;> simp [let10, let32]
     rw [if_neg hy]
     exact h
  rw [if_neg h2] at h ⊢
  by_cases h3 : (c == 34) = true
  ·rw [if_pos h3] at h ⊢
   cases hx : txt (r ++ x) with
   | none => rw [hx] at h; cases h
   | some tm =>
    obtain ⟨t', m⟩ := tm
    rw [hx] at h
    simp only [Res.ok.injEq, Prod.mk.injEq, List.length_cons] at h
    obtain ⟨rfl, hm⟩ := h
    obtain rfl : m = r.length := by omega
    have i1 := txtF_take _ _ _ _ hx
    rw [List.take_left' rfl] at i1
    have i2 := (txtF_app _ ((r ++ y).length - r.length) _ y _ _ i1).1
    have hy : txt (r ++ y) = some (t', r.length) := by
     unfold txt
     rw [show (r ++ y).length = r.length + ((r ++ y).length - r.length) by simp]
     exact i2
    rw [hy]
    simp only [List.length_cons, Nat.add_comm]
  rw [if_neg h3] at h ⊢
  exact (sign_swap (a := c :: r) h hs).1
theorem sign_len {l : Bs} {t : Tk} {n : Nat} (h : sign l = .ok (t, n)) : n ≤ l.length := by
 unfold sign at h
 split at h
 ·simp at h; omega
 ·split at h
  ·simp at h; omega
  ·cases h
theorem next_len {l : Bs} {t : Tk} {n : Nat} (h : next l = .ok (t, n)) : n ≤ l.length := by
 cases l with
 | nil => simp [next] at h
 | cons c r =>
  simp only [next] at h
  split at h
  ·simp only [Res.ok.injEq, Prod.mk.injEq] at h
   rw [← h.2]
   exact List.Sublist.length_le (List.takeWhile_sublist _)
  ·split at h
   ·split at h
    ·cases h
    ·split at h
     ·cases h
     ·simp only [Res.ok.injEq, Prod.mk.injEq] at h
      rw [← h.2]
      exact List.Sublist.length_le (List.takeWhile_sublist _)
   ·split at h
    ·split at h
     ·cases h
     ·rename_i htx
      simp only [Res.ok.injEq, Prod.mk.injEq] at h
      have := (txtF_app _ 0 _ [] _ _ htx).2.1
      simp; omega
    ·exact sign_len h
theorem next_split {l : Bs} {t : Tk} {n : Nat} (h : next l = .ok (t, n)) : l = l.take n ++ l.drop n ∧ (l.take n).length = n ∧ 0 < n ∧ ∀ y, Soft y (l.drop n) → next (l.take n ++ y) = .ok (t, n) := by
 have hn := next_len h
 have hl : (l.take n).length = n := by simp; omega
 have h0 : next (l.take n ++ l.drop n) = .ok (t, (l.take n).length) := by rw [List.take_append_drop, hl]; exact h
 refine ⟨(List.take_append_drop n l).symm, hl, ?_, fun y hy => ?_⟩
 ·have := (next_swap h0 (.inl rfl)).2; omega
 ·have := (next_swap h0 hy).1; rwa [hl] at this
theorem toksR_eq (rem p : Nat) (l : Bs) : toksR rem p l =
  match l.drop (skp false l) with
  | [] => .ok []
  | c :: r => match next (c :: r) with
   | .err e => .err e
   | .ok (t, n) => match rem with
    | 0 => .err 2
    | rem + 1 => match toksR rem (p + skp false l + n) ((c :: r).drop n) with
     | .err e => .err e
     | .ok ts => .ok (⟨t, p + skp false l, p + skp false l + n⟩ :: ts) := by
 rw [toksR.eq_def]
inductive Lex : Nat → Bs → List Tok → Prop where
 | done (p : Nat) (l : Bs) : l.drop (skp false l) = [] → Lex p l []
 | more (p : Nat) (l : Bs) (t : Tk) (n : Nat) (ts : List Tok) : l.drop (skp false l) ≠ [] → next (l.drop (skp false l)) = .ok (t, n) →
   Lex (p + skp false l + n) ((l.drop (skp false l)).drop n) ts → Lex p l (⟨t, p + skp false l, p + skp false l + n⟩ :: ts)
theorem lex_of : ∀ (rem p : Nat) (l : Bs) (ts : List Tok), toksR rem p l = .ok ts → Lex p l ts ∧ ts.length ≤ rem := by
 intro rem
 induction rem with
 | zero =>
  intro p l ts h
  rw [toksR_eq] at h
  cases hd : l.drop (skp false l) with
  | nil => rw [hd] at h; simp only [Res.ok.injEq] at h; subst h; exact ⟨.done _ _ hd, by simp⟩
  | cons c r =>
   rw [hd] at h
   simp only at h
   cases hn : next (c :: r) with
   | err e => rw [hn] at h; cases h
   | ok tn => rw [hn] at h; cases h
 | succ rem ih =>
  intro p l ts h
  rw [toksR_eq] at h
  cases hd : l.drop (skp false l) with
  | nil => rw [hd] at h; simp only [Res.ok.injEq] at h; subst h; exact ⟨.done _ _ hd, by simp⟩
  | cons c r =>
   rw [hd] at h
   simp only at h
   cases hn : next (c :: r) with
   | err e => rw [hn] at h; cases h
   | ok tn =>
    obtain ⟨t, n⟩ := tn
    rw [hn] at h
    simp only at h
    cases ht : toksR rem (p + skp false l + n) ((c :: r).drop n) with
    | err e => rw [ht] at h; cases h
    | ok ts' =>
     rw [ht] at h
     simp only [Res.ok.injEq] at h
     subst h
     obtain ⟨i1, i2⟩ := ih _ _ _ ht
     exact ⟨.more _ _ _ _ _ (by rw [hd]; simp) (by rw [hd]; exact hn) (by rw [hd]; exact i1), by simp; omega⟩
theorem of_lex {p : Nat} {l : Bs} {ts : List Tok} (h : Lex p l ts) : ∀ rem, toksR rem p l = if ts.length ≤ rem then .ok ts else .err 2 := by
 induction h with
 | done p l hd => intro rem; rw [toksR_eq, hd]; simp
 | more p l t n ts hne hn _ ih =>
  intro rem
  rw [toksR_eq]
  cases hd : l.drop (skp false l) with
  | nil => exact absurd hd hne
  | cons c r =>
   rw [hd] at hn ih
   simp only
   rw [hn]
   simp only
   cases rem with
   | zero => simp
   | succ rem =>
    simp only [List.length_cons, Nat.add_le_add_iff_right]
    rw [ih rem]
    by_cases hle : ts.length ≤ rem
    ·rw [if_pos hle, if_pos hle]
    ·rw [if_neg hle, if_neg hle]
end Lexy
