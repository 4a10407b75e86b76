/-
  Texts that the law leans on: Unt. Conditions: as each says.
-/
import Derived.OrdersHeld
import Derived.Deep.RegionHeld
import Derived.Lib.Hide
set_option linter.unusedSimpArgs false
set_option linter.unusedVariables false
namespace Go
theorem sq {α : Type} : (∀ (xs : List α) (i : Nat) (h : i < xs.toArray.size), xs.toArray[i] = xs[i]'(by simpa using h)) ∧ (∀ (a : α) (ar : List α) (i : Nat) (h : i + 1 < (a :: ar).length), (a :: ar)[i + 1] = ar[i]'(by simpa using h)) ∧ (∀ (a : α) (ar : List α) (h : 0 < (a :: ar).length), (a :: ar)[0] = a) ∧ (∀ (xs : List α) (i : Nat) (v : α), xs.toArray.setIfInBounds i v = (xs.set i v).toArray) ∧ (∀ (a : α) (ar : List α) (v : α), (a :: ar).set 0 v = v :: ar) ∧ (∀ (a : α) (ar : List α) (i : Nat) (v : α), (a :: ar).set (i + 1) v = a :: ar.set i v) := ⟨fun _ _ _ => List.getElem_toArray .., fun _ _ _ _ => rfl, fun _ _ _ => rfl, fun _ _ _ => List.setIfInBounds_toArray .., fun _ _ _ => rfl, fun _ _ _ _ => rfl⟩
theorem ln {α : Type} : (∀ (a b : List α), (a ++ b).length = a.length + b.length) ∧ (∀ (a : α) (l : List α), (a :: l).length = l.length + 1) ∧ ([] : List α).length = 0 := ⟨fun _ _ => List.length_append, fun _ _ => rfl, rfl⟩
theorem bn {α : Type} [BEq α] [LawfulBEq α] {a b : α} (h : ¬ a = b) : (a == b) = false := beq_eq_false_iff_ne.2 h
end Go
namespace Go.Proofs.YtonjdlialejedaaGreatDoor
open Go.Lib (hid)
section
variable {P : Program} {ops : Array Oper} {Q : Exit → Act → World → Prop} {md : Region.Mode} {m : Nat} {S : World → Prop}
def wpAnyU (P : Program) (md : Region.Mode) (ops : Array Oper) (Q : Exit → Act → World → Prop) (m : Nat) (S : World → Prop) : Nat → Array Bool → Act → World → Prop
 | 0, listed, a, w => Region.ready md ops listed = [] ∧ Q .normal a w
 | fuel + 1, listed, a, w =>
  (Region.ready md ops listed = [] → Q .normal a w) ∧
  ∀ i ∈ Region.ready md ops listed, wpOp P ops Q i (fun a' w' => ((listed.setIfInBounds i true).getD m false = true ∨ S w') ∧ wpAnyU P md ops Q m S fuel (listed.setIfInBounds i true) a' w') a w
theorem wpAny_of_U : ∀ (fuel : Nat) (listed : Array Bool) (a : Act) (w : World), wpAnyU P md ops Q m S fuel listed a w → wpAny P md ops Q fuel listed a w
 | 0, _, _, _, h => h
 | fuel + 1, _, _, _, h => ⟨h.1, fun i hi => wpOp_mono (fun a' w' h' => wpAny_of_U fuel _ a' w' h'.2) (h.2 i hi)⟩
def waitsFor (md : Region.Mode) (ops : Array Oper) (m i : Nat) : Bool := match ops[m]? with
 | some o => o.after.any fun e => Region.binds md e && e.on == i
 | none => false
theorem notReady {listed : Array Bool} {i : Nat} (hm : waitsFor md ops m i = true) (hi : listed.getD i true = false) : m ∉ Region.ready md ops listed := by
 intro h
 obtain ⟨_, o, ho, hall⟩ := mem_ready.1 h
 unfold waitsFor at hm
 rw [ho] at hm
 simp only [Array.any_eq_true', Bool.and_eq_true, beq_iff_eq, List.any_eq_true] at hm
 obtain ⟨e, he, hb, hei⟩ := hm
 have h1 := hall e he hb
 rw [hei] at h1
 rcases Nat.lt_or_ge i listed.size with h' | h'
 ·simp [h'] at hi h1; rw [hi] at h1; cases h1
 ·simp [Array.getElem?_eq_none h'] at h1
theorem getD_ne {l : Array Bool} {j : Nat} (h : j ≠ m) : (l.setIfInBounds j true).getD m false = l.getD m false := by
 simp only [Array.getD_eq_getD_getElem?, Array.getElem?_setIfInBounds_ne h]
theorem wpAnyU_first {i : Nat} {oi : Oper} {v : Value} (hi : ops[i]? = some oi) (hsel : ∀ (j : Nat) (o : Oper) cs b, ops[j]? = some o → o.op ≠ .select cs b)
  (hQ : ∀ c a w, Q (.panic c) (a.put oi.dst v) w → Q (.panic c) a w) (hm : waitsFor md ops m i = true) :
  ∀ (fuel : Nat) (listed : Array Bool) (a : Act) (w : World), listed.getD m false = false →
   (∀ j oj, ops[j]? = some oj → j ≠ i → listed.getD j true = false → (∀ e ∈ oj.after, Region.binds md e = true → e.on ≠ i) → oi.apart ops oj = true) →
   i ∈ Region.ready md ops listed → YieldsIf P ops S oi v a → S w →
   wpAnyU P md ops Q m S fuel (listed.setIfInBounds i true) (a.put oi.dst v) w → wpAnyU P md ops Q m S (fuel + 1) listed a w := by
 intro fuel
 induction fuel with
 | zero =>
  intro listed a w _ _ hr hy hS H
  refine ⟨fun h => (by rw [h] at hr; cases hr), fun j hj => ?_⟩
  by_cases hji : j = i
  ·subst hji; exact hy.wpOp hi hS ⟨.inr hS, H⟩
  ·have := ready_mono hj hji
   rw [H.1] at this
   cases this
 | succ fuel ih =>
  intro listed a w hlm hfree hr hy hS H
  refine ⟨fun h => (by rw [h] at hr; cases hr), fun j hj => ?_⟩
  by_cases hji : j = i
  ·subst hji; exact hy.wpOp hi hS ⟨.inr hS, H⟩
  ·have hjm : j ≠ m := fun e => notReady hm (mem_ready.1 hr).1 (e ▸ hj)
   have him : i ≠ m := fun e => by
    have h := hm
    rw [← e] at h
    exact notReady h (mem_ready.1 hr).1 hr
   have h1 := H.2 j (ready_mono hj hji)
   obtain ⟨hjun, oj, hoj, hall⟩ := mem_ready.1 hj
   have hnot : ∀ e ∈ oj.after, Region.binds md e = true → e.on ≠ i := fun e he hb heq => by
    have h1 := hall e he hb
    have h0 := (mem_ready.1 hr).1
    rw [heq] at h1
    rcases Nat.lt_or_ge i listed.size with h' | h'
    ·simp [h'] at h0 h1; rw [h0] at h1; cases h1
    ·simp [Array.getElem?_eq_none h'] at h1
   have h2 := wpOp_putIf hoj (hfree j oj hoj hji hjun hnot) (fun cs b => hsel i oi cs b hi) (fun cs b => hsel j oj cs b hoj) hQ hy h1
   have hfree' : ∀ k ok, ops[k]? = some ok → k ≠ i → (listed.setIfInBounds j true).getD k true = false →
     (∀ e ∈ ok.after, Region.binds md e = true → e.on ≠ i) → oi.apart ops ok = true := fun k ok hk hki hun hno => by
    refine hfree k ok hk hki ?_ hno
    by_cases hjk : j = k
    ·subst hjk; exact hjun
    ·rw [getD_set_ne true hjk] at hun; exact hun
   have hlm' : (listed.setIfInBounds j true).getD m false = false := by rw [getD_ne hjm]; exact hlm
   have hlm2 : ((listed.setIfInBounds i true).setIfInBounds j true).getD m false = false := by rw [getD_ne hjm, getD_ne him]; exact hlm
   refine wpOp_mono (fun a' w' h3 => ?_) h2
   have hS' : S w' := h3.2.1.resolve_left (by rw [hlm2]; simp)
   refine ⟨.inr hS', ih (listed.setIfInBounds j true) a' w' hlm' hfree' (ready_mono hr (Ne.symm hji)) h3.1 hS' ?_⟩
   rw [Array.setIfInBounds_comm _ _ hji]
   exact h3.2.2
theorem wpAnyU_takeY {i : Nat} {oi : Oper} {v : Value} (him : i ≠ m) (hi : ops[i]? = some oi) (hse : Region.noSelect ops = true)
  (hQ : ∀ c a w, Q (.panic c) (a.put oi.dst v) w → Q (.panic c) a w) :
  ∀ {fuel : Nat} {listed : Array Bool} {a : Act} {w : World},
   Region.free md ops listed i = true →
   (Region.ready md ops listed).contains i = true → YieldsIf P ops (fun _ => True) oi v a → (listed.getD m false = true ∨ S w) →
   wpAnyU P md ops Q m S fuel (listed.setIfInBounds i true) (a.put oi.dst v) w → wpAnyU P md ops Q m S (fuel + 1) listed a w := by
 have hsel := Region.noSelect_spec hse
 suffices G : ∀ (fuel : Nat) (listed : Array Bool) (a : Act) (w : World),
   (∀ j oj, ops[j]? = some oj → j ≠ i → listed.getD j true = false → (∀ e ∈ oj.after, Region.binds md e = true → e.on ≠ i) → oi.apart ops oj = true) →
   i ∈ Region.ready md ops listed → YieldsIf P ops (fun _ => True) oi v a → (listed.getD m false = true ∨ S w) →
   wpAnyU P md ops Q m S fuel (listed.setIfInBounds i true) (a.put oi.dst v) w → wpAnyU P md ops Q m S (fuel + 1) listed a w from
  fun {fuel listed a w} hf hr => G fuel listed a w (Region.free_spec hi hf) (by simpa using hr)
 intro fuel
 induction fuel with
 | zero =>
  intro listed a w _ hr hy hS H
  refine ⟨fun h => (by rw [h] at hr; cases hr), fun j hj => ?_⟩
  by_cases hji : j = i
  ·subst hji; exact hy.wpOp hi trivial ⟨by rw [getD_ne him]; exact hS, H⟩
  ·have := ready_mono hj hji
   rw [H.1] at this
   cases this
 | succ fuel ih =>
  intro listed a w hfree hr hy hS H
  refine ⟨fun h => (by rw [h] at hr; cases hr), fun j hj => ?_⟩
  by_cases hji : j = i
  ·subst hji; exact hy.wpOp hi trivial ⟨by rw [getD_ne him]; exact hS, H⟩
  ·have h1 := H.2 j (ready_mono hj hji)
   obtain ⟨hjun, oj, hoj, hall⟩ := mem_ready.1 hj
   have hnot : ∀ e ∈ oj.after, Region.binds md e = true → e.on ≠ i := fun e he hb heq => by
    have h1 := hall e he hb
    have h0 := (mem_ready.1 hr).1
    rw [heq] at h1
    rcases Nat.lt_or_ge i listed.size with h' | h'
    ·simp [h'] at h0 h1; rw [h0] at h1; cases h1
    ·simp [Array.getElem?_eq_none h'] at h1
   have h2 := wpOp_putIf hoj (hfree j oj hoj hji hjun hnot) (fun cs b => hsel i oi cs b hi) (fun cs b => hsel j oj cs b hoj) hQ hy h1
   have hfree' : ∀ k ok, ops[k]? = some ok → k ≠ i → (listed.setIfInBounds j true).getD k true = false →
     (∀ e ∈ ok.after, Region.binds md e = true → e.on ≠ i) → oi.apart ops ok = true := fun k ok hk hki hun hno => by
    refine hfree k ok hk hki ?_ hno
    by_cases hjk : j = k
    ·subst hjk; exact hjun
    ·rw [getD_set_ne true hjk] at hun; exact hun
   refine wpOp_mono (fun a' w' h3 => ?_) h2
   have hS' : (listed.setIfInBounds j true).getD m false = true ∨ S w' := by
    have h4 := h3.2.1
    rw [Array.setIfInBounds_comm _ _ (Ne.symm hji), getD_ne him] at h4
    exact h4
   refine ⟨hS', ih (listed.setIfInBounds j true) a' w' hfree' (ready_mono hr (Ne.symm hji)) h3.1 hS' ?_⟩
   rw [Array.setIfInBounds_comm _ _ hji]
   exact h3.2.2
theorem wpAnyU_take {i : Nat} {oi : Oper} {v : Value} {fuel : Nat} {listed : Array Bool} {a : Act} {w : World} (hi : ops[i]? = some oi) (hm : waitsFor md ops m i = true) (hl : listed.getD m false = false)
  (hs : Region.noSelect ops = true) (hf : Region.free md ops listed i = true) (hr : (Region.ready md ops listed).contains i = true)
  (hQ : ∀ c a w, Q (.panic c) (a.put oi.dst v) w → Q (.panic c) a w) (hy : YieldsIf P ops S oi v a) (hS : S w)
  (h : wpAnyU P md ops Q m S fuel (listed.setIfInBounds i true) (a.put oi.dst v) w) : wpAnyU P md ops Q m S (fuel + 1) listed a w :=
 wpAnyU_first hi (Region.noSelect_spec hs) hQ hm fuel listed a w hl (Region.free_spec hi hf) (by simpa using hr) hy hS h
theorem wpAnyU_done {listed : Array Bool} {a : Act} {w : World} (hr : Region.ready md ops listed = []) (h : Q .normal a w) :
  ∀ fuel, wpAnyU P md ops Q m S fuel listed a w
 | 0 => ⟨hr, h⟩
 | _ + 1 => ⟨fun _ => h, by rw [hr]; simp⟩
def AllReadyU (P : Program) (md : Region.Mode) (ops : Array Oper) (Q : Exit → Act → World → Prop) (m : Nat) (S : World → Prop) (fuel : Nat) (listed : Array Bool) (a : Act) (w : World) (rs : List Nat) : Prop :=
 ∀ i ∈ rs, wpOp P ops Q i (fun a' w' => ((listed.setIfInBounds i true).getD m false = true ∨ S w') ∧ wpAnyU P md ops Q m S fuel (listed.setIfInBounds i true) a' w') a w
theorem AllReadyU.nil {fuel : Nat} {listed : Array Bool} {a : Act} {w : World} : AllReadyU P md ops Q m S fuel listed a w [] := fun _ h => by cases h
theorem AllReadyU.cons {fuel : Nat} {listed : Array Bool} {a : Act} {w : World} {i : Nat} {o : Oper} {rs : List Nat} (ho : ops[i]? = some o)
  (h : ∀ K' : Act → World → Prop, Shut (∀ a w, ((listed.setIfInBounds i true).getD m false = true ∨ S w) → (((listed.setIfInBounds i true).getD m false = true ∨ S w) → wpAnyU P md ops Q m S fuel (listed.setIfInBounds i true) a w) → K' a w) → if Region.wanted o (yielded ops a.tmps) = true then Oper.wp P o a w K' Q else K' (a.put o.dst undef) w)
  (hs : AllReadyU P md ops Q m S fuel listed a w rs) : AllReadyU P md ops Q m S fuel listed a w (i :: rs) := fun j hj => by
 rcases List.mem_cons.1 hj with rfl | hj
 ·exact wpOp_step ho (fun K' hK => h K' (fun a w hS hW => hK a w ⟨hS, hW hS⟩))
 ·exact hs j hj
theorem wpAnyU_ready {rs : List Nat} {fuel : Nat} {listed : Array Bool} {a : Act} {w : World} (hr : Region.ready md ops listed = rs) (hne : rs ≠ [])
  (h : AllReadyU P md ops Q m S fuel listed a w rs) : wpAnyU P md ops Q m S (fuel + 1) listed a w :=
 ⟨fun h0 => absurd (hr ▸ h0) hne, hr ▸ h⟩
theorem wp_region_until {id : Nat} {a : Act} {w : World} (m : Nat) (S : World → Prop) (hm : P.follows .mixedOrders = true) (hS : S w.drew)
  (h : S w.drew → wpAnyU P .any ops Q m S ops.size (Array.replicate ops.size false) a w.drew) : (Code.region id ops true).wp P Q a w :=
 wp_region_any hm (wpAny_of_U _ _ _ _ (h hS))
end
end Go.Proofs.YtonjdlialejedaaGreatDoor
namespace Go.Proofs.YtonjdlialejedaaGreatDoor
open Go.Lib (hid)
section
variable {P : Program} {ops : Array Oper} {Q : Exit → Act → World → Prop} {md : Region.Mode} {m : Nat} {S : World → Prop} {fuel : Nat} {listed : Array Bool} {a : Act} {w : World}
theorem rdU (i : Nat) {o : Oper} (ho : ops[i]? = some o)
    (h : ∀ K' : Act → World → Prop, Shut (∀ a w, ((listed.setIfInBounds i true).getD m false = true ∨ S w) → (((listed.setIfInBounds i true).getD m false = true ∨ S w) → wpAnyU P md ops Q m S fuel (listed.setIfInBounds i true) a w) → K' a w) → if Region.wanted o (yielded ops a.tmps) = true then Oper.wp P o a w K' Q else K' (a.put o.dst undef) w)
    (hr : Region.ready md ops listed = [i] := by kernel_rfl) : wpAnyU P md ops Q m S (fuel + 1) listed a w := wpAnyU_ready hr (by simp) (AllReadyU.cons ho h AllReadyU.nil)
theorem rdH (i : Nat) {o : Oper} (ho : ops[i]? = some o)
    (h : ∀ K' : Act → World → Prop, Shut (∀ a w, S w → (S w → wpAnyH P md ops Q S fuel (listed.setIfInBounds i true) a w) → K' a w) → if Region.wanted o (yielded ops a.tmps) = true then Oper.wp P o a w K' Q else K' (a.put o.dst undef) w)
    (hr : Region.ready md ops listed = [i] := by kernel_rfl) : wpAnyH P md ops Q S (fuel + 1) listed a w := wpAnyH_ready hr (by simp) (AllReadyH.cons ho h AllReadyH.nil)
theorem tU {i : Nat} {v : Value} {oi : Oper} (hi : ops[i]? = some oi) (hy : ∀ w, True → (execOp a.eval oi).run P w = .ok (.value v) w) (hS : listed.getD m false = true ∨ S w) (h : wpAnyU P md ops Q m S fuel (listed.setIfInBounds i true) (a.put oi.dst v) w)
    (hw : Region.wanted oi (yielded ops a.tmps) = true := by kernel_rfl) (him : i ≠ m := by decide) (hse : Region.noSelect ops = true := by kernel_rfl) (hQ : ∀ c a w, Q (.panic c) (a.put oi.dst v) w → Q (.panic c) a w := by exact fun _ _ _ h => h) (hf : Region.free md ops listed i = true := by kernel_rfl) (hr : (Region.ready md ops listed).contains i = true := by kernel_rfl) : wpAnyU P md ops Q m S (fuel + 1) listed a w :=
  wpAnyU_takeY him hi hse hQ hf hr (Or.inl ⟨hw, hy⟩) hS h
theorem tV {i : Nat} {v : Value} {oi : Oper} (hi : ops[i]? = some oi) (hy : ∀ w, S w → (execOp a.eval oi).run P w = .ok (.value v) w) (hS : S w) (h : wpAnyU P md ops Q m S fuel (listed.setIfInBounds i true) (a.put oi.dst v) w)
    (hw : Region.wanted oi (yielded ops a.tmps) = true := by kernel_rfl) (hm : waitsFor md ops m i = true := by kernel_rfl) (hl : listed.getD m false = false := by kernel_rfl) (hse : Region.noSelect ops = true := by kernel_rfl) (hQ : ∀ c a w, Q (.panic c) (a.put oi.dst v) w → Q (.panic c) a w := by exact fun _ _ _ h => h) (hf : Region.free md ops listed i = true := by kernel_rfl) (hr : (Region.ready md ops listed).contains i = true := by kernel_rfl) : wpAnyU P md ops Q m S (fuel + 1) listed a w :=
  wpAnyU_take hi hm hl hse hf hr hQ (Or.inl ⟨hw, hy⟩) hS h
theorem tH {i : Nat} {v : Value} {oi : Oper} (hi : ops[i]? = some oi) (hy : ∀ w, S w → (execOp a.eval oi).run P w = .ok (.value v) w) (hS : S w) (h : wpAnyH P md ops Q S fuel (listed.setIfInBounds i true) (a.put oi.dst v) w)
    (hw : Region.wanted oi (yielded ops a.tmps) = true := by kernel_rfl) (hse : Region.noSelect ops = true := by kernel_rfl) (hf : Region.free md ops listed i = true := by kernel_rfl) (hr : (Region.ready md ops listed).contains i = true := by kernel_rfl) (hQ : ∀ c a w, Q (.panic c) (a.put oi.dst v) w → Q (.panic c) a w := by exact fun _ _ _ h => h) : wpAnyH P md ops Q S (fuel + 1) listed a w :=
  wpAnyH_take hi hse hf hr hQ (Or.inl ⟨hw, hy⟩) hS h
end
end Go.Proofs.YtonjdlialejedaaGreatDoor
