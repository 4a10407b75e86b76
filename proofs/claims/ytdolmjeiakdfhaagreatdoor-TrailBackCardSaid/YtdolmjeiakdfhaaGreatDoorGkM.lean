/-
  Seen numbers; structs in the middle of a row. Conditions: none.
-/
import Derived.Maps.OwnOps
import Derived.Maps.Views
import Derived.Test.YtdolmjeiakdfhaaGreatDoorGen
namespace Seeny
set_option linter.unusedSimpArgs false
set_option linter.unusedVariables false
open Go Go.Maps

/-- what the map of the seen numbers reads as. -/
def seen (l : List Int) : DataW Unit := setOf (.lit (.int .i64 1)) (l.map (Lit.int .i64))
theorem seen_keys (l : List Int) : ∀ x ∈ l.map (Lit.int .i64), WideAt.IsKeyLit x := by
  intro x hx
  obtain ⟨n, _, rfl⟩ := List.mem_map.1 hx
  trivial
theorem seen_map (l : List Int) : IsMap (seen l) := (tidy_setOf _ _ (seen_keys l)).isMap
theorem seen_snoc (l : List Int) (n : Int) : seen (l ++ [n]) = (seen l).put (.int .i64 n) (.lit (.int .i64 1)) := by
  unfold seen
  rw [List.map_append, List.map_cons, List.map_nil, setOf_snoc]
theorem atKey_seen (n : Int) (z : DataW Unit) : ∀ l : List Int, (seen l.reverse).atKey (.int .i64 n) z = if l.contains n then .lit (.int .i64 1) else z
  | [] => rfl
  | m :: l => by
    rw [List.reverse_cons, seen_snoc]
    by_cases h : n = m
    · subst h
      rw [atKey_put_same (k := .int .i64 n) (seen_map l.reverse) trivial]
      simp
    · rw [atKey_put_other (by intro e; injection e with _ e; exact h e), atKey_seen n z l]
      have : (m :: l).contains n = l.contains n := by simp [h]
      rw [this]
theorem seen_num {l : List Int} {n c : Int} (h : (seen l.reverse).atKey (.int .i64 n) (.lit (.int .i64 0)) = .lit (.int .i64 c)) : (c == 1) = l.contains n := by
  rw [atKey_seen] at h
  by_cases hc : l.contains n = true
  · rw [if_pos hc] at h; injection h with h; injection h with _ h; rw [hc, ← h]; rfl
  · rw [if_neg hc] at h; injection h with h; injection h with _ h
    have : l.contains n = false := by simpa using hc
    rw [this, ← h]; rfl
end Seeny
namespace Go.Proofs.YtdolmjeiakdfhaaGreatDoor
open Go.RowKit Go.Maps
theorem intKey : Keyed Tryz.prog 3 := int_keyed Tryz.underlying3
theorem zero_intv (w : World) : (zeroValue 3).run Tryz.prog w = .ok (.int .i64 0) w := by kernel_rfl
end Go.Proofs.YtdolmjeiakdfhaaGreatDoor

namespace Go.Proofs.YtdolmjeiakdfhaaGreatDoor
set_option linter.unusedSimpArgs false
set_option linter.unusedVariables false
open Go.RowKit

theorem box_cells {w : World} {b : Nat} {t : TypeId} : ∀ (vs : List Value) (o : Nat) (L : List Value) (w : World), Box w b t L.toArray → o + vs.length ≤ L.length →
    Box (w.setCells b o vs) b t (L.take o ++ (vs ++ L.drop (o + vs.length))).toArray
  | [], o, L, w, h, _ => by simpa [World.setCells] using h
  | v :: vs, o, L, w, h, hl => by
    simp only [List.length_cons] at hl
    have h1 := h.set o v
    rw [List.setIfInBounds_toArray] at h1
    have h2 := box_cells (w := w) vs (o + 1) (L.set o v) _ h1 (by simp; omega)
    have e1 : (L.set o v).take (o + 1) = L.take o ++ [v] := by
      rw [List.take_add_one, List.getElem?_set_self (by omega), List.take_set_of_le (Nat.le_refl _)]
      rfl
    have e2 : (L.set o v).drop (o + 1 + vs.length) = L.drop (o + (vs.length + 1)) := by
      rw [List.drop_set_of_lt (by omega), show o + 1 + vs.length = o + (vs.length + 1) by omega]
    rw [e1, e2] at h2
    simpa [World.setCells] using h2
theorem upd_cells {b : Nat} : ∀ (vs : List Value) (o : Nat) (w : World), Upd w (w.setCells b o vs) b
  | [], _, w => Upd.refl w b
  | v :: vs, o, w => by
    have h := upd_cells (b := b) vs (o + 1) (w.setCell ⟨b, o, none⟩ v)
    exact ((Upd.refl w b).set (p := ⟨b, o, none⟩) (.inl rfl) v).trans h
theorem Box.there {w : World} {b o n : Nat} {t : TypeId} {cur : List Value} (h : Box w b t cur.toArray) (hn : o + n ≤ cur.length) : w.there b o n := fun j hj => by
  rw [h.cell, h.frozen, List.getElem?_toArray, List.getElem?_eq_getElem (by omega)]
  exact ⟨rfl, rfl⟩
theorem size_cells {b : Nat} : ∀ (vs : List Value) (o : Nat) (w : World), (w.setCells b o vs).heap.size = w.heap.size
  | [], _, _ => rfl
  | v :: vs, o, w => (size_cells vs (o + 1) (w.setCell ⟨b, o, none⟩ v)).trans (by simp [World.setCell])
/-- a struct is stored whole into the middle of a row that is known whole. -/
theorem wpList_store_midbox {P : Program} {ops : Array Oper} {rest : List Oper} {op : Oper} {a : Act} {w : World} {Q : Exit → Act → World → Prop} (hgd : op.guard = none) (ty : TypeId) (x y : Operand) (ho : op.op = .store ty x y)
    (b o : Nat) (cells : Array Value) (hx : a.eval x = .pointer (some ⟨b, o, none⟩)) (hy : a.eval y = .agg cells) (cur : List Value) (te : TypeId) (hg : Box w b te cur.toArray) (hfit : o + cells.size ≤ cur.length)
    (hi : (P.info? ty).map (·.size) = some cells.size) (h1 : cells.all (·.oneCell') = true)
    (h : ∀ w', Hid (Box w' b te (splice cur o cells.toList).toArray) → Upd w w' b → w'.heap.size = w.heap.size → wpList P ops Q rest (a.put op.dst undef) w') : wpList P ops Q (op :: rest) a w := by
  refine wpList_store_mid hgd ty x y ho b o cells hx hy (Box.there hg hfit) hi h1 (h _ ?_ (upd_cells _ _ _) (size_cells _ _ _))
  have := box_cells (w := w) (b := b) (t := te) cells.toList o cur w hg (by simpa using hfit)
  show Box _ _ _ _
  unfold splice
  simpa [List.append_assoc] using this
theorem splice_drop {α : Type} (L : List α) (o : Nat) (cs : List α) (k : Nat) (hk : o + cs.length ≤ k) (h : o ≤ L.length) : (splice L o cs).drop k = L.drop k := by
  have h1 : (L.take o).length = o := by simp; omega
  unfold splice
  rw [List.drop_append, h1, List.drop_append, List.drop_of_length_le (by omega), List.drop_of_length_le (by omega), List.drop_drop]
  simp only [List.nil_append]
  congr 1
  omega
end Go.Proofs.YtdolmjeiakdfhaaGreatDoor
