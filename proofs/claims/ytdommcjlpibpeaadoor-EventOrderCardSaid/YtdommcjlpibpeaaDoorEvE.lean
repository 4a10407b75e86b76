/-
  Rows of truths; steps of the check of the kids, plain. Conditions: as each says.
-/
import Derived.Test.YtdommcjlpibpeaaDoorEvF
namespace Go.Proofs.YtdommcjlpibpeaaDoor
set_option linter.unusedSimpArgs false
set_option linter.unusedVariables false
open Go.RowKit

/-- the cells of a row of truths. -/
abbrev bc (l : List Bool) : Array Value := (l.map Value.bool).toArray
theorem parts_bool : (Tryd.prog.info? 4).map (fun i => (i.zero, i.size, i.bytes)) = some (some (.bool false), 1, 1) := by kernel_rfl
theorem made_bools (n : Nat) : madeCells (Value.bool false).cells n = bc (List.replicate n false) := by
  apply Array.ext
  · simp [madeCells, bc]
  · intro i h1 h2
    simp [madeCells, bc, Value.cells, Nat.mod_one]
theorem make_bools (n : Nat) (hn : n ≤ 1000) (w : World) :
    (Instr.makeSlice 77 (.int .i64 (n : Int)) (.int .i64 (n : Int))).run Tryd.prog w = .ok (.slice (some ⟨w.heap.size, 0, none⟩) n n) (w.alloc (.cells (bc (List.replicate n false)) 4)) := by
  obtain ⟨i0, hi0, hz0, hz1, hz2⟩ := info_parts parts_bool
  have := run_make (P := Tryd.prog) w 77 4 i0 (.bool false) Tryd.underlying77 hi0 hz0 .i64 .i64 (n : Int) (n : Int) (by omega) (Int.le_refl _) (by rw [hz2]; omega) (by omega)
  rw [hz1, Int.toNat_natCast, Nat.mul_one, made_bools] at this
  exact this
theorem bc_at (l : List Bool) (k : Nat) (b : Bool) (h : l[k]? = some b) : (bc l)[k]? = some (.bool b) := by simp [bc, h]
theorem bc_set (l : List Bool) (k : Nat) (b : Bool) : (bc l).setIfInBounds k (.bool b) = bc (l.set k b) := by
  apply Array.ext'
  simp [bc, List.map_set]
theorem kidsIn_err1 {d : List Domy.Node} {i : Nat} {sn : List Bool} {l : List Int} {k : Nat} {y : Int} (h : l[k]? = some y) (hy : y < 0 ∨ (sn.length : Int) ≤ y ∨ ((d[y.toNat]?).map (·.parent)) ≠ some (i : Int) ∨ sn[y.toNat]? = some true) :
    (Domy.kidsIn d i sn (l.drop k)).1 = 3 := by
  obtain ⟨h1, h2⟩ := List.getElem?_eq_some_iff.1 h
  rw [List.drop_eq_getElem_cons h1, h2, Domy.kidsIn, if_pos hy]
theorem kidsIn_err2 {d : List Domy.Node} {i : Nat} {sn : List Bool} {l : List Int} {k : Nat} {y : Int} (h : l[k]? = some y) (hy : ¬ (y < 0 ∨ (sn.length : Int) ≤ y ∨ ((d[y.toNat]?).map (·.parent)) ≠ some (i : Int) ∨ sn[y.toNat]? = some true)) (h7 : i = 0 ∧ ((d[y.toNat]?).map (·.kind)) = some 3) :
    (Domy.kidsIn d i sn (l.drop k)).1 = 7 := by
  obtain ⟨h1, h2⟩ := List.getElem?_eq_some_iff.1 h
  rw [List.drop_eq_getElem_cons h1, h2, Domy.kidsIn, if_neg hy, if_pos h7]
theorem kidsIn_go {d : List Domy.Node} {i : Nat} {sn : List Bool} {l : List Int} {k : Nat} {y : Int} (h : l[k]? = some y) (hy : ¬ (y < 0 ∨ (sn.length : Int) ≤ y ∨ ((d[y.toNat]?).map (·.parent)) ≠ some (i : Int) ∨ sn[y.toNat]? = some true)) (h7 : ¬ (i = 0 ∧ ((d[y.toNat]?).map (·.kind)) = some 3)) :
    Domy.kidsIn d i sn (l.drop k) = Domy.kidsIn d i (sn.set y.toNat true) (l.drop (k + 1)) := by
  obtain ⟨h1, h2⟩ := List.getElem?_eq_some_iff.1 h
  rw [List.drop_eq_getElem_cons h1, h2, Domy.kidsIn, if_neg hy, if_neg h7]
theorem kidsOut_step {d l : List Domy.Node} {i : Nat} {sn : List Bool} {x : Domy.Node} (h : l[i]? = some x) :
    Domy.kidsOut d i sn (l.drop i) = if (Domy.kidsIn d i sn x.kids).1 ≠ 0 then Domy.kidsIn d i sn x.kids else Domy.kidsOut d (i + 1) (Domy.kidsIn d i sn x.kids).2 (l.drop (i + 1)) := by
  obtain ⟨h1, h2⟩ := List.getElem?_eq_some_iff.1 h
  rw [List.drop_eq_getElem_cons h1, h2, Domy.kidsOut]
theorem seen_step {l : List Domy.Node} {i : Nat} {sn : List Bool} {x : Domy.Node} {b : Bool} (h : l[i]? = some x) (hb : sn[i]? = some b) :
    Domy.seenGo (sn.drop i) (l.drop i) = if x.parent ≠ -1 ∧ b = false then 3 else Domy.seenGo (sn.drop (i + 1)) (l.drop (i + 1)) := by
  obtain ⟨h1, h2⟩ := List.getElem?_eq_some_iff.1 h
  obtain ⟨h3, h4⟩ := List.getElem?_eq_some_iff.1 hb
  rw [List.drop_eq_getElem_cons h1, h2, List.drop_eq_getElem_cons h3, h4, Domy.seenGo]
end Go.Proofs.YtdommcjlpibpeaaDoor
