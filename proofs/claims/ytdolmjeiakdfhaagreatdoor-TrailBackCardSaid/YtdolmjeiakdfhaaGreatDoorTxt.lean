/-
  Words for texts of bytes: a rest of a text, a beginning, a row of bytes of one's own read as a text. Conditions: as each says.
-/
import Derived.Test.YtdolmjeiakdfhaaGreatDoorGen
import Derived.Lib.Builder
import Derived.Laws.BytesArg
import Derived.Laws.IdiomStrings
namespace Go.Proofs.YtdolmjeiakdfhaaGreatDoor
set_option linter.unusedSimpArgs false
set_option linter.unusedVariables false
open Go.RowKit

theorem ext_from (s : List UInt8) (n m : Nat) (hm : s.length ≤ m) : (byt s).extract n m = byt (s.drop n) := by
  unfold byt
  apply ByteArray.ext
  apply Array.ext'
  simp
  rw [List.take_of_length_le (by simp; omega)]
theorem ext_upto (s : List UInt8) (n : Nat) : (byt s).extract 0 n = byt (s.take n) := by
  unfold byt
  apply ByteArray.ext
  apply Array.ext'
  simp
theorem run_from (s : List UInt8) (n : Int) (h0 : 0 ≤ n) (h1 : n ≤ s.length) (w : World) : (Instr.slice 9 (.string (byt s)) (some (.int .i64 n)) none none).run Tryz.prog w = .ok (.string (byt (s.drop n.toNat))) w := by
  rw [run_slice_string_from_if (P := Tryz.prog) w 9 (byt s) .i64 n Tryz.underlying9, if_pos ⟨h0, by rw [byt_size]; exact h1⟩, ext_from s _ _ (by rw [byt_size]; exact Nat.le_refl _)]
theorem run_upto (s : List UInt8) (n : Int) (h0 : 0 ≤ n) (h1 : n ≤ s.length) (w : World) : (Instr.slice 9 (.string (byt s)) none (some (.int .i64 n)) none).run Tryz.prog w = .ok (.string (byt (s.take n.toNat))) w := by
  rw [run_slice_string_to_if (P := Tryz.prog) w 9 (byt s) .i64 n Tryz.underlying9, if_pos ⟨h0, by rw [byt_size]; exact h1⟩, ext_upto]
/-- a row of bytes of one's own, as a text. -/
theorem run_own_text {w : World} {base : Nat} {v : Value} {l : List UInt8} (h : w.ownsRow base 5 1 v l.length (Lib.byteCells l)) : (convert 134 9 v).run Tryz.prog w = .ok (.string (byt l)) w := by
  rcases h.2 with ⟨rfl, hn⟩ | ⟨g, cap, cur, rfl, hb, hg, hn, hc, hs, ht⟩
  · have : l = [] := by cases l with | nil => rfl | cons a b => simp at hn
    subst this
    rw [run_convert_bytes_nil (P := Tryz.prog) w 134 5 Tryz.underlying134 Tryz.underlying5 0 0 9 Tryz.underlying9]
    rfl
  · refine run_convert_bytes_back (P := Tryz.prog) w 134 9 5 _ cap l Tryz.underlying134 Tryz.underlying5 Tryz.underlying9 (fun j hj => ?_)
    have hcj : (Lib.byteCells l)[j]? = some (.int .u8 (l[j].toNat : Int)) := by unfold Lib.byteCells; rw [List.getElem?_map, List.getElem?_eq_getElem hj]; rfl
    have := h.cellAt j (by rw [Nat.mul_one]; exact hj)
    have ha : (⟨g, 0, none⟩ : Addr).add j = ⟨g, j, none⟩ := by
      unfold Addr.add
      by_cases h0 : j = 0
      · subst h0; simp
      · simp [h0]
    rw [ha, this]; exact hcj
theorem wpList_text {ops : Array Oper} {rest : List Oper} {o : Oper} {a : Act} {w : World} {Q : Exit → Act → World → Prop} (hgd : o.guard = none) (src dst : TypeId) (x : Operand) (ho : o.op = .convert src dst x)
    (v : Value) (s : ByteArray) (hx : a.eval x = v) (hrun : (convert src dst v).run Tryz.prog w = .ok (.string s) w) (h : wpList Tryz.prog ops Q rest (a.put o.dst (.string s)) w) : wpList Tryz.prog ops Q (o :: rest) a w := by
  refine wpList_plain hgd fun _ hK => ?_
  unfold Oper.wp execOp
  simp only [ho, hx, Sem.run_bind, hrun, Result.andThen_ok, Sem.run_pure]
  exact hK _ _ h
theorem one_new (w : World) (x : Value) (t : TypeId) (g : Nat) (hg : w.heap.size = g) : ∀ (j : Nat) (u : Value), [x][j]? = some u → (w.alloc (.cells #[x] t)).cell? ((⟨g, 0, none⟩ : Addr).add j) = some u := by
  subst hg
  intro j u hj
  cases j with
  | zero =>
    simp at hj
    subst hj
    have h := (Box.new w t #[x]).cell 0
    exact h
  | succ j => simp at hj
theorem one_byte (n : Int) : ∀ u ∈ [Value.int .u8 n], u.oneCell' = true := by intro u hu; simp at hu; subst hu; rfl
theorem one_text (n : ByteArray) : ∀ u ∈ [Value.string n], u.oneCell' = true := by intro u hu; simp at hu; subst hu; rfl
/-- a row of one's own that grew. -/
theorem grown_below {w w1 w2 : World} {B : Nat} {e : TypeId} {k n : Nat} {v : Value} {xs : List Value} (hb : Below B w w1) (hg : w1.grownBy w2 v.ownBlock) (ho : w1.ownsRow B e k v n xs) (hB : B ≤ w1.heap.size) : Below B w w2 :=
  hb.grown hg hB (fun k hk => (ho.lt k hk).1)
theorem cells_cat (a b : List UInt8) : Lib.byteCells a ++ Lib.byteCells b = Lib.byteCells (a ++ b) := by simp [Lib.byteCells]
theorem cells_str (l : List UInt8) : Lib.strCells (byt l) = Lib.byteCells l := by simp [Lib.strCells, Lib.byteCells, byt]
end Go.Proofs.YtdolmjeiakdfhaaGreatDoor
