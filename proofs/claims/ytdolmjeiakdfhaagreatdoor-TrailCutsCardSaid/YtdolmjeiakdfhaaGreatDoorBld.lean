/-
  A strings.Builder of the call's own, in texts of bytes. Conditions: no more than 5000000 bytes.
-/
import Derived.Test.YtdolmjeiakdfhaaGreatDoorTxt
import Derived.Test.YtdolmjeiakdfhaaGreatDoorJlBu
namespace Go.Proofs.YtdolmjeiakdfhaaGreatDoor
set_option linter.unusedSimpArgs false
set_option linter.unusedVariables false
open Go.RowKit

/-- block b is a builder that holds l; it and its row lie from B on. -/
def Bld (B b : Nat) (l : List UInt8) (w : World) : Prop := Lib.IsBuilder 136 5 B b (Lib.byteCells l) w
theorem bld_new (w : World) : Bld w.heap.size w.heap.size [] (w.alloc (.cells #[.pointer none, .slice none 0 0] 136)) := Lib.fresh_isBuilder _ _ w
theorem bld_below {B b : Nat} {l : List UInt8} {w w1 : World} (h : Bld B b l w) (hb : Below w.heap.size w w1) : Bld B b l w1 := by
  rcases h with ⟨h0, v, h1, h2, h3⟩ | ⟨h0, v, h1, h2, h3⟩
  · exact .inl ⟨h0, v, (hb.block b (Box.lt h1)).trans h1, own_below h2 hb, h3⟩
  · exact .inr ⟨h0, v, (hb.block b (Box.lt h1)).trans h1, own_below h2 hb, h3⟩
theorem bld_alloc {B b : Nat} {l : List UInt8} {w : World} (h : Bld B b l w) (o : Obj) : Bld B b l (w.alloc o) := bld_below h (below1 w o)
theorem bld_drew {B b : Nat} {l : List UInt8} {w : World} (h : Bld B b l w) (n : Nat) : Bld B b l (w.drewN n) := h
/-- the writers, at bytes. -/
def WB : Prop := ∀ (B b : Nat) (l : List UInt8) (c : UInt8) (w : World), Bld B b l w → l.length ≤ 5000000 → B ≤ w.heap.size →
  Calls Tryz.prog 99 #[.pointer (some ⟨b, 0, none⟩), .int .u8 (c.toNat : Int)] w fun e w' => e = .returned .nilIface ∧ Bld B b (l ++ [c]) w' ∧ Below B w w'
theorem wb : WB := by
  intro B b l c w h hl hB
  have := write_byte B b (Lib.byteCells l) (c.toNat : Int) w h (by rw [Lib.byteCells_length]; omega) hB
  unfold Bld
  rw [← cells_cat]; exact this
def WS : Prop := ∀ (B b : Nat) (l : List UInt8) (s : List UInt8) (w : World), Bld B b l w → l.length ≤ 5000000 → s.length ≤ 5000000 → B ≤ w.heap.size →
  Calls Tryz.prog 100 #[.pointer (some ⟨b, 0, none⟩), .string (byt s)] w fun e w' => (∃ v, e = .returned v) ∧ Bld B b (l ++ s) w' ∧ Below B w w'
theorem ws : WS := by
  intro B b l s w h hl hs hB
  have := write_string B b (Lib.byteCells l) (byt s) w h (by rw [Lib.byteCells_length, byt_size]; omega) hB
  rw [cells_str, cells_cat] at this
  exact this.mono fun _ _ ⟨h1, h2, h3⟩ => ⟨⟨_, h1⟩, h2, h3⟩
def BS : Prop := ∀ (B b : Nat) (l : List UInt8) (w : World), Bld B b l w → B ≤ w.heap.size →
  Calls Tryz.prog 102 #[.pointer (some ⟨b, 0, none⟩)] w fun e w' => e = .returned (.string (byt l)) ∧ Below B w w'
theorem bs : BS := fun B b l w h hB => Tryz.Builder_String_any B b l w h hB
end Go.Proofs.YtdolmjeiakdfhaaGreatDoor
