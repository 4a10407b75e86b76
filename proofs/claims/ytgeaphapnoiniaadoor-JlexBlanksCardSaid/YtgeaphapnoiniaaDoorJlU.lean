/-
  The walk of the law of blanks. Conditions: the library's table lies where it lies.
-/
import Derived.Test.YtgeaphapnoiniaaDoorJlN
import Derived.Test.YtgeaphapnoiniaaDoorJlR
import Derived.Test.YtgeaphapnoiniaaDoorLexB
namespace Go.Proofs.YtgeaphapnoiniaaDoor
open Go.RowKit

/-- WriteString, of any text that is not too long. -/
def WX : Prop := ∀ (B b : Nat) (l : List UInt8) (s : ByteArray) (w : World), Lib.IsBuilder 36 5 B b (Lib.byteCells l) w → l.length ≤ 5000000 → s.size ≤ 5000000 → B ≤ w.heap.size →
  Calls Tryd.prog 11 #[.pointer (some ⟨b, 0, none⟩), .string s] w fun e w' => (∃ v, e = .returned v) ∧ Lib.IsBuilder 36 5 B b (Lib.byteCells (l ++ s.data.toList)) w' ∧ Below B w w'
theorem wx : WX := by
  intro B b l s w h hl hs hB
  have := write_string B b (Lib.byteCells l) s w h (by rw [Lib.byteCells_length]; omega) hB
  rw [show s = ⟨s.data.toList.toArray⟩ from rfl, cells_str, cells_cat] at this
  exact this.mono fun _ _ ⟨h1, h2, h3⟩ => ⟨⟨_, h1⟩, h2, h3⟩

set_option maxRecDepth 100000 in
set_option maxHeartbeats 1000000 in
/-- it can't be read: nothing is asked. -/
theorem blanks_err (n : Nat) (hn : n = 2 ∨ n = 4) (s : ByteArray) (w : World) (he : Env w) (h4 : 4 ≤ w.heap.size) (h : Calls Tryd.prog 7 #[.string s] w fun e w' => TokOut w (.err n) e w') :
    Calls Tryd.prog 6 #[.string s] w fun e w' => e = .returned (.bool true) ∧ Below w.heap.size w w' := by
  have HT := Lib.hid h
  clear h
  rcases hn with rfl | rfl
  all_goals
    go_enter Tryd.func6, Tryd.ntmps6
    go_wp2_with (fail)
    refine HT.out.mono ?_
    rintro e w1 ⟨rfl, hb1⟩
    have he1 := he.below hb1 h4
    have hz1 := hb1.size
    go_wp2_with (fail)
    refine (lives_true w1 he1 (by omega)).mono ?_
    rintro e w2 ⟨rfl, hb2⟩
    have he2 := he1.below hb2 (by omega)
    have hz2 := hb2.size
    go_wp2_with (fail)
    refine (lives_true w2 he2 (by omega)).mono ?_
    rintro e w3 ⟨rfl, hb3⟩
    go_wp2
    go_ret
    exact ⟨rfl, (hb1.trans (hb2.mono hz1)).trans (hb3.mono (by omega))⟩

set_option maxRecDepth 100000 in
set_option maxHeartbeats 1000000 in
/-- it is too long: nothing is asked. -/
theorem blanks_long (ts : List Lexy.Tok) (s : ByteArray) (hl : 200 < s.size) (w : World) (he : Env w) (h4 : 4 ≤ w.heap.size) (h : Calls Tryd.prog 7 #[.string s] w fun e w' => TokOut w (.ok ts) e w') :
    Calls Tryd.prog 6 #[.string s] w fun e w' => e = .returned (.bool true) ∧ Below w.heap.size w w' := by
  have HT := Lib.hid h
  have hl1 : decide ((200 : Int) < (s.size : Int)) = true := by simp; omega
  clear h hl
  go_enter Tryd.func6, Tryd.ntmps6
  go_wp2_with (fail)
  refine HT.out.mono ?_
  rintro e w1 ⟨A1, c1, rfl, _, hb1⟩
  have he1 := he.below hb1 h4
  have hz1 := hb1.size
  go_wp2_with (fail)
  refine (lives_true w1 he1 (by omega)).mono ?_
  rintro e w2 ⟨rfl, hb2⟩
  have he2 := he1.below hb2 (by omega)
  have hz2 := hb2.size
  go_wp2_with (fail)
  refine (lives_true w2 he2 (by omega)).mono ?_
  rintro e w3 ⟨rfl, hb3⟩
  go_wp2
  go_ret
  exact ⟨rfl, (hb1.trans (hb2.mono hz1)).trans (hb3.mono (by omega))⟩
end Go.Proofs.YtgeaphapnoiniaaDoor
