/-
  read: the byte that a text begins with. Conditions: the text is not empty, and not longer than an int tells.
-/
import Derived.Test.YtdolmjeiakdfhaaGreatDoorUrC
import Derived.Deep.QuietTactic
import Derived.BigQuiet
namespace Go.Proofs.YtdolmjeiakdfhaaGreatDoor
set_option linter.unusedSimpArgs false
set_option linter.unusedVariables false
open Go.RowKit

/-- A byte of a string by its place. -/
theorem run_at (s : ByteArray) (c : UInt8) (i : Int) (h0 : 0 ≤ i) (h : s.data.toList[i.toNat]? = some c) (w : World) :
    (Instr.index 9 (.string s) (.int .i64 i)).run Tryz.prog w = .ok (.int .u8 (c.toNat : Int)) w := by
  have hlt : i.toNat < s.size := by
    have := (List.getElem?_eq_some_iff.1 h).1
    simpa using this
  have hg : s[i.toNat]'hlt = c := by
    obtain ⟨h1, h2⟩ := List.getElem?_eq_some_iff.1 h
    rw [← h2]; rfl
  rw [run_index_string (P := Tryz.prog) w 9 s .i64 i Tryz.underlying9]
  rw [dif_pos ⟨by omega, by omega⟩]
  simp only [hg]
/-- what the program tells of a beginning. -/
def readOut (s : List UInt8) : UInt8 × Nat := match Urly.read s with
  | some (c, t, _) => (c, if t then 3 else 1)
  | none => (0, 0)
theorem byte_ne {c : UInt8} (h : c ≠ 37) : ((c.toNat : Int) == 37) = false := by
  rw [beq_eq_false_iff_ne]
  intro e
  apply h
  rw [← UInt8.toNat_inj]
  simp; omega
set_option maxRecDepth 100000 in
theorem read_plain (c : UInt8) (r : List UInt8) (w : World) (h : c ≠ 37) :
    Calls Tryz.prog 97 #[.string (byt (c :: r))] w fun e w' => e = .returned (.tuple #[.int .u8 (c.toNat : Int), .int .i64 1]) ∧ Below w.heap.size w w' := by
  have hb := byte_ne h
  have hb2 : ((c.toNat : Int) != 37) = true := by simp [bne, hb]
  obtain ⟨S, hS⟩ : ∃ S, byt (c :: r) = S := ⟨_, rfl⟩
  have hi := fun w => run_at S c 0 (by omega) (by rw [← hS]; rfl) w
  obtain ⟨n, hn⟩ : ∃ n : Int, (c.toNat : Int) = n := ⟨_, rfl⟩
  rw [hn] at hb hb2 hi ⊢
  rw [hS]
  clear hS hn
  go_enter Tryz.func97, Tryz.ntmps97
  go_wp2
  go_returns
  exact ⟨rfl, Below.refl _ _⟩
set_option maxRecDepth 100000 in
theorem read_short (r : List UInt8) (w : World) (h : r.length < 2) :
    Calls Tryz.prog 97 #[.string (byt (37 :: r))] w fun e w' => e = .returned (.tuple #[.int .u8 0, .int .i64 0]) ∧ Below w.heap.size w w' := by
  obtain ⟨S, hS⟩ : ∃ S, byt (37 :: r) = S := ⟨_, rfl⟩
  have hi := fun w => run_at S 37 0 (by omega) (by rw [← hS]; rfl) w
  have hsz : S.size = r.length + 1 := by rw [← hS, byt_size]; rfl
  have hd : decide ((S.size : Int) < 3) = true := decide_eq_true (by omega)
  have hdz : (S.size : Int) < 3 := by omega
  have hdn : S.size < 3 := by omega
  rw [hS]
  clear hS hsz
  go_enter Tryz.func97, Tryz.ntmps97
  go_wp2
  go_returns
  exact ⟨rfl, Below.refl _ _⟩
end Go.Proofs.YtdolmjeiakdfhaaGreatDoor
