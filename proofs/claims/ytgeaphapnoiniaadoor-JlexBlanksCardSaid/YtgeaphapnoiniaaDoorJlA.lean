/-
  The reader's small functions: peek, skip, run. Conditions: the reader lies in a block of its own.
-/
import Derived.Test.YtgeaphapnoiniaaDoorMem
import Derived.WalkKit
import Derived.WalkSpells
import Derived.Deep.QuietTactic
import Derived.BigQuiet
import Derived.Below
import Derived.Lib.Hide
import Derived.Handy
namespace Go.Proofs.YtgeaphapnoiniaaDoor
open Go.RowKit

/-- A byte of a string by its place. -/
theorem run_at (s : ByteArray) (c : UInt8) (i : Int) (h0 : 0 ≤ i) (h : s.data.toList[i.toNat]? = some c) (w : World) :
    (Instr.index 9 (.string s) (.int .i64 i)).run Tryd.prog w = .ok (.int .u8 (c.toNat : Int)) w := by
  have hlt : i.toNat < s.size := by
    have := (List.getElem?_eq_some_iff.1 h).1
    simpa using this
  have hg : s[i.toNat]'hlt = c := by
    obtain ⟨h1, h2⟩ := List.getElem?_eq_some_iff.1 h
    rw [← h2]; rfl
  rw [run_index_string (P := Tryd.prog) w 9 s .i64 i Tryd.underlying9]
  rw [dif_pos ⟨by omega, by omega⟩]
  simp only [hg]

set_option maxHeartbeats 400000 in
theorem peek_in (b : Nat) (s : ByteArray) (k j : Nat) (c : UInt8) (w : World) (hs : w.cell? ⟨b, 0, none⟩ = some (.string s)) (hk : w.cell? ⟨b, 1, none⟩ = some (.int .i64 k))
    (hm : s.size ≤ 1000000) (hj : j ≤ 1000) (hkm : k ≤ 1000000) (hlt : k + j < s.size) (hc : s.data.toList[k + j]? = some c) :
    Calls Tryd.prog 20 #[.pointer (some ⟨b, 0, none⟩), .int .i64 j] w fun e w' => e = .returned (.int .u8 c.toNat) ∧ ∃ n, w' = w.drewN n := by
  have hi := fun w => run_at s c ((k : Int) + (j : Int)) (by omega) (by rw [show ((k : Int) + (j : Int)).toNat = k + j by omega]; exact hc) w
  have h1 : decide ((k : Int) + j < s.size) = true := by simp; omega
  go_enter Tryd.func20, Tryd.ntmps20
  go_wp2
  go_quiet (fail)
  go_wp2
  go_quiet (fail)
  go_wp2
  go_ret
  exact ⟨rfl, _, World.drewN_drewN _ _ _⟩

set_option maxHeartbeats 400000 in
theorem peek_out (b : Nat) (s : ByteArray) (k j : Nat) (w : World) (hs : w.cell? ⟨b, 0, none⟩ = some (.string s)) (hk : w.cell? ⟨b, 1, none⟩ = some (.int .i64 k))
    (hm : s.size ≤ 1000000) (hj : j ≤ 1000) (hkm : k ≤ 1000000) (hge : s.size ≤ k + j) :
    Calls Tryd.prog 20 #[.pointer (some ⟨b, 0, none⟩), .int .i64 j] w fun e w' => e = .returned (.int .u8 0) ∧ ∃ n, w' = w.drewN n := by
  have h1 : decide ((k : Int) + j < s.size) = false := by simp; omega
  go_enter Tryd.func20, Tryd.ntmps20
  go_wp2
  go_quiet (fail)
  go_wp2
  go_ret
  exact ⟨rfl, _, rfl⟩

end Go.Proofs.YtgeaphapnoiniaaDoor
