/-
  The closures of the laws, and ok. Conditions: the captured job lies in its block; the errors read as a list.
-/
import Derived.Test.YtpjbblbehbepbaaLpD
import Derived.WalkLawsBesides
import Derived.Shelf.Abstract
namespace Go.Proofs.Ytpjbblbehbepbaa
set_option linter.unusedSimpArgs false
set_option linter.unusedVariables false
open Go.RowKit

theorem egS : ∀ args w, (callFunc 17 args).run Try.prog w = .ok (.enter 17 args) w := Go.Proofs.enters_of Try.func17 (by kernel_rfl) rfl
theorem egT : ∀ args w, (callFunc 19 args).run Try.prog w = .ok (.enter 19 args) w := Go.Proofs.enters_of Try.func19 (by kernel_rfl) rfl
theorem egO : ∀ args w, (callFunc 12 args).run Try.prog w = .ok (.enter 12 args) w := Go.Proofs.enters_of Try.func12 (by kernel_rfl) rfl
set_option maxHeartbeats 1000000 in
theorem sameS (t : Loopy.Timer) (n : Int) (b : Nat) (w : World) (hc : w.cell? ⟨b, 0, none⟩ = some (.int .i64 n)) :
    Calls Try.prog 17 #[tag t, .pointer (some ⟨b, 0, none⟩)] w fun e w' => e = .returned (.bool (t.id == n)) ∧ Below w.heap.size w w' := by
  have hlt : b < w.heap.size := block_lt_of_cell hc
  have hc2 : (w.alloc (.cells (tc t) 49)).cell? ⟨b, 0, none⟩ = some (.int .i64 n) := ((below1 w _).cell (p := ⟨b, 0, none⟩) hlt).trans hc
  go_enter Try.func17, Try.ntmps17
  go_wp2
  go_ret
  exact ⟨rfl, below1 _ _⟩
set_option maxHeartbeats 1000000 in
theorem sameT (t : Loopy.Timer) (n : Int) (b : Nat) (w : World) (hc : w.cell? ⟨b, 0, none⟩ = some (.int .i64 n)) :
    Calls Try.prog 19 #[tag t, .pointer (some ⟨b, 0, none⟩)] w fun e w' => e = .returned (.bool (t.id == n)) ∧ Below w.heap.size w w' := by
  have hlt : b < w.heap.size := block_lt_of_cell hc
  have hc2 : (w.alloc (.cells (tc t) 49)).cell? ⟨b, 0, none⟩ = some (.int .i64 n) := ((below1 w _).cell (p := ⟨b, 0, none⟩) hlt).trans hc
  go_enter Try.func19, Try.ntmps19
  go_wp2
  go_ret
  exact ⟨rfl, below1 _ _⟩
set_option maxHeartbeats 1000000 in
theorem sameO (a : Loopy.Ask) (w : World) :
    Calls Try.prog 12 #[aag a] w fun e w' => e = .returned (.bool (a.what == 4)) ∧ Below w.heap.size w w' := by
  go_enter Try.func12, Try.ntmps12
  go_wp2
  go_ret
  exact ⟨rfl, below1 _ _⟩
/-- does a timer have the captured job's number? -/
theorem has_timer (l : List Loopy.Timer) (v : Value) (n : Int) (b : Nat) (w : World) (hR : TRd w l v) (hl : l.length ≤ 1000000) (hc : w.cell? ⟨b, 0, none⟩ = some (.int .i64 n)) :
    Calls Try.prog 16 #[v, .func (.func 17) #[] #[.pointer (some ⟨b, 0, none⟩)]] w fun e w' => e = .returned (.bool (l.any fun t => t.id == n)) ∧ Below w.heap.size w w' :=
  contains_timer l (fun t => t.id == n) _ #[.pointer (some ⟨b, 0, none⟩)] v w egS (fun t _ w1 hb1 => sameS t n b w1 ((hb1.cell (p := ⟨b, 0, none⟩) (block_lt_of_cell hc)).trans hc)) hR hl
theorem where_timer (l : List Loopy.Timer) (v : Value) (n : Int) (b : Nat) (w : World) (hR : TRd w l v) (hl : l.length ≤ 1000000) (hc : w.cell? ⟨b, 0, none⟩ = some (.int .i64 n)) :
    Calls Try.prog 18 #[v, .func (.func 19) #[] #[.pointer (some ⟨b, 0, none⟩)]] w fun e w' => e = .returned (.int .i64 (idx (fun t => t.id == n) l)) ∧ Below w.heap.size w w' :=
  index_timer l (fun t => t.id == n) _ #[.pointer (some ⟨b, 0, none⟩)] v w egT (fun t _ w1 hb1 => sameT t n b w1 ((hb1.cell (p := ⟨b, 0, none⟩) (block_lt_of_cell hc)).trans hc)) hR hl
theorem has_every (l : List Loopy.Ask) (v : Value) (w : World) (hR : ARd w l v) (hl : l.length ≤ 1000000) :
    Calls Try.prog 11 #[v, .func (.func 12) #[] #[]] w fun e w' => e = .returned (.bool (l.any fun a => a.what == 4)) ∧ Below w.heap.size w w' :=
  contains_ask l (fun a => a.what == 4) _ #[] v w egO (fun a _ w1 _ => by rw [show (#[Value.agg (ac a)] ++ #[] : Array Value) = #[aag a] from by simp]; exact sameO a w1) hR hl
set_option maxHeartbeats 1000000 in
theorem ok_yes (A : Option Addr) (cap : Nat) (w : World) (g : Nat) (hA : A = some ⟨g, 0, none⟩) (h0 : w.cell? ⟨g, 0, none⟩ = some (.int .i64 0)) (h1 : w.cell? ⟨g, 1, none⟩ = some (.int .i64 0)) :
    Calls Try.prog 21 #[.slice A 2 cap] w fun e w' => e = .returned (.bool true) ∧ w' = w := by
  subst hA
  go_enter Try.func21, Try.ntmps21
  go_wp2
  go_loopg [4, 7] 2 (fun gg _ s7 wr => ∃ kk : Nat, kk ≤ 2 ∧ 2 - kk ≤ gg ∧ s7 = .int .i64 (kk : Int) ∧ wr = w)
  case atStart => exact ⟨0, by omega, by omega, rfl, rfl⟩
  case round =>
    obtain ⟨kk, hkk, hg, rfl, rfl⟩ := hrel
    have hk : kk = 0 ∨ kk = 1 ∨ kk = 2 := by omega
    rcases hk with rfl | rfl | rfl
    · go_wp2
      go_roundg 1
      case measure => omega
      case rel => exact ⟨1, by omega, by omega, rfl, rfl⟩
    · go_wp2
      go_roundg 0
      case measure => omega
      case rel => exact ⟨2, by omega, by omega, rfl, rfl⟩
    · go_wp2
      go_ret
      exact ⟨rfl, rfl⟩
set_option maxHeartbeats 1000000 in
theorem ok_no (A : Option Addr) (cap : Nat) (w : World) (g : Nat) (x : Int) (hx : ¬ x = 0) (hA : A = some ⟨g, 0, none⟩) (h0 : w.cell? ⟨g, 0, none⟩ = some (.int .i64 x)) :
    Calls Try.prog 21 #[.slice A 2 cap] w fun e w' => e = .returned (.bool false) ∧ w' = w := by
  subst hA
  have g1 : (x == 0) = false := by simpa using hx
  have g2 : (x != 0) = true := by simpa using hx
  go_enter Try.func21, Try.ntmps21
  go_wp2
  go_loopg [4, 7] 2 (fun gg _ s7 wr => ∃ kk : Nat, kk = 0 ∧ 2 - kk ≤ gg ∧ s7 = .int .i64 (kk : Int) ∧ wr = w)
  case atStart => exact ⟨0, by omega, by omega, rfl, rfl⟩
  case round =>
    obtain ⟨kk, rfl, hg, rfl, rfl⟩ := hrel
    go_wp2
    go_ret
    exact ⟨rfl, rfl⟩
end Go.Proofs.Ytpjbblbehbepbaa
