/-
  The order of timers. Conditions: none.
-/
import Derived.Test.YtpjbblbehbepbaaLpB
namespace Go.Proofs.Ytpjbblbehbepbaa
set_option linter.unusedSimpArgs false
set_option linter.unusedVariables false
open Go.RowKit

/-- two boxes of timers, and nothing below has turned. -/
def TwoT (W : World) (n : Nat) (a b : Loopy.Timer) (w' : World) : Prop :=
  Below W.heap.size W w' ∧ w'.cell? ⟨n, 0, none⟩ = some (.int .i64 a.id) ∧ w'.cell? ⟨n, 1, none⟩ = some (.int .i64 a.due) ∧ w'.cell? ⟨n + 1, 0, none⟩ = some (.int .i64 b.id) ∧ w'.cell? ⟨n + 1, 1, none⟩ = some (.int .i64 b.due)
theorem twoT {W w1 : World} {n : Nat} {a b : Loopy.Timer} (hA : Box W n 49 (tc a)) (hB : Box W (n + 1) 49 (tc b)) (hb : Below W.heap.size W w1) : TwoT W n a b w1 :=
  ⟨hb, by simpa using Box.cell (Box.below hA hb hA.lt) 0, by simpa using Box.cell (Box.below hA hb hA.lt) 1, by simpa using Box.cell (Box.below hB hb hB.lt) 0, by simpa using Box.cell (Box.below hB hb hB.lt) 1⟩
set_option maxHeartbeats 1000000 in
theorem before_any (a b : Loopy.Timer) (w : World) :
    Calls Try.prog 33 #[tag a, tag b] w fun e w' => e = .returned (.int .i64 (Loopy.before a b)) ∧ Below w.heap.size w w' := by
  have HC1 := Lib.hid (fun w => compare_any a.due b.due w)
  have HC2 := Lib.hid (fun w => compare_any a.id b.id w)
  have hsp : Loopy.before a b = or2 (Go.Lib.compareInt a.due b.due) (Go.Lib.compareInt a.id b.id) := rfl
  obtain ⟨c, hc⟩ : ∃ c, Go.Lib.compareInt a.due b.due = c := ⟨_, rfl⟩
  obtain ⟨d, hd⟩ : ∃ d, Go.Lib.compareInt a.id b.id = d := ⟨_, rfl⟩
  rw [hc] at HC1 hsp
  rw [hd] at HC2 hsp
  rw [hsp]
  clear hsp hc hd
  have HO := Lib.hid (fun g w h0 h1 => or_any g c d w h0 h1)
  go_enter Try.func33, Try.ntmps33
  go_wp2_with (fail)
  have hA0 : Box ((w.alloc (.cells (tc a) 49)).alloc (.cells (tc b) 49)) w.heap.size 49 (tc a) := (Box.new w _ (tc a)).alloc _
  have hB0 : Box ((w.alloc (.cells (tc a) 49)).alloc (.cells (tc b) 49)) (w.heap.size + 1) 49 (tc b) := new2 w _ _ _
  have hb0 : Below w.heap.size w ((w.alloc (.cells (tc a) 49)).alloc (.cells (tc b) 49)) := (below1 w _).alloc (by simp) _
  generalize ((w.alloc (.cells (tc a) 49)).alloc (.cells (tc b) 49)) = W at *
  have hzW := hB0.lt
  go_region_held3 (fun w' => Below W.heap.size W w' ∧ w'.cell? ⟨w.heap.size, 0, none⟩ = some (.int .i64 a.id) ∧ w'.cell? ⟨w.heap.size, 1, none⟩ = some (.int .i64 a.due) ∧ w'.cell? ⟨w.heap.size + 1, 0, none⟩ = some (.int .i64 b.id) ∧ w'.cell? ⟨w.heap.size + 1, 1, none⟩ = some (.int .i64 b.due))
    (first | exact twoT hA0 hB0 (Below.drew (Below.refl _ W)) | (go_split_ands; exact twoT hA0 hB0 (Below.alloc (by assumption) (Below.size (by assumption)) _)) | (go_split_ands; exact twoT hA0 hB0 (by assumption)))
    (first | (go_at_call 45; first | ((with_reducible refine (HC1.out _).mono ?_); rintro e w1 ⟨rfl, rfl⟩) | ((with_reducible refine (HC2.out _).mono ?_); rintro e w1 ⟨rfl, rfl⟩)) | (go_at_call 44; (with_reducible refine (HO.out _ _ ?_ ?_).mono ?_); (go_simp); (go_simp); rintro e w1 ⟨rfl, rfl⟩))
  rename_i hH
  go_wp2
  go_ret
  exact ⟨rfl, hb0.trans (hH.1.mono hb0.size)⟩
end Go.Proofs.Ytpjbblbehbepbaa
