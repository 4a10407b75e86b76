/-
  Texts that the law leans on: PmS, PmT, PwM, JlBu. Conditions: as each says.
-/
import Derived.Test.YtonjdlialejedaaGreatDoorFAg
import Derived.Test.YtonjdlialejedaaGreatDoorFAc
import Derived.Test.YtonjdlialejedaaGreatDoorFAa
import Derived.Test.YtonjdlialejedaaGreatDoorShelf
import Derived.Shelf.Strings.BuilderX
import Derived.Lib.Builder
import Derived.Lib.AppendStr
import Derived.Lib.UnsafeStr
import Derived.Lib.MakeNoZero
import Derived.OwnWalk
import Derived.Laws.Externs
set_option linter.unusedSimpArgs false
set_option linter.unusedVariables false
namespace Go.Proofs.YtonjdlialejedaaGreatDoor
open Go.Lib (hid)
open Go.RowKit
theorem info_rks : (Tryz.prog.info? 123).map (·.size) = some 6 := by kernel_rfl
set_option maxRecDepth 100000 in
set_option maxHeartbeats 4000000 in
theorem ranks_any (w : World) : Calls Tryz.prog 88 #[] w fun e w' => ∃ vs : Array Value, e = .returned (.agg vs) ∧ Below w.heap.size w w' ∧ ∀ r : Nat, r < 6 → ∃ g, w.heap.size ≤ g ∧ g < w'.heap.size ∧ (∀ q, (Instr.index 123 (.agg vs) (.int .i64 (r : Int))).run Tryz.prog q = .ok (.slice (some ⟨g, 0, none⟩) (Pars.ranks.getD r []).length (Pars.ranks.getD r []).length) q) ∧ w'.rangeAt g 0 ((Pars.ranks.getD r []).map fun s => .string (byt s)) := by
 go_enter Tryz.func88, Tryz.ntmps88
 go_upto_region 1 with fail
 refine gen_world (F := fun W => Box W w.heap.size 123 #[.slice none 0 0, .slice none 0 0, .slice none 0 0, .slice none 0 0, .slice none 0 0, .slice none 0 0] ∧ Below w.heap.size w W ∧ W.heap.size = w.heap.size + 1) ⟨Box.new w _ _, below1 w _, by simp⟩ ?_
 rintro w0 ⟨r0, hU, hz0⟩
 have b1 : Box ((((((w0.alloc (.cells #[.string ⟨#[124, 124]⟩] 9)).alloc (.cells #[.string ⟨#[38, 38]⟩] 9)).alloc (.cells #[.string ⟨#[61, 61]⟩, .string ⟨#[33, 61]⟩] 9)).alloc (.cells #[.string ⟨#[60]⟩, .string ⟨#[60, 61]⟩, .string ⟨#[62]⟩, .string ⟨#[62, 61]⟩] 9)).alloc (.cells #[.string ⟨#[43]⟩, .string ⟨#[45]⟩] 9)).alloc (.cells #[.string ⟨#[42]⟩, .string ⟨#[47]⟩, .string ⟨#[37]⟩] 9)) (w.heap.size + 1) 9 #[.string ⟨#[124, 124]⟩] := by
  have h : Box ((((((w0.alloc (.cells #[.string ⟨#[124, 124]⟩] 9)).alloc (.cells #[.string ⟨#[38, 38]⟩] 9)).alloc (.cells #[.string ⟨#[61, 61]⟩, .string ⟨#[33, 61]⟩] 9)).alloc (.cells #[.string ⟨#[60]⟩, .string ⟨#[60, 61]⟩, .string ⟨#[62]⟩, .string ⟨#[62, 61]⟩] 9)).alloc (.cells #[.string ⟨#[43]⟩, .string ⟨#[45]⟩] 9)).alloc (.cells #[.string ⟨#[42]⟩, .string ⟨#[47]⟩, .string ⟨#[37]⟩] 9)) w0.heap.size 9 #[.string ⟨#[124, 124]⟩] := (((((Box.new w0 9 #[.string ⟨#[124, 124]⟩]).alloc _).alloc _).alloc _).alloc _).alloc _
  have e : w0.heap.size = w.heap.size + 1 := by simp [hz0]
  rw [e] at h
  exact h
 have b2 : Box ((((((w0.alloc (.cells #[.string ⟨#[124, 124]⟩] 9)).alloc (.cells #[.string ⟨#[38, 38]⟩] 9)).alloc (.cells #[.string ⟨#[61, 61]⟩, .string ⟨#[33, 61]⟩] 9)).alloc (.cells #[.string ⟨#[60]⟩, .string ⟨#[60, 61]⟩, .string ⟨#[62]⟩, .string ⟨#[62, 61]⟩] 9)).alloc (.cells #[.string ⟨#[43]⟩, .string ⟨#[45]⟩] 9)).alloc (.cells #[.string ⟨#[42]⟩, .string ⟨#[47]⟩, .string ⟨#[37]⟩] 9)) (w.heap.size + 2) 9 #[.string ⟨#[38, 38]⟩] := by
  have h : Box ((((((w0.alloc (.cells #[.string ⟨#[124, 124]⟩] 9)).alloc (.cells #[.string ⟨#[38, 38]⟩] 9)).alloc (.cells #[.string ⟨#[61, 61]⟩, .string ⟨#[33, 61]⟩] 9)).alloc (.cells #[.string ⟨#[60]⟩, .string ⟨#[60, 61]⟩, .string ⟨#[62]⟩, .string ⟨#[62, 61]⟩] 9)).alloc (.cells #[.string ⟨#[43]⟩, .string ⟨#[45]⟩] 9)).alloc (.cells #[.string ⟨#[42]⟩, .string ⟨#[47]⟩, .string ⟨#[37]⟩] 9)) (w0.alloc (.cells #[.string ⟨#[124, 124]⟩] 9)).heap.size 9 #[.string ⟨#[38, 38]⟩] := ((((Box.new (w0.alloc (.cells #[.string ⟨#[124, 124]⟩] 9)) 9 #[.string ⟨#[38, 38]⟩]).alloc _).alloc _).alloc _).alloc _
  have e : (w0.alloc (.cells #[.string ⟨#[124, 124]⟩] 9)).heap.size = w.heap.size + 2 := by simp [hz0]
  rw [e] at h
  exact h
 have b3 : Box ((((((w0.alloc (.cells #[.string ⟨#[124, 124]⟩] 9)).alloc (.cells #[.string ⟨#[38, 38]⟩] 9)).alloc (.cells #[.string ⟨#[61, 61]⟩, .string ⟨#[33, 61]⟩] 9)).alloc (.cells #[.string ⟨#[60]⟩, .string ⟨#[60, 61]⟩, .string ⟨#[62]⟩, .string ⟨#[62, 61]⟩] 9)).alloc (.cells #[.string ⟨#[43]⟩, .string ⟨#[45]⟩] 9)).alloc (.cells #[.string ⟨#[42]⟩, .string ⟨#[47]⟩, .string ⟨#[37]⟩] 9)) (w.heap.size + 3) 9 #[.string ⟨#[61, 61]⟩, .string ⟨#[33, 61]⟩] := by
  have h : Box ((((((w0.alloc (.cells #[.string ⟨#[124, 124]⟩] 9)).alloc (.cells #[.string ⟨#[38, 38]⟩] 9)).alloc (.cells #[.string ⟨#[61, 61]⟩, .string ⟨#[33, 61]⟩] 9)).alloc (.cells #[.string ⟨#[60]⟩, .string ⟨#[60, 61]⟩, .string ⟨#[62]⟩, .string ⟨#[62, 61]⟩] 9)).alloc (.cells #[.string ⟨#[43]⟩, .string ⟨#[45]⟩] 9)).alloc (.cells #[.string ⟨#[42]⟩, .string ⟨#[47]⟩, .string ⟨#[37]⟩] 9)) ((w0.alloc (.cells #[.string ⟨#[124, 124]⟩] 9)).alloc (.cells #[.string ⟨#[38, 38]⟩] 9)).heap.size 9 #[.string ⟨#[61, 61]⟩, .string ⟨#[33, 61]⟩] := (((Box.new ((w0.alloc (.cells #[.string ⟨#[124, 124]⟩] 9)).alloc (.cells #[.string ⟨#[38, 38]⟩] 9)) 9 #[.string ⟨#[61, 61]⟩, .string ⟨#[33, 61]⟩]).alloc _).alloc _).alloc _
  have e : ((w0.alloc (.cells #[.string ⟨#[124, 124]⟩] 9)).alloc (.cells #[.string ⟨#[38, 38]⟩] 9)).heap.size = w.heap.size + 3 := by simp [hz0]
  rw [e] at h
  exact h
 have b4 : Box ((((((w0.alloc (.cells #[.string ⟨#[124, 124]⟩] 9)).alloc (.cells #[.string ⟨#[38, 38]⟩] 9)).alloc (.cells #[.string ⟨#[61, 61]⟩, .string ⟨#[33, 61]⟩] 9)).alloc (.cells #[.string ⟨#[60]⟩, .string ⟨#[60, 61]⟩, .string ⟨#[62]⟩, .string ⟨#[62, 61]⟩] 9)).alloc (.cells #[.string ⟨#[43]⟩, .string ⟨#[45]⟩] 9)).alloc (.cells #[.string ⟨#[42]⟩, .string ⟨#[47]⟩, .string ⟨#[37]⟩] 9)) (w.heap.size + 4) 9 #[.string ⟨#[60]⟩, .string ⟨#[60, 61]⟩, .string ⟨#[62]⟩, .string ⟨#[62, 61]⟩] := by
  have h : Box ((((((w0.alloc (.cells #[.string ⟨#[124, 124]⟩] 9)).alloc (.cells #[.string ⟨#[38, 38]⟩] 9)).alloc (.cells #[.string ⟨#[61, 61]⟩, .string ⟨#[33, 61]⟩] 9)).alloc (.cells #[.string ⟨#[60]⟩, .string ⟨#[60, 61]⟩, .string ⟨#[62]⟩, .string ⟨#[62, 61]⟩] 9)).alloc (.cells #[.string ⟨#[43]⟩, .string ⟨#[45]⟩] 9)).alloc (.cells #[.string ⟨#[42]⟩, .string ⟨#[47]⟩, .string ⟨#[37]⟩] 9)) (((w0.alloc (.cells #[.string ⟨#[124, 124]⟩] 9)).alloc (.cells #[.string ⟨#[38, 38]⟩] 9)).alloc (.cells #[.string ⟨#[61, 61]⟩, .string ⟨#[33, 61]⟩] 9)).heap.size 9 #[.string ⟨#[60]⟩, .string ⟨#[60, 61]⟩, .string ⟨#[62]⟩, .string ⟨#[62, 61]⟩] := ((Box.new (((w0.alloc (.cells #[.string ⟨#[124, 124]⟩] 9)).alloc (.cells #[.string ⟨#[38, 38]⟩] 9)).alloc (.cells #[.string ⟨#[61, 61]⟩, .string ⟨#[33, 61]⟩] 9)) 9 #[.string ⟨#[60]⟩, .string ⟨#[60, 61]⟩, .string ⟨#[62]⟩, .string ⟨#[62, 61]⟩]).alloc _).alloc _
  have e : (((w0.alloc (.cells #[.string ⟨#[124, 124]⟩] 9)).alloc (.cells #[.string ⟨#[38, 38]⟩] 9)).alloc (.cells #[.string ⟨#[61, 61]⟩, .string ⟨#[33, 61]⟩] 9)).heap.size = w.heap.size + 4 := by simp [hz0]
  rw [e] at h
  exact h
 have b5 : Box ((((((w0.alloc (.cells #[.string ⟨#[124, 124]⟩] 9)).alloc (.cells #[.string ⟨#[38, 38]⟩] 9)).alloc (.cells #[.string ⟨#[61, 61]⟩, .string ⟨#[33, 61]⟩] 9)).alloc (.cells #[.string ⟨#[60]⟩, .string ⟨#[60, 61]⟩, .string ⟨#[62]⟩, .string ⟨#[62, 61]⟩] 9)).alloc (.cells #[.string ⟨#[43]⟩, .string ⟨#[45]⟩] 9)).alloc (.cells #[.string ⟨#[42]⟩, .string ⟨#[47]⟩, .string ⟨#[37]⟩] 9)) (w.heap.size + 5) 9 #[.string ⟨#[43]⟩, .string ⟨#[45]⟩] := by
  have h : Box ((((((w0.alloc (.cells #[.string ⟨#[124, 124]⟩] 9)).alloc (.cells #[.string ⟨#[38, 38]⟩] 9)).alloc (.cells #[.string ⟨#[61, 61]⟩, .string ⟨#[33, 61]⟩] 9)).alloc (.cells #[.string ⟨#[60]⟩, .string ⟨#[60, 61]⟩, .string ⟨#[62]⟩, .string ⟨#[62, 61]⟩] 9)).alloc (.cells #[.string ⟨#[43]⟩, .string ⟨#[45]⟩] 9)).alloc (.cells #[.string ⟨#[42]⟩, .string ⟨#[47]⟩, .string ⟨#[37]⟩] 9)) ((((w0.alloc (.cells #[.string ⟨#[124, 124]⟩] 9)).alloc (.cells #[.string ⟨#[38, 38]⟩] 9)).alloc (.cells #[.string ⟨#[61, 61]⟩, .string ⟨#[33, 61]⟩] 9)).alloc (.cells #[.string ⟨#[60]⟩, .string ⟨#[60, 61]⟩, .string ⟨#[62]⟩, .string ⟨#[62, 61]⟩] 9)).heap.size 9 #[.string ⟨#[43]⟩, .string ⟨#[45]⟩] := (Box.new ((((w0.alloc (.cells #[.string ⟨#[124, 124]⟩] 9)).alloc (.cells #[.string ⟨#[38, 38]⟩] 9)).alloc (.cells #[.string ⟨#[61, 61]⟩, .string ⟨#[33, 61]⟩] 9)).alloc (.cells #[.string ⟨#[60]⟩, .string ⟨#[60, 61]⟩, .string ⟨#[62]⟩, .string ⟨#[62, 61]⟩] 9)) 9 #[.string ⟨#[43]⟩, .string ⟨#[45]⟩]).alloc _
  have e : ((((w0.alloc (.cells #[.string ⟨#[124, 124]⟩] 9)).alloc (.cells #[.string ⟨#[38, 38]⟩] 9)).alloc (.cells #[.string ⟨#[61, 61]⟩, .string ⟨#[33, 61]⟩] 9)).alloc (.cells #[.string ⟨#[60]⟩, .string ⟨#[60, 61]⟩, .string ⟨#[62]⟩, .string ⟨#[62, 61]⟩] 9)).heap.size = w.heap.size + 5 := by simp [hz0]
  rw [e] at h
  exact h
 have b6 : Box ((((((w0.alloc (.cells #[.string ⟨#[124, 124]⟩] 9)).alloc (.cells #[.string ⟨#[38, 38]⟩] 9)).alloc (.cells #[.string ⟨#[61, 61]⟩, .string ⟨#[33, 61]⟩] 9)).alloc (.cells #[.string ⟨#[60]⟩, .string ⟨#[60, 61]⟩, .string ⟨#[62]⟩, .string ⟨#[62, 61]⟩] 9)).alloc (.cells #[.string ⟨#[43]⟩, .string ⟨#[45]⟩] 9)).alloc (.cells #[.string ⟨#[42]⟩, .string ⟨#[47]⟩, .string ⟨#[37]⟩] 9)) (w.heap.size + 6) 9 #[.string ⟨#[42]⟩, .string ⟨#[47]⟩, .string ⟨#[37]⟩] := by
  have h : Box ((((((w0.alloc (.cells #[.string ⟨#[124, 124]⟩] 9)).alloc (.cells #[.string ⟨#[38, 38]⟩] 9)).alloc (.cells #[.string ⟨#[61, 61]⟩, .string ⟨#[33, 61]⟩] 9)).alloc (.cells #[.string ⟨#[60]⟩, .string ⟨#[60, 61]⟩, .string ⟨#[62]⟩, .string ⟨#[62, 61]⟩] 9)).alloc (.cells #[.string ⟨#[43]⟩, .string ⟨#[45]⟩] 9)).alloc (.cells #[.string ⟨#[42]⟩, .string ⟨#[47]⟩, .string ⟨#[37]⟩] 9)) (((((w0.alloc (.cells #[.string ⟨#[124, 124]⟩] 9)).alloc (.cells #[.string ⟨#[38, 38]⟩] 9)).alloc (.cells #[.string ⟨#[61, 61]⟩, .string ⟨#[33, 61]⟩] 9)).alloc (.cells #[.string ⟨#[60]⟩, .string ⟨#[60, 61]⟩, .string ⟨#[62]⟩, .string ⟨#[62, 61]⟩] 9)).alloc (.cells #[.string ⟨#[43]⟩, .string ⟨#[45]⟩] 9)).heap.size 9 #[.string ⟨#[42]⟩, .string ⟨#[47]⟩, .string ⟨#[37]⟩] := Box.new (((((w0.alloc (.cells #[.string ⟨#[124, 124]⟩] 9)).alloc (.cells #[.string ⟨#[38, 38]⟩] 9)).alloc (.cells #[.string ⟨#[61, 61]⟩, .string ⟨#[33, 61]⟩] 9)).alloc (.cells #[.string ⟨#[60]⟩, .string ⟨#[60, 61]⟩, .string ⟨#[62]⟩, .string ⟨#[62, 61]⟩] 9)).alloc (.cells #[.string ⟨#[43]⟩, .string ⟨#[45]⟩] 9)) 9 #[.string ⟨#[42]⟩, .string ⟨#[47]⟩, .string ⟨#[37]⟩]
  have e : (((((w0.alloc (.cells #[.string ⟨#[124, 124]⟩] 9)).alloc (.cells #[.string ⟨#[38, 38]⟩] 9)).alloc (.cells #[.string ⟨#[61, 61]⟩, .string ⟨#[33, 61]⟩] 9)).alloc (.cells #[.string ⟨#[60]⟩, .string ⟨#[60, 61]⟩, .string ⟨#[62]⟩, .string ⟨#[62, 61]⟩] 9)).alloc (.cells #[.string ⟨#[43]⟩, .string ⟨#[45]⟩] 9)).heap.size = w.heap.size + 6 := by simp [hz0]
  rw [e] at h
  exact h
 have rb : Box ((((((w0.alloc (.cells #[.string ⟨#[124, 124]⟩] 9)).alloc (.cells #[.string ⟨#[38, 38]⟩] 9)).alloc (.cells #[.string ⟨#[61, 61]⟩, .string ⟨#[33, 61]⟩] 9)).alloc (.cells #[.string ⟨#[60]⟩, .string ⟨#[60, 61]⟩, .string ⟨#[62]⟩, .string ⟨#[62, 61]⟩] 9)).alloc (.cells #[.string ⟨#[43]⟩, .string ⟨#[45]⟩] 9)).alloc (.cells #[.string ⟨#[42]⟩, .string ⟨#[47]⟩, .string ⟨#[37]⟩] 9)) w.heap.size 123 _ := ((((((r0.alloc _).alloc _).alloc _).alloc _).alloc _).alloc _)
 have hB : Below w.heap.size w ((((((w0.alloc (.cells #[.string ⟨#[124, 124]⟩] 9)).alloc (.cells #[.string ⟨#[38, 38]⟩] 9)).alloc (.cells #[.string ⟨#[61, 61]⟩, .string ⟨#[33, 61]⟩] 9)).alloc (.cells #[.string ⟨#[60]⟩, .string ⟨#[60, 61]⟩, .string ⟨#[62]⟩, .string ⟨#[62, 61]⟩] 9)).alloc (.cells #[.string ⟨#[43]⟩, .string ⟨#[45]⟩] 9)).alloc (.cells #[.string ⟨#[42]⟩, .string ⟨#[47]⟩, .string ⟨#[37]⟩] 9)) := ((((((hU.alloc (by omega) _).alloc (by simp; omega) _).alloc (by simp; omega) _).alloc (by simp; omega) _).alloc (by simp; omega) _).alloc (by simp; omega) _)
 have B1 := hid b1
 have B2 := hid b2
 have B3 := hid b3
 have B4 := hid b4
 have B5 := hid b5
 have B6 := hid b6
 have RB := hid rb
 have HB := hid hB
 clear b1 b2 b3 b4 b5 b6 rb hB r0 hU
 have hz1 : w0.heap.size + 1 = w.heap.size + 1 + 1 := by omega
 go_wp2_with (refine wpList_store_box rfl 123 (.tmp 0) (.tmp 7) rfl w.heap.size #[.slice (some ⟨w.heap.size + 1, 0, none⟩) 1 1, .slice (some ⟨w.heap.size + 2, 0, none⟩) 1 1, .slice (some ⟨w.heap.size + 3, 0, none⟩) 2 2, .slice (some ⟨w.heap.size + 4, 0, none⟩) 4 4, .slice (some ⟨w.heap.size + 5, 0, none⟩) 2 2, .slice (some ⟨w.heap.size + 6, 0, none⟩) 3 3] rfl (by simp [Act.eval, hz0]) 123 _ RB.out info_rks rfl (by simp [Value.oneCell']) ?_; intro wz hxz huz hzz; have HZZ := hid hzz; clear hzz)
 refine bodyPost_ret (results_box rfl _ _ w.heap.size 123 _ _ rfl hxz Tryz.underlying123 rfl info_rks) rfl ?_
 have hzz := HZZ.out
 have hs0 := HB.out.size
 refine ⟨_, rfl, HB.out.trans (huz.own (Nat.le_refl _) hs0), fun r hr => ?_⟩
 have h6 : r = 0 ∨ r = 1 ∨ r = 2 ∨ r = 3 ∨ r = 4 ∨ r = 5 := by omega
 rcases h6 with rfl | rfl | rfl | rfl | rfl | rfl
 ·refine ⟨w.heap.size + 1, by omega, by have := B1.out.lt; omega, fun q => by kernel_rfl, fun j v hv => ?_⟩
  rw [World.cell?_of_block (huz.block _ (by have := B1.out.lt; exact this) (fun e => by injection e with e; exact absurd e (by show ¬ (w.heap.size + 1 = w.heap.size); omega))), Nat.zero_add, B1.out.cell]
  simpa [Pars.ranks, byt] using hv
 ·refine ⟨w.heap.size + 2, by omega, by have := B2.out.lt; omega, fun q => by kernel_rfl, fun j v hv => ?_⟩
  rw [World.cell?_of_block (huz.block _ (by have := B2.out.lt; exact this) (fun e => by injection e with e; exact absurd e (by show ¬ (w.heap.size + 2 = w.heap.size); omega))), Nat.zero_add, B2.out.cell]
  simpa [Pars.ranks, byt] using hv
 ·refine ⟨w.heap.size + 3, by omega, by have := B3.out.lt; omega, fun q => by kernel_rfl, fun j v hv => ?_⟩
  rw [World.cell?_of_block (huz.block _ (by have := B3.out.lt; exact this) (fun e => by injection e with e; exact absurd e (by show ¬ (w.heap.size + 3 = w.heap.size); omega))), Nat.zero_add, B3.out.cell]
  simpa [Pars.ranks, byt] using hv
 ·refine ⟨w.heap.size + 4, by omega, by have := B4.out.lt; omega, fun q => by kernel_rfl, fun j v hv => ?_⟩
  rw [World.cell?_of_block (huz.block _ (by have := B4.out.lt; exact this) (fun e => by injection e with e; exact absurd e (by show ¬ (w.heap.size + 4 = w.heap.size); omega))), Nat.zero_add, B4.out.cell]
  simpa [Pars.ranks, byt] using hv
 ·refine ⟨w.heap.size + 5, by omega, by have := B5.out.lt; omega, fun q => by kernel_rfl, fun j v hv => ?_⟩
  rw [World.cell?_of_block (huz.block _ (by have := B5.out.lt; exact this) (fun e => by injection e with e; exact absurd e (by show ¬ (w.heap.size + 5 = w.heap.size); omega))), Nat.zero_add, B5.out.cell]
  simpa [Pars.ranks, byt] using hv
 ·refine ⟨w.heap.size + 6, by omega, by have := B6.out.lt; omega, fun q => by kernel_rfl, fun j v hv => ?_⟩
  rw [World.cell?_of_block (huz.block _ (by have := B6.out.lt; exact this) (fun e => by injection e with e; exact absurd e (by show ¬ (w.heap.size + 6 = w.heap.size); omega))), Nat.zero_add, B6.out.cell]
  simpa [Pars.ranks, byt] using hv
set_option maxRecDepth 100000 in
set_option maxHeartbeats 4000000 in
theorem joined_any (s : List UInt8) (xa xb : Pars.Node) (ca cb : Array Value) (w : World) (S : Nat → Prop) (ha : NodeAt w S xa ca) (hb : NodeAt w S xb cb) :
  Calls Tryz.prog 98 #[.string (byt s), .agg ca, .agg cb] w fun e w' => ∃ cs, e = .returned (.agg cs) ∧ NodeAt w' (fun g => S g ∨ w.heap.size ≤ g) (Pars.joined s xa xb) cs ∧ Below w.heap.size w w' := by
 obtain ⟨va, hla, hva⟩ := NodeAt.lit ha
 obtain ⟨vb, hlb, hvb⟩ := NodeAt.lit hb
 rw [hla] at ha ⊢
 rw [hlb] at hb ⊢
 clear hla hlb
 have HA := hid ha
 have HB := hid hb
 have HVA := hid hva
 have HVB := hid hvb
 clear ha hb hva hvb
 obtain ⟨TX, hTX⟩ : ∃ q, byt s = q := ⟨_, rfl⟩
 have HTX := hid hTX
 rw [hTX]
 clear hTX
 go_enter Tryz.func98, Tryz.ntmps98
 go_upto_region 1 with fail
 refine gen_world (F := fun W => Box W w.heap.size 24 #[.int .i64 xa.kind, .int .i64 xa.num, .string (byt xa.text), va] ∧ Box W (w.heap.size + 1) 24 #[.int .i64 xb.kind, .int .i64 xb.num, .string (byt xb.text), vb] ∧ Box W (w.heap.size + 2) 24 #[.int .i64 0, .int .i64 0, .string ⟨#[]⟩, .slice none 0 0] ∧ Below w.heap.size w W ∧ W.heap.size = w.heap.size + 3) ⟨((Box.new w _ _).alloc _).alloc _, (new2 w _ _ _).alloc _, new3 w _ _ _ _, ((below1 w _).alloc (by simp) _).alloc (by simp; omega) _, by simp⟩ ?_
 rintro W0 ⟨ba, bb, rb, hU, hz0⟩
 obtain ⟨aa, haa⟩ : ∃ q, w.heap.size = q := ⟨_, rfl⟩
 have HAA := hid haa
 rw [haa] at ba bb rb hz0 ⊢
 clear haa
 have RB := hid rb
 have HU := hid hU
 have hlt := rb.lt
 have HZ0 := hid hz0
 clear hz0
 have BA := hid ba
 have BB := hid bb
 clear rb hU ba bb
 have ba := BA.out
 have bb := BB.out
 have RBB := RB.out.alloc (.cells #[.int .i64 xa.kind, .int .i64 xa.num, .string (byt xa.text), va, .int .i64 xb.kind, .int .i64 xb.num, .string (byt xb.text), vb] 24)
 have hne0 : aa + 1 + 1 ≠ W0.heap.size := by omega
 by_cases y1 : TX = ⟨#[124, 124]⟩
 ·subst y1
  go_wp2_with (first | (refine wpList_load_row rfl 24 (.tmp 4) rfl aa rfl _ #[.int .i64 xa.kind, .int .i64 xa.num, .string (byt xa.text), va] (0, 0) _ ba Tryz.underlying24 rfl info_nod ?_) | (refine wpList_load_row rfl 24 (.tmp 5) rfl (aa + 1) rfl _ #[.int .i64 xb.kind, .int .i64 xb.num, .string (byt xb.text), vb] (0, 0) _ bb Tryz.underlying24 rfl info_nod ?_) | (refine wpList_store_box rfl 24 (.tmp 6) (.tmp 13) rfl (aa + 1 + 1) #[.int .i64 17, .int .i64 0, .string ⟨#[]⟩, .slice (some ⟨W0.heap.size, 0, none⟩) 2 2] rfl rfl 24 _ RBB info_nod rfl (nz_one _ _ _ _ _ _) ?_; intro wz hxz huz hzz; have HZZ := hid hzz; clear hzz))
  refine bodyPost_ret (results_box rfl _ _ (aa + 1 + 1) 24 _ _ rfl hxz Tryz.underlying24 rfl info_nod) rfl ?_
  have bx := Box.grown (Box.new W0 24 #[.int .i64 xa.kind, .int .i64 xa.num, .string (byt xa.text), va, .int .i64 xb.kind, .int .i64 xb.num, .string (byt xb.text), vb]) huz (by intro h; injection h with h; omega)
  have haa := HAA.out
  have hz0 := HZ0.out
  have hU := HU.out
  have hb1 : Below W0.heap.size W0 _ := below1 W0 (.cells #[.int .i64 xa.kind, .int .i64 xa.num, .string (byt xa.text), va, .int .i64 xb.kind, .int .i64 xb.num, .string (byt xb.text), vb] 24)
  have hbz : Below w.heap.size w wz := (hU.trans (hb1.mono hU.size)).trans (huz.own (by omega) (by have := hb1.size; have := hU.size; omega))
  refine ⟨#[.int .i64 17, .int .i64 0, .string ⟨#[]⟩, .slice (some ⟨W0.heap.size, 0, none⟩) 2 2], rfl, ?_, hbz⟩
  have e : Pars.joined s xa xb = .mk 17 0 [] [xa, xb] := by have := byt_inj (HTX.out.trans (show (⟨#[124, 124]⟩ : ByteArray) = byt [124, 124] from rfl)); subst this; rfl
  rw [e]
  exact NodeAt.build (css := [#[.int .i64 xa.kind, .int .i64 xa.num, .string (byt xa.text), va], #[.int .i64 xb.kind, .int .i64 xb.num, .string (byt xb.text), vb]]) 17 0 [] bx (.inr (by have := hU.size; omega)) ⟨NodeAt.keep (fun g h _ => .inl h) hbz.size (fun g _ hg => hbz.block g hg) HA.out, NodeAt.keep (fun g h _ => .inl h) hbz.size (fun g _ hg => hbz.block g hg) HB.out, trivial⟩
 obtain ⟨q1, q2, q3⟩ := same_no y1
 have q4 := of_decide_eq_false q2
 have q5 : (TX.toList == [124, 124]) = false := by
  have e : (⟨#[124, 124]⟩ : ByteArray).toList = [124, 124] := by simp [ByteArray.toList_eq]
  rw [e] at q1
  exact q1
 have z1 : s ≠ [124, 124] := fun e => y1 (by rw [← HTX.out, e]; rfl)
 by_cases y2 : TX = ⟨#[38, 38]⟩
 ·subst y2
  go_wp2_with (first | (refine wpList_load_row rfl 24 (.tmp 4) rfl aa rfl _ #[.int .i64 xa.kind, .int .i64 xa.num, .string (byt xa.text), va] (0, 0) _ ba Tryz.underlying24 rfl info_nod ?_) | (refine wpList_load_row rfl 24 (.tmp 5) rfl (aa + 1) rfl _ #[.int .i64 xb.kind, .int .i64 xb.num, .string (byt xb.text), vb] (0, 0) _ bb Tryz.underlying24 rfl info_nod ?_) | (refine wpList_store_box rfl 24 (.tmp 6) (.tmp 19) rfl (aa + 1 + 1) #[.int .i64 16, .int .i64 0, .string ⟨#[]⟩, .slice (some ⟨W0.heap.size, 0, none⟩) 2 2] rfl rfl 24 _ RBB info_nod rfl (nz_one _ _ _ _ _ _) ?_; intro wz hxz huz hzz; have HZZ := hid hzz; clear hzz))
  refine bodyPost_ret (results_box rfl _ _ (aa + 1 + 1) 24 _ _ rfl hxz Tryz.underlying24 rfl info_nod) rfl ?_
  have bx := Box.grown (Box.new W0 24 #[.int .i64 xa.kind, .int .i64 xa.num, .string (byt xa.text), va, .int .i64 xb.kind, .int .i64 xb.num, .string (byt xb.text), vb]) huz (by intro h; injection h with h; omega)
  have haa := HAA.out
  have hz0 := HZ0.out
  have hU := HU.out
  have hb1 : Below W0.heap.size W0 _ := below1 W0 (.cells #[.int .i64 xa.kind, .int .i64 xa.num, .string (byt xa.text), va, .int .i64 xb.kind, .int .i64 xb.num, .string (byt xb.text), vb] 24)
  have hbz : Below w.heap.size w wz := (hU.trans (hb1.mono hU.size)).trans (huz.own (by omega) (by have := hb1.size; have := hU.size; omega))
  refine ⟨#[.int .i64 16, .int .i64 0, .string ⟨#[]⟩, .slice (some ⟨W0.heap.size, 0, none⟩) 2 2], rfl, ?_, hbz⟩
  have e : Pars.joined s xa xb = .mk 16 0 [] [xa, xb] := by have := byt_inj (HTX.out.trans (show (⟨#[38, 38]⟩ : ByteArray) = byt [38, 38] from rfl)); subst this; rfl
  rw [e]
  exact NodeAt.build (css := [#[.int .i64 xa.kind, .int .i64 xa.num, .string (byt xa.text), va], #[.int .i64 xb.kind, .int .i64 xb.num, .string (byt xb.text), vb]]) 16 0 [] bx (.inr (by have := hU.size; omega)) ⟨NodeAt.keep (fun g h _ => .inl h) hbz.size (fun g _ hg => hbz.block g hg) HA.out, NodeAt.keep (fun g h _ => .inl h) hbz.size (fun g _ hg => hbz.block g hg) HB.out, trivial⟩
 obtain ⟨p1, p2, p3⟩ := same_no y2
 have p4 := of_decide_eq_false p2
 have p5 : (TX.toList == [38, 38]) = false := by
  have e : (⟨#[38, 38]⟩ : ByteArray).toList = [38, 38] := by simp [ByteArray.toList_eq]
  rw [e] at p1
  exact p1
 have z2 : s ≠ [38, 38] := fun e => y2 (by rw [← HTX.out, e]; rfl)
 have ZZ := hid (And.intro z1 z2)
 clear z1 z2
 go_wp2_with (first | (refine wpList_load_row rfl 24 (.tmp 4) rfl aa rfl _ #[.int .i64 xa.kind, .int .i64 xa.num, .string (byt xa.text), va] (0, 0) _ ba Tryz.underlying24 rfl info_nod ?_) | (refine wpList_load_row rfl 24 (.tmp 5) rfl (aa + 1) rfl _ #[.int .i64 xb.kind, .int .i64 xb.num, .string (byt xb.text), vb] (0, 0) _ bb Tryz.underlying24 rfl info_nod ?_) | (refine wpList_store_box rfl 24 (.tmp 6) (.tmp 24) rfl (aa + 1 + 1) #[.int .i64 15, .int .i64 0, .string TX, .slice (some ⟨W0.heap.size, 0, none⟩) 2 2] rfl rfl 24 _ RBB info_nod rfl (nz_one _ _ _ _ _ _) ?_; intro wz hxz huz hzz; have HZZ := hid hzz; clear hzz))
 refine bodyPost_ret (results_box rfl _ _ (aa + 1 + 1) 24 _ _ rfl hxz Tryz.underlying24 rfl info_nod) rfl ?_
 have bx := Box.grown (Box.new W0 24 #[.int .i64 xa.kind, .int .i64 xa.num, .string (byt xa.text), va, .int .i64 xb.kind, .int .i64 xb.num, .string (byt xb.text), vb]) huz (by intro h; injection h with h; omega)
 have haa := HAA.out
 have hz0 := HZ0.out
 have hU := HU.out
 have hb1 : Below W0.heap.size W0 _ := below1 W0 (.cells #[.int .i64 xa.kind, .int .i64 xa.num, .string (byt xa.text), va, .int .i64 xb.kind, .int .i64 xb.num, .string (byt xb.text), vb] 24)
 have hbz : Below w.heap.size w wz := (hU.trans (hb1.mono hU.size)).trans (huz.own (by omega) (by have := hb1.size; have := hU.size; omega))
 refine ⟨#[.int .i64 15, .int .i64 0, .string TX, .slice (some ⟨W0.heap.size, 0, none⟩) 2 2], rfl, ?_, hbz⟩
 have e : Pars.joined s xa xb = .mk 15 0 s [xa, xb] := by unfold Pars.joined; rw [if_neg ZZ.out.1, if_neg ZZ.out.2]
 rw [e]
 rw [← HTX.out]
 exact NodeAt.build (css := [#[.int .i64 xa.kind, .int .i64 xa.num, .string (byt xa.text), va], #[.int .i64 xb.kind, .int .i64 xb.num, .string (byt xb.text), vb]]) 15 0 s bx (.inr (by have := hU.size; omega)) ⟨NodeAt.keep (fun g h _ => .inl h) hbz.size (fun g _ hg => hbz.block g hg) HA.out, NodeAt.keep (fun g h _ => .inl h) hbz.size (fun g _ hg => hbz.block g hg) HB.out, trivial⟩
end Go.Proofs.YtonjdlialejedaaGreatDoor
namespace Go.Proofs.YtonjdlialejedaaGreatDoor
open Go.Lib (hid)
open Go.RowKit
theorem ranks_some : ∀ r, r < 6 → ∀ s ∈ Pars.ranks.getD r [], s ≠ [] := by decide
theorem ranks_len : ∀ r, r < 6 → (Pars.ranks.getD r []).length ≤ 4 := by decide
theorem any_append {a b : List Pars.Bs} {l : List Lexy.Tk} (h : Pars.anyOf a l = none) : Pars.anyOf (a ++ b) l = Pars.anyOf b l := by
 induction a with
 | nil => rfl
 | cons s a ih =>
  simp only [List.cons_append, Pars.anyOf] at h ⊢
  cases hi : Pars.is s l with
  | some r => rw [hi] at h; cases h
  | none => rw [hi] at h; simp only at h ⊢; exact ih h
theorem any_hit {ss : List Pars.Bs} {j : Nat} {s : Pars.Bs} {l r : List Lexy.Tk} (hj : ss[j]? = some s) (h : Pars.anyOf (ss.take j) l = none) (hi : Pars.is s l = some r) : Pars.anyOf ss l = some (s, r) := by
 have hlt := (List.getElem?_eq_some_iff.1 hj).1
 have e : ss = ss.take j ++ s :: ss.drop (j + 1) := by
  rw [← (List.getElem?_eq_some_iff.1 hj).2, ← List.drop_eq_getElem_cons hlt, List.take_append_drop]
 rw [e, any_append h]
 simp only [Pars.anyOf, hi]
theorem any_miss {a : List Pars.Bs} {s : Pars.Bs} {l : List Lexy.Tk} (h : Pars.anyOf a l = none) (hi : Pars.is s l = none) : Pars.anyOf (a ++ [s]) l = none := by
 rw [any_append h]
 simp only [Pars.anyOf, hi]
theorem signs_yes {ss : List Pars.Bs} {s : Pars.Bs} {l r : List Lexy.Tk} {f : Pars.Bs → List Lexy.Tk → Pars.R} {g : Pars.R} (h : Pars.anyOf ss l = some (s, r)) : Pars.signs ss l f g = f s r := by simp only [Pars.signs, h]
theorem signs_no {ss : List Pars.Bs} {l : List Lexy.Tk} {f : Pars.Bs → List Lexy.Tk → Pars.R} {g : Pars.R} (h : Pars.anyOf ss l = none) : Pars.signs ss l f g = g := by simp only [Pars.signs, h]
set_option maxRecDepth 100000 in
set_option maxHeartbeats 4000000 in
theorem bin_step {n : Nat} (hall : ∀ m, m ≤ n → All m) : ∀ (r : Nat), r ≤ 6 → ∀ {w : World} {b : Nat} {ts : List KT} {A : Option Addr} {c k : Nat} {fn lp : Bool}, PSt w b ts A c k fn lp → 20 * (ts.length - k) + (10 - r) < n + 1 → Calls Tryz.prog 92 #[.pointer (some ⟨b, 0, none⟩), .int .i64 (r : Int)] w (Got w b ts A c k fn lp (Pars.run (n + 1) (.binary r) fn lp (left ts k))) := by
 have h := hall n (Nat.le_refl _)
 intro r hr6 w b ts A c k fn lp hP hm
 have HR : Hid (Pars.run (n + 1) (.binary r) fn lp (left ts k) = _) := hid (by rw [Pars.run])
 have hbl := hP.box.lt
 have hle := hP.kle
 go_enter Tryz.func92, Tryz.ntmps92
 go_upto_region 1 with fail
 refine gen_world (F := fun W => Box W w.heap.size 24 #[.int .i64 0, .int .i64 0, .string ⟨#[]⟩, .slice none 0 0] ∧ Below w.heap.size w W) ⟨Box.new w _ _, below1 w _⟩ ?_
 rintro W0 ⟨r0, hU⟩
 obtain ⟨i0, hi0, hi1, hi2, hi3⟩ := info_parts parts_nod
 have hlen := hP.len
 obtain ⟨rb, hpbe⟩ : ∃ q, w.heap.size = q := ⟨_, rfl⟩
 obtain ⟨B, hBe⟩ : ∃ q, W0.heap.size = q := ⟨_, rfl⟩
 have hrb : rb ≠ b := by omega
 have hrB : rb < B := by have := r0.lt; omega
 have hbB : b < B := by omega
 have hwB : w.heap.size ≤ B := by omega
 have HPB := hid hpbe
 have HBE := hid hBe
 rw [hpbe] at r0 ⊢
 clear hpbe
 have RB := hid r0
 have HP := hid (hP.below hU)
 have HA : Hid (0 < ts.length → ∀ g o, A = some ⟨g, o, none⟩ → g < B) := hid (hBe ▸ HP.out.old)
 have HW : Hid (Upd w W0 b) := hid (Upd.below hU b)
 have HU : Hid (UpdB B W0 W0 b) := hid (UpdB.refl _ _ _)
 have hBw : B ≤ W0.heap.size := Nat.le_of_eq hBe.symm
 clear r0 hU hP hBe
 go_wp2_with fail
 refine (ranks_any _).mono ?_
 rintro e w1 ⟨vs, rfl, hb, -⟩
 replace RB := bl RB hb
 replace HP := hid (HP.out.below hb)
 replace HU := hid (HU.out.trans (UpdB.of_below hb hBw))
 replace hBw := Nat.le_trans hBw hb.size
 clear hb
 by_cases y6 : r = 6
 ·subst y6
  replace HR := hid (HR.out.trans (if_pos rfl))
  go_wp2_with fail
  refine (h.un HP.out (by omega)).mono ?_
  rintro e w2 (⟨x1, k1, cs1, hr, hk1, hk2, rfl, hn, hx, hu⟩ | ⟨hr, rfl, hu⟩)
  rotate_left
  ·exact ⟨rfl, .inr ⟨HR.out.trans (hr), rfl, HW.out.updB (HU.out.trans (UpdB.of_upd hu hBw)) hwB⟩⟩
  replace HR := hid (HR.out.trans hr)
  have HN1 : Hid (NodeAt w2 (fun g => B ≤ g) x1 cs1) := hid (hn.weak (fun g hg => by omega))
  have hub := UpdB.of_upd hu hBw
  replace RB := bg RB hu
  replace HP := hid (HP.out.upd hx hu (by omega))
  replace HU := hid (HU.out.trans hub)
  replace hBw := Nat.le_trans hBw hu.size
  clear hub
  clear hr hn hx hu
  obtain ⟨v1, hlit, hvo⟩ := NodeAt.lit HN1.out
  rw [hlit] at HN1 ⊢
  have HVO1 := hid hvo
  clear hlit hvo
  have hleX := HP.out.kle
  go_wp2_with (refine wpList_store_box rfl 24 (.tmp 4) (.tmp 14) rfl rb #[.int .i64 x1.kind, .int .i64 x1.num, .string (byt x1.text), v1] rfl rfl 24 _ RB.out info_nod rfl (nc_one _ _ _ HVO1.out) ?_; intro wz hxz huz hzz; have HZZ := hid hzz; clear hzz)
  refine bodyPost_ret (results_box rfl _ _ rb 24 _ _ rfl hxz Tryz.underlying24 rfl info_nod) rfl ?_
  exact .inl ⟨x1, k1, _, HR.out, by omega, HP.out.kle, rfl, (HN1.out.upd huz (fun g hg => by have : B ≤ g := hg; omega)).weak (fun g hg => by have : B ≤ g := hg; omega), Box.grown HP.out.box huz (by intro h; injection h with h; omega), Upd.fresh (HW.out.updB HU.out hwB) huz (by have := HPB.out; omega)⟩
 replace HR := hid (HR.out.trans (if_neg y6))
 have d1 : ((r : Int) == 6) = false := by rw [beq_eq_false_iff_ne]; omega
 have d2 : ¬ (r : Int) = 6 := by omega
 have hr5 : r < 6 := by omega
 have wk : IntKind.i64.wrap ((r : Int) + 1) = (r : Int) + 1 := by rw [IntKind.wrap_i64]; omega
 have hbin : ∀ (m : Nat), m ≤ n → ∀ {w : World} {b : Nat} {ts : List KT} {A : Option Addr} {c k : Nat} {fn lp : Bool}, PSt w b ts A c k fn lp → 20 * (ts.length - k) + (10 - (r + 1)) < m → Calls Tryz.prog 92 #[.pointer (some ⟨b, 0, none⟩), .int .i64 ((r : Int) + 1)] w (Got w b ts A c k fn lp (Pars.run m (.binary (r + 1)) fn lp (left ts k))) := fun m hm => (hall m hm).bin (r + 1) (by omega)
 have HBIN := hid hbin
 clear hbin
 go_wp2_with fail
 refine (HBIN.out n (Nat.le_refl n) HP.out (by omega)).mono ?_
 rintro e w2 (⟨x1, k1, cs1, hr, hk1, hk2, rfl, hn, hx, hu⟩ | ⟨hr, rfl, hu⟩)
 rotate_left
 ·exact ⟨rfl, .inr ⟨HR.out.trans (Pars.and_no hr), rfl, HW.out.updB (HU.out.trans (UpdB.of_upd hu hBw)) hwB⟩⟩
 have hlt1 := got_lt hr rfl
 replace HR := hid (HR.out.trans (Pars.and_some hr))
 have HN1 : Hid (NodeAt w2 (fun g => B ≤ g) x1 cs1) := hid (hn.weak (fun g hg => by omega))
 have hub := UpdB.of_upd hu hBw
 replace RB := bg RB hu
 replace HP := hid (HP.out.upd hx hu (by omega))
 replace HU := hid (HU.out.trans hub)
 replace hBw := Nat.le_trans hBw hu.size
 clear hub
 clear hr hn hx hu
 obtain ⟨v1, hlit, hvo⟩ := NodeAt.lit HN1.out
 rw [hlit] at HN1 ⊢
 have HVO1 := hid hvo
 clear hlit hvo
 have hleX := HP.out.kle
 go_wp2_with (refine wpList_store_box rfl 24 (.tmp 5) (.tmp 18) rfl w2.heap.size #[.int .i64 x1.kind, .int .i64 x1.num, .string (byt x1.text), v1] rfl rfl 24 _ (Box.new w2 _ _) info_nod rfl (nc_one _ _ _ HVO1.out) ?_; intro w3 hx hv hz; have HZO := hid hz; clear hz)
 have hb : Below w2.heap.size w2 w3 := ((Below.refl _ w2).alloc (Nat.le_refl _) _).trans (hv.own (Nat.le_refl _) (by simp))
 have EB := hid hx
 have hoB : B ≤ w2.heap.size := hBw
 have HNE : Hid (NodeAt w3 (fun g => B ≤ g ∧ g ≠ w2.heap.size) x1 #[.int .i64 x1.kind, .int .i64 x1.num, .string (byt x1.text), v1]) := hid (NodeAt.keep (fun g hs hg => ⟨hs, by omega⟩) hb.size (fun g _ hg => hb.block g hg) HN1.out)
 replace RB := bl RB hb
 replace HP := hid (HP.out.below hb)
 replace HU := hid (HU.out.trans (UpdB.of_below hb hBw))
 replace hBw := Nat.le_trans hBw hb.size
 clear hx hv hb HZO HN1
 obtain ⟨eb, heb⟩ : ∃ eb, w2.heap.size = eb := ⟨_, rfl⟩
 rw [heb] at EB HNE hoB ⊢
 clear heb
 (try simp only [Act.put])
 obtain ⟨ss, hss⟩ : ∃ q, Pars.ranks.getD r [] = q := ⟨_, rfl⟩
 have HSS := hid hss
 have HSN : Hid (∀ s ∈ ss, s ≠ []) := hid (by rw [← hss]; exact ranks_some r hr5)
 have hsl : ss.length ≤ 4 := by rw [← hss]; exact ranks_len r hr5
 go_loopg [6] (ts.length) (fun gg s6 wr => ∃ (k' m : Nat) (xe : Pars.Node) (cse : Array Value), ts.length - k' ≤ gg ∧ k < k' ∧ k' ≤ ts.length ∧ m ≤ n ∧ 20 * (ts.length - k') + 15 < m ∧ B ≤ wr.heap.size ∧ Hid (Box wr rb 24 #[.int .i64 0, .int .i64 0, .string ⟨#[]⟩, .slice none 0 0]) ∧ Hid (Box wr eb 24 cse) ∧ Hid (NodeAt wr (fun g => B ≤ g ∧ g ≠ eb) xe cse) ∧ Hid (PSt wr b ts A c k' fn lp) ∧ Hid (UpdB B W0 wr b) ∧ Hid (Pars.run (n + 1) (.binary r) fn lp (left ts k) = Pars.run m (.binGo r xe) fn lp (left ts k')))
 case atStart => exact ⟨k1, n, x1, _, by omega, by omega, hleX, Nat.le_refl _, by omega, hBw, RB, EB, HNE, HP, HU, HR⟩
 case round =>
  clear RB EB HNE HP HU HR hBw
  obtain ⟨k', m, xe, cse, hg2, hkk, hkl, hmn, hmm, hBw, RB, EB, HNE, HP, HU, HRR⟩ := hrel
  obtain ⟨m', rfl⟩ : ∃ m', m = m' + 1 := ⟨m - 1, by omega⟩
  have HR : Hid (Pars.run (n + 1) (.binary r) fn lp (left ts k) = _) := hid (HRR.out.trans (show _ = _ by rw [Pars.run, HSS.out]))
  clear HRR
  go_wp2_with fail
  refine (ranks_any _).mono ?_
  rintro e w4 ⟨vs, rfl, hb, hix⟩
  obtain ⟨gq, hgq, hgl, hix2, hrg⟩ := hix r hr5
  have hgb : b < gq := by omega
  replace HNE := hid (HNE.out.below hb)
  replace RB := bl RB hb
  replace EB := bl EB hb
  replace HP := hid (HP.out.below hb)
  replace HU := hid (HU.out.trans (UpdB.of_below hb hBw))
  replace hBw := Nat.le_trans hBw hb.size
  clear hb
  rw [HSS.out] at hix2 hrg
  have GR := hid hrg
  clear hix hrg hgq
  go_wp2
  clear hix2
  go_loopg [6, 23] (ss.length) (fun gg s6 s23 wi => ∃ (j : Nat) (sg : List UInt8), j ≤ ss.length ∧ ss.length - j ≤ gg ∧ s23 = .int .i64 (j : Int) ∧ s6 = .string (byt sg) ∧ B ≤ wi.heap.size ∧ Hid (wi.rangeAt gq 0 (ss.map fun s => .string (byt s))) ∧ gq < wi.heap.size ∧ Hid (Box wi rb 24 #[.int .i64 0, .int .i64 0, .string ⟨#[]⟩, .slice none 0 0]) ∧ Hid (Box wi eb 24 cse) ∧ Hid (NodeAt wi (fun g => B ≤ g ∧ g ≠ eb) xe cse) ∧ Hid (UpdB B W0 wi b) ∧ ((sg = [] ∧ Hid (Pars.anyOf (ss.take j) (left ts k') = none) ∧ Hid (PSt wi b ts A c k' fn lp)) ∨ (sg ≠ [] ∧ k' < ts.length ∧ Hid (Pars.anyOf ss (left ts k') = some (sg, left ts (k' + 1))) ∧ Hid (PSt wi b ts A c (k' + 1) fn lp))))
  case atStart => exact ⟨0, [], Nat.zero_le _, by omega, rfl, rfl, hBw, GR, hgl, RB, EB, HNE, HU, .inl ⟨rfl, hid rfl, HP⟩⟩
  case round =>
   obtain ⟨wi, rfl⟩ : ∃ wi : World, wi = wr := ⟨_, rfl⟩
   clear RB EB HNE HP HU hBw GR hgl
   obtain ⟨j, sg, hj, hgj, rfl, rfl, hBw, GR, hgl, RB, EB, HNE, HU, HC⟩ := hrel
   by_cases hlt : j < ss.length
   ·have hltz : (j : Int) < (ss.length : Int) := by omega
    have hltd : decide ((j : Int) < (ss.length : Int)) = true := decide_eq_true hltz
    have wj : IntKind.i64.wrap ((j : Int) + 1) = (j : Int) + 1 := by rw [IntKind.wrap_i64]; omega
    obtain ⟨sj, hsj⟩ : ∃ q, ss[j]? = some q := ⟨_, List.getElem?_eq_getElem hlt⟩
    have hcj : wi.cell? ⟨gq, 0 + j, none⟩ = some (.string (byt sj)) := GR.out j _ (by simp [hsj])
    rw [Nat.zero_add] at hcj
    have HSJ := hid hsj
    have hsjn : sj ≠ [] := HSN.out sj (List.mem_of_getElem? hsj)
    have htk : Hid (ss.take (j + 1) = ss.take j ++ [sj]) := hid (by rw [List.take_add_one, hsj]; rfl)
    clear hsj
    rcases HC with HC | HC
    ·obtain ⟨rfl, HNO, HP⟩ := HC
     have hkle := HP.out.kle
     have e0 : (byt []).toList.isEmpty = true := by rw [byt_list]; rfl
     go_wp2_with fail
     refine (is_any sj _ b ts A c k' fn lp HP.out).mono ?_
     rintro e w5 (⟨hi, hk, rfl, hx, hu⟩ | ⟨hi, rfl, hx, hu⟩)
     ·have GR2 : Hid (w5.rangeAt gq 0 (ss.map fun s => .string (byt s))) := hid (fun i u hi => by rw [World.cell?_of_block (hu.block gq hgl (by intro e; injection e with e; omega))]; exact GR.out i u hi)
      have hgl2 := Nat.lt_of_lt_of_le hgl hu.size
      have HI := hid hi
      have hub := UpdB.of_upd hu hBw
      replace HNE := hid (HNE.out.upd hu (fun g hg => by first | omega | (simp only at hg; omega)))
      replace RB := bg RB hu
      replace EB := bg EB hu
      replace HP := hid (HP.out.upd hx hu (by omega))
      replace HU := hid (HU.out.trans hub)
      replace hBw := Nat.le_trans hBw hu.size
      clear hub
      clear hi hx hu GR hgl
      have GR := GR2
      have hgl := hgl2
      go_wp2
      go_roundg (ss.length - (j + 1))
      case measure => omega
      case rel => exact ⟨j + 1, sj, by omega, by omega, rfl, rfl, hBw, GR, hgl, RB, EB, HNE, HU, .inr ⟨hsjn, hk, hid (any_hit HSJ.out HNO.out HI.out), HP⟩⟩
     have GR2 : Hid (w5.rangeAt gq 0 (ss.map fun s => .string (byt s))) := hid (fun i u hi => by rw [World.cell?_of_block (hu.block gq hgl (by intro e; injection e with e; omega))]; exact GR.out i u hi)
     have hgl2 := Nat.lt_of_lt_of_le hgl hu.size
     have HI := hid hi
     have hub := UpdB.of_upd hu hBw
     replace HNE := hid (HNE.out.upd hu (fun g hg => by first | omega | (simp only at hg; omega)))
     replace RB := bg RB hu
     replace EB := bg EB hu
     replace HP := hid (HP.out.upd hx hu (by omega))
     replace HU := hid (HU.out.trans hub)
     replace hBw := Nat.le_trans hBw hu.size
     clear hub
     clear hi hx hu GR hgl
     have GR := GR2
     have hgl := hgl2
     go_wp2
     go_roundg (ss.length - (j + 1))
     case measure => omega
     case rel => exact ⟨j + 1, [], by omega, by omega, rfl, rfl, hBw, GR, hgl, RB, EB, HNE, HU, .inl ⟨rfl, hid (by rw [htk.out]; exact any_miss HNO.out HI.out), HP⟩⟩
    ·obtain ⟨hsn, hkl2, HSO, HP⟩ := HC
     obtain ⟨TX, hTX⟩ : ∃ q, byt sg = q := ⟨_, rfl⟩
     have hne : TX ≠ ⟨#[]⟩ := fun e => hsn (byt_inj (hTX.trans (e.trans (show (⟨#[]⟩ : ByteArray) = byt [] from rfl))))
     have HTX := hid hTX
     rw [hTX]
     clear hTX
     obtain ⟨q1, q2, q3⟩ := same_no hne
     have q4 := of_decide_eq_false q2
     have q5 : (TX.toList == []) = false := by
      have e : (⟨#[]⟩ : ByteArray).toList = [] := by simp [ByteArray.toList_eq]
      rw [e] at q1
      exact q1
     have q6 : TX.toList.isEmpty = false := by
      rw [← HTX.out, byt_list]
      cases sg with
      | nil => exact absurd rfl hsn
      | cons a l => rfl
     go_wp2
     go_roundg (ss.length - (j + 1))
     case measure => omega
     case rel => exact ⟨j + 1, sg, by omega, by omega, rfl, by rw [HTX.out], hBw, GR, hgl, RB, EB, HNE, HU, .inr ⟨hsn, hkl2, HSO, HP⟩⟩
   have hltz : ¬ (j : Int) < (ss.length : Int) := by omega
   have hltd : decide ((j : Int) < (ss.length : Int)) = false := decide_eq_false hltz
   rcases HC with HC | HC
   ·obtain ⟨rfl, HNO, HP⟩ := HC
    have HNA : Hid (Pars.anyOf ss (left ts k') = none) := hid (by have := HNO.out; rwa [List.take_of_length_le (by omega)] at this)
    replace HR := hid (HR.out.trans (signs_no HNA.out))
    obtain ⟨ve, hlit, hvo⟩ := NodeAt.lit HNE.out
    rw [hlit] at HNE EB
    have HVE := hid hvo
    clear hlit hvo
    have hle9 := HP.out.kle
    have ob := EB.out
    have e0 : (byt []).toList.isEmpty = true := by rw [byt_list]; rfl
    go_wp2_with (first | (refine wpList_load_row rfl 24 (.tmp 5) rfl eb rfl _ #[.int .i64 xe.kind, .int .i64 xe.num, .string (byt xe.text), ve] (0, 0) _ ob Tryz.underlying24 rfl info_nod ?_) | (refine wpList_store_box rfl 24 (.tmp 4) (.tmp 38) rfl rb #[.int .i64 xe.kind, .int .i64 xe.num, .string (byt xe.text), ve] rfl rfl 24 _ RB.out info_nod rfl (nc_one _ _ _ HVE.out) ?_; intro wy hxz huz hzz; have HZZ := hid hzz; clear hzz))
    refine bodyPost_ret (results_box rfl _ _ rb 24 _ _ rfl hxz Tryz.underlying24 rfl info_nod) rfl ?_
    exact .inl ⟨xe, k', _, HR.out, by omega, HP.out.kle, rfl, (HNE.out.upd huz (fun g hg => by have := hg.1; omega)).weak (fun g hg => by have := hg.1; omega), Box.grown HP.out.box huz (by intro h; injection h with h; omega), Upd.fresh (HW.out.updB HU.out hwB) huz (by have := HPB.out; omega)⟩
   ·obtain ⟨hsn, hkl2, HSO, HP⟩ := HC
    obtain ⟨TX, hTX⟩ : ∃ q, byt sg = q := ⟨_, rfl⟩
    have hne : TX ≠ ⟨#[]⟩ := fun e => hsn (byt_inj (hTX.trans (e.trans (show (⟨#[]⟩ : ByteArray) = byt [] from rfl))))
    have HTX := hid hTX
    rw [hTX]
    clear hTX
    obtain ⟨q1, q2, q3⟩ := same_no hne
    have q4 := of_decide_eq_false q2
    have q5 : (TX.toList == []) = false := by
     have e : (⟨#[]⟩ : ByteArray).toList = [] := by simp [ByteArray.toList_eq]
     rw [e] at q1
     exact q1
    have q6 : TX.toList.isEmpty = false := by
     rw [← HTX.out, byt_list]
     cases sg with
     | nil => exact absurd rfl hsn
     | cons a l => rfl
    replace HR := hid (HR.out.trans (signs_yes HSO.out))
    obtain ⟨ve, hlit, hvo⟩ := NodeAt.lit HNE.out
    rw [hlit] at HNE EB
    have HVE := hid hvo
    clear hlit hvo GR hgl
    have hle9 := HP.out.kle
    go_upto_region 13 with fail
    refine wp_region_until 7 (fun w' => Box w' eb 24 #[.int .i64 xe.kind, .int .i64 xe.num, .string (byt xe.text), ve]) (by kernel_rfl) EB.out.drew (fun hHeld => ?_)
    obtain ⟨wd, hwd⟩ : ∃ wd, wi.drew = wd := ⟨_, rfl⟩
    have hb : Below wi.heap.size wi wd := hwd ▸ (Below.refl _ wi).drew
    (try rw [hwd] at hHeld)
    (try rw [hwd])
    clear hwd hHeld
    replace HNE := hid (HNE.out.below hb)
    replace RB := bl RB hb
    replace EB := bl EB hb
    replace HP := hid (HP.out.below hb)
    replace HU := hid (HU.out.trans (UpdB.of_below hb hBw))
    replace hBw := Nat.le_trans hBw hb.size
    clear hb
    refine tU (i := 0) (v := ?_) rfl ?_ (.inr EB.out) ?_
    rotate_left
    ·intro w hSw
     go_simp
     try (with_reducible rfl)
    (try simp only [Act.put, sq])
    refine wpAnyU_take (i := 1) (v := .agg #[.int .i64 xe.kind, .int .i64 xe.num, .string (byt xe.text), ve]) rfl (by kernel_rfl) (by kernel_rfl) (by kernel_rfl) (by kernel_rfl) (by kernel_rfl) (fun _ _ _ h => h) (yields_load_box (by kernel_rfl) 24 (.tmp 5) rfl eb 24 #[.int .i64 xe.kind, .int .i64 xe.num, .string (byt xe.text), ve] _ rfl (fun _ h => h) Tryz.underlying24 rfl info_nod) EB.out ?_
    (try simp only [Act.put, sq])
    refine tU (i := 2) (v := ?_) rfl ?_ (.inr EB.out) ?_
    rotate_left
    ·intro w hSw
     go_simp
     try (with_reducible rfl)
    (try simp only [Act.put, sq])
    refine tU (i := 3) (v := ?_) rfl ?_ (.inr EB.out) ?_
    rotate_left
    ·intro w hSw
     go_simp
     try (with_reducible rfl)
    (try simp only [Act.put, sq])
    refine tU (i := 4) (v := ?_) rfl ?_ (.inr EB.out) ?_
    rotate_left
    ·intro w hSw
     go_simp
     try (with_reducible rfl)
    (try simp only [Act.put, sq])
    refine rdU 5 rfl fun K hK => ?_
    go_simp
    refine (HBIN.out m' (by omega) HP.out (by omega)).mono ?_
    rintro e wc (⟨x1, k2, cs1, hr, hk1, hk2, rfl, hn, hx, hu⟩ | ⟨hr, rfl, hu⟩)
    rotate_left
    ·exact ⟨rfl, .inr ⟨HR.out.trans (Pars.and_no hr), rfl, HW.out.updB (HU.out.trans (UpdB.of_upd hu hBw)) hwB⟩⟩
    have hlt2 := got_lt hr rfl
    replace HR := hid (HR.out.trans (Pars.and_some hr))
    have HN1 : Hid (NodeAt wc (fun g => B ≤ g ∧ g ≠ eb) x1 cs1) := hid (hn.weak (fun g hg => ⟨by omega, by have := EB.out.lt; omega⟩))
    have hub := UpdB.of_upd hu hBw
    replace HNE := hid (HNE.out.upd hu (fun g hg => by first | omega | (simp only at hg; omega)))
    replace RB := bg RB hu
    replace EB := bg EB hu
    replace HP := hid (HP.out.upd hx hu (by omega))
    replace HU := hid (HU.out.trans hub)
    replace hBw := Nat.le_trans hBw hu.size
    clear hub
    clear hr hn hx hu
    have hle4 := HP.out.kle
    go_wp2_with fail
    refine hK.out _ _ (.inr EB.out) (fun hHeld => ?_)
    clear hK hHeld K
    (try simp only [Act.put, sq])
    refine rdU 6 rfl fun K hK => ?_
    go_simp
    rw [← HTX.out]
    refine (joined_any sg xe x1 _ cs1 _ _ HNE.out HN1.out).mono ?_
    rintro e wj ⟨cj, rfl, hnj, hb⟩
    have HNJ : Hid (NodeAt wj (fun g => B ≤ g ∧ g ≠ eb) (Pars.joined sg xe x1) cj) := hid (hnj.weak (fun g hg => by rcases hg with hg | hg; exact hg; exact ⟨by omega, by have := EB.out.lt; omega⟩))
    replace RB := bl RB hb
    replace EB := bl EB hb
    replace HP := hid (HP.out.below hb)
    replace HU := hid (HU.out.trans (UpdB.of_below hb hBw))
    replace hBw := Nat.le_trans hBw hb.size
    clear hb hnj HNE HN1
    obtain ⟨vj, hlit, hvo⟩ := NodeAt.lit HNJ.out
    rw [hlit] at HNJ ⊢
    have HVJ := hid hvo
    clear hlit hvo
    go_wp2_with fail
    refine hK.out _ _ (.inr EB.out) (fun hHeld => ?_)
    clear hK hHeld K
    (try simp only [Act.put, sq])
    refine rdU 7 rfl fun K hK => ?_
    refine step_store_box rfl 24 (.tmp 5) (.tmp 45) rfl eb #[.int .i64 (Pars.joined sg xe x1).kind, .int .i64 (Pars.joined sg xe x1).num, .string (byt (Pars.joined sg xe x1).text), vj] rfl rfl 24 _ EB.out info_nod rfl (nc_one _ _ _ HVJ.out) ?_
    intro wz OB9 hu9 hz9
    have HNE := hid (HNJ.out.upd hu9 (fun g hg => hg.2))
    replace EB := hid OB9
    replace RB := bg RB hu9
    have hb9 : Below B wj wz := hu9.own hoB hBw
    replace HP := hid (HP.out.belowB hb9 hbB HA.out)
    replace HU := hid (HU.out.trans (UpdB.of_below hb9 (Nat.le_refl _)))
    replace hBw := Nat.le_trans hBw hb9.size
    refine hK.out _ _ (.inl rfl) (fun hHeld => ?_)
    clear hK hHeld K OB9 hu9 hz9 hb9 HNJ
    refine wpAnyU_done (by kernel_rfl) ?_ _
    go_wp2
    go_roundg (ts.length - (k2))
    case measure => omega
    case rel => exact ⟨k2, m', _, _, by omega, by omega, HP.out.kle, by omega, by omega, hBw, RB, EB, HNE, HP, HU, HR⟩
end Go.Proofs.YtonjdlialejedaaGreatDoor
namespace Go.Proofs.YtonjdlialejedaaGreatDoor
open Go.Lib (hid)
open Go.RowKit
theorem ret_str {a b : ByteArray} (h : a = b) : Ending.returned (.string a) = .returned (.string b) := by rw [h]
theorem ranks_drop : ∀ r, r < 6 → Pars.ranks.drop r = Pars.ranks.getD r [] :: Pars.ranks.drop (r + 1) := by decide
theorem rank_15 (nu : Int) (t : List UInt8) (l : List Pars.Node) : Wri.rank (.mk 15 nu t l) = Wri.rankOf 0 Pars.ranks t := rfl
set_option maxRecDepth 100000 in
set_option maxHeartbeats 4000000 in
theorem rank_any (k nu : Int) (t : List UInt8) (l : List Pars.Node) (A : Option Addr) (n c : Nat) (w : World) : Calls Tryz.prog 70 #[.agg (nc k nu t (.slice A n c))] w fun e w' => e = .returned (.int .i64 (Wri.rank (.mk k nu t l))) ∧ Below w.heap.size w w' := by
 obtain ⟨T, hTe⟩ : ∃ q, byt t = q := ⟨_, rfl⟩
 have HT := hid hTe
 have e0 : nc k nu t (.slice A n c) = #[.int .i64 k, .int .i64 nu, .string T, .slice A n c] := by rw [← hTe]; rfl
 rw [e0]
 clear hTe e0
 go_enter Tryz.func70, Tryz.ntmps70
 go_upto_region 1 with fail
 refine gen_world (F := fun W => Box W w.heap.size 24 #[.int .i64 k, .int .i64 nu, .string T, .slice A n c] ∧ Below w.heap.size w W) ⟨Box.new w _ _, below1 w _⟩ ?_
 rintro W0 ⟨b0, hU⟩
 have NB := hid b0
 have HU := hid hU
 have c0 := b0.cell 0
 have c2 := b0.cell 2
 simp at c0 c2
 clear b0 hU
 go_upto_region 2 with fail
 by_cases y19 : k = 19
 ·subst y19
  go_wp2
  go_ret
  exact ⟨congrArg (fun z : Int => Ending.returned (.int .i64 z)) (a₁ := -2) (Eq.symm (by simp [Wri.rank, Pars.Node.kind, Pars.Node.text])), HU.out⟩
 have n19 : (k == 19) = false := bn y19
 go_upto_region 4 with fail
 by_cases y18 : k = 18
 ·subst y18
  go_wp2
  go_ret
  exact ⟨congrArg (fun z : Int => Ending.returned (.int .i64 z)) (a₁ := -1) (Eq.symm (by simp [Wri.rank, Pars.Node.kind, Pars.Node.text])), HU.out⟩
 have n18 : (k == 18) = false := bn y18
 go_upto_region 6 with fail
 by_cases y17 : k = 17
 ·subst y17
  go_wp2
  go_ret
  exact ⟨congrArg (fun z : Int => Ending.returned (.int .i64 z)) (a₁ := 0) (Eq.symm (by simp [Wri.rank, Pars.Node.kind, Pars.Node.text])), HU.out⟩
 have n17 : (k == 17) = false := bn y17
 go_upto_region 8 with fail
 by_cases y16 : k = 16
 ·subst y16
  go_wp2
  go_ret
  exact ⟨congrArg (fun z : Int => Ending.returned (.int .i64 z)) (a₁ := 1) (Eq.symm (by simp [Wri.rank, Pars.Node.kind, Pars.Node.text])), HU.out⟩
 have n16 : (k == 16) = false := bn y16
 go_upto_region 10 with fail
 by_cases y15 : k = 15
 ·subst y15
  clear c0
  go_wp2_with fail
  refine (ranks_any _).mono ?_
  rintro e w1 ⟨vs, rfl, hb, hix⟩
  have hw0 := HU.out.size
  replace NB := bl NB hb
  replace HU := hid (HU.out.trans (hb.mono hw0))
  clear c2 hb hw0
  have c2 := NB.out.cell 2
  simp at c2
  have HIX := hid hix
  clear hix
  go_wp2
  go_loopg [20] 6 (fun gg s20 wr => ∃ r : Nat, r ≤ 6 ∧ 6 - r ≤ gg ∧ s20 = .int .i64 (r : Int) ∧ wr = w1 ∧ Hid (Wri.rankOf 0 Pars.ranks t = Wri.rankOf r (Pars.ranks.drop r) t))
  case atStart => exact ⟨0, by omega, by omega, rfl, rfl, hid rfl⟩
  case round =>
   obtain ⟨r, hr, hg, rfl, rfl, HR⟩ := hrel
   by_cases hlt : r < 6
   ·have hltz : (r : Int) < 6 := by omega
    have hltd : decide ((r : Int) < 6) = true := decide_eq_true hltz
    have wr1 : IntKind.i64.wrap ((r : Int) + 1) = (r : Int) + 1 := by rw [IntKind.wrap_i64]; omega
    obtain ⟨gq, hgq, hgl, hix2, hrg⟩ := HIX.out r hlt
    obtain ⟨ss, hss⟩ : ∃ q, Pars.ranks.getD r [] = q := ⟨_, rfl⟩
    have hsl : ss.length ≤ 4 := by rw [← hss]; exact ranks_len r hlt
    have HDR : Hid (Pars.ranks.drop r = ss :: Pars.ranks.drop (r + 1)) := hid (by rw [← hss]; exact ranks_drop r hlt)
    rw [hss] at hix2 hrg
    have GR := hid hrg
    clear hss hrg
    go_wp2
    clear hix2
    go_loopg [26] ss.length (fun gg s26 wi => ∃ j : Nat, j ≤ ss.length ∧ ss.length - j ≤ gg ∧ s26 = .int .i64 (j : Int) ∧ wi = wr ∧ Hid (t ∉ ss.take j))
    case atStart => exact ⟨0, Nat.zero_le _, by omega, rfl, rfl, hid (by simp)⟩
    case round =>
     obtain ⟨j, hj, hgj, rfl, hwe, HNI⟩ := hrel
     subst hwe
     by_cases hl2 : j < ss.length
     ·have hjz : (j : Int) < (ss.length : Int) := by omega
      have hjd : decide ((j : Int) < (ss.length : Int)) = true := decide_eq_true hjz
      have wj : IntKind.i64.wrap ((j : Int) + 1) = (j : Int) + 1 := by rw [IntKind.wrap_i64]; omega
      obtain ⟨sj, hsj⟩ : ∃ q, ss[j]? = some q := ⟨_, List.getElem?_eq_getElem hl2⟩
      have hcj := GR.out j (.string (byt sj)) (by simp [hsj])
      rw [Nat.zero_add] at hcj
      have htk : Hid (ss.take (j + 1) = ss.take j ++ [sj]) := hid (by rw [List.take_add_one, hsj]; rfl)
      have HMEM : Hid (sj ∈ ss) := hid (List.mem_of_getElem? hsj)
      clear hsj
      obtain ⟨SJ, hSJ⟩ : ∃ q, byt sj = q := ⟨_, rfl⟩
      have HSJ := hid hSJ
      rw [hSJ] at hcj
      clear hSJ
      by_cases z : SJ = T
      ·have hz : sj = t := byt_inj (HSJ.out.trans (z.trans HT.out.symm))
       subst z
       obtain ⟨q1, q2⟩ := same_yes SJ
       go_wp2
       go_ret
       exact ⟨congrArg (fun z : Int => Ending.returned (.int .i64 z)) (a₁ := (r : Int)) (by show (r : Int) = Wri.rank _; rw [rank_15, HR.out, HDR.out]; simp only [Wri.rankOf]; rw [if_pos (by rw [← hz]; exact HMEM.out)]), HU.out⟩
      have hz : ¬ sj = t := fun e => z (by rw [← HSJ.out, e, HT.out])
      have HZ := hid hz
      obtain ⟨q1, q2, q3⟩ := same_no z
      have q4 := of_decide_eq_false q2
      clear z hz
      go_wp2
      go_roundg (ss.length - (j + 1))
      case measure => omega
      case rel => exact ⟨j + 1, by omega, by omega, rfl, rfl, hid (by rw [htk.out]; intro h; rcases List.mem_append.1 h with h | h; exact HNI.out h; exact HZ.out (List.mem_singleton.1 h).symm)⟩
     have hjz : ¬ (j : Int) < (ss.length : Int) := by omega
     have hjd : decide ((j : Int) < (ss.length : Int)) = false := decide_eq_false hjz
     have HN2 : Hid (t ∉ ss) := hid (by have := HNI.out; rwa [List.take_of_length_le (by omega)] at this)
     go_wp2
     go_roundg (6 - (r + 1))
     case measure => omega
     case rel => exact ⟨r + 1, by omega, by omega, rfl, rfl, hid (by rw [HR.out, HDR.out]; simp only [Wri.rankOf]; rw [if_neg HN2.out])⟩
   ·obtain rfl : r = 6 := by omega
    have hd6 : decide (((6 : Nat) : Int) < 6) = false := by decide
    go_wp2
    go_ret
    exact ⟨congrArg (fun z : Int => Ending.returned (.int .i64 z)) (a₁ := 8) (by show (8 : Int) = Wri.rank _; rw [rank_15, HR.out]; rfl), HU.out⟩
 have n15 : (k == 15) = false := bn y15
 go_upto_region 21 with fail
 by_cases y14 : k = 14
 ·subst y14
  go_wp2
  go_ret
  exact ⟨congrArg (fun z : Int => Ending.returned (.int .i64 z)) (a₁ := 6) (Eq.symm (by simp [Wri.rank, Pars.Node.kind, Pars.Node.text])), HU.out⟩
 have n14 : (k == 14) = false := bn y14
 go_upto_region 23 with fail
 by_cases y11 : k = 11
 ·subst y11
  go_wp2
  go_ret
  exact ⟨congrArg (fun z : Int => Ending.returned (.int .i64 z)) (a₁ := 7) (Eq.symm (by simp [Wri.rank, Pars.Node.kind, Pars.Node.text])), HU.out⟩
 have n11 : (k == 11) = false := bn y11
 go_upto_region 24 with fail
 by_cases y12 : k = 12
 ·subst y12
  go_wp2
  go_ret
  exact ⟨congrArg (fun z : Int => Ending.returned (.int .i64 z)) (a₁ := 7) (Eq.symm (by simp [Wri.rank, Pars.Node.kind, Pars.Node.text])), HU.out⟩
 have n12 : (k == 12) = false := bn y12
 go_upto_region 25 with fail
 by_cases y13 : k = 13
 ·subst y13
  go_wp2
  go_ret
  exact ⟨congrArg (fun z : Int => Ending.returned (.int .i64 z)) (a₁ := 7) (Eq.symm (by simp [Wri.rank, Pars.Node.kind, Pars.Node.text])), HU.out⟩
 have n13 : (k == 13) = false := bn y13
 go_wp2
 go_ret
 exact ⟨congrArg (fun z : Int => Ending.returned (.int .i64 z)) (a₁ := 8) (Eq.symm (by simp [Wri.rank, Pars.Node.kind, Pars.Node.text, y19, y18, y17, y16, y15, y14, y11, y12, y13])), HU.out⟩
set_option maxRecDepth 100000 in
set_option maxHeartbeats 4000000 in
theorem least_any (k nu : Int) (t : List UInt8) (l : List Pars.Node) (A : Option Addr) (n c : Nat) (w : World) : Calls Tryz.prog 71 #[.agg (nc k nu t (.slice A n c))] w fun e w' => e = .returned (.int .i64 (Wri.least (.mk k nu t l))) ∧ Below w.heap.size w w' := by
 go_enter Tryz.func71, Tryz.ntmps71
 go_upto_region 1 with fail
 refine gen_world (F := fun W => Box W w.heap.size 24 (nc k nu t (.slice A n c)) ∧ Below w.heap.size w W) ⟨Box.new w _ _, below1 w _⟩ ?_
 rintro W0 ⟨b0, hU⟩
 have NB := hid b0
 have HU := hid hU
 have c0 := b0.cell 0
 simp [nc] at c0
 clear b0 hU
 go_upto_region 2 with fail
 by_cases y19 : k = 19
 ·subst y19
  go_wp2
  go_ret
  exact ⟨congrArg (fun z : Int => Ending.returned (.int .i64 z)) (a₁ := 7) (Eq.symm (by simp [Wri.least, Pars.Node.kind])), HU.out⟩
 have n19 : (k == 19) = false := bn y19
 go_upto_region 3 with fail
 by_cases y11 : k = 11
 ·subst y11
  go_wp2
  go_ret
  exact ⟨congrArg (fun z : Int => Ending.returned (.int .i64 z)) (a₁ := 7) (Eq.symm (by simp [Wri.least, Pars.Node.kind])), HU.out⟩
 have n11 : (k == 11) = false := bn y11
 go_upto_region 4 with fail
 by_cases y12 : k = 12
 ·subst y12
  go_wp2
  go_ret
  exact ⟨congrArg (fun z : Int => Ending.returned (.int .i64 z)) (a₁ := 7) (Eq.symm (by simp [Wri.least, Pars.Node.kind])), HU.out⟩
 have n12 : (k == 12) = false := bn y12
 go_upto_region 5 with fail
 by_cases y13 : k = 13
 ·subst y13
  go_wp2
  go_ret
  exact ⟨congrArg (fun z : Int => Ending.returned (.int .i64 z)) (a₁ := 7) (Eq.symm (by simp [Wri.least, Pars.Node.kind])), HU.out⟩
 have n13 : (k == 13) = false := bn y13
 go_upto_region 7 with fail
 by_cases y18 : k = 18
 ·subst y18
  go_wp2
  go_ret
  exact ⟨congrArg (fun z : Int => Ending.returned (.int .i64 z)) (a₁ := 0) (Eq.symm (by simp [Wri.least, Pars.Node.kind])), HU.out⟩
 have n18 : (k == 18) = false := bn y18
 have nb := NB.out
 go_wp2_with (refine wpList_load_row rfl 24 (.tmp 1) rfl w.heap.size rfl _ (nc k nu t (.slice A n c)) (0, 0) _ nb Tryz.underlying24 rfl info_nod ?_)
 refine (rank_any k nu t l A n c _).mono ?_
 rintro e w1 ⟨rfl, hb⟩
 have HU2 := hid (HU.out.trans (hb.mono HU.out.size))
 clear hb
 go_wp2
 go_ret
 exact ⟨congrArg (fun z : Int => Ending.returned (.int .i64 z)) (a₁ := Wri.rank (.mk k nu t l)) (Eq.symm (by simp [Wri.least, Pars.Node.kind, y19, y11, y12, y13, y18])), HU2.out⟩
set_option maxRecDepth 100000 in
set_option maxHeartbeats 4000000 in
theorem sign_any (k nu : Int) (t : List UInt8) (A : Option Addr) (n c : Nat) (w : World) : Calls Tryz.prog 95 #[.agg (nc k nu t (.slice A n c))] w fun e w' => e = .returned (.string (byt (Wri.sgn k t))) ∧ Below w.heap.size w w' := by
 obtain ⟨T, hTe⟩ : ∃ q, byt t = q := ⟨_, rfl⟩
 have HT := hid hTe
 have e0 : nc k nu t (.slice A n c) = #[.int .i64 k, .int .i64 nu, .string T, .slice A n c] := by rw [← hTe]; rfl
 rw [e0]
 clear hTe e0
 go_enter Tryz.func95, Tryz.ntmps95
 go_upto_region 1 with fail
 refine gen_world (F := fun W => Box W w.heap.size 24 #[.int .i64 k, .int .i64 nu, .string T, .slice A n c] ∧ Below w.heap.size w W) ⟨Box.new w _ _, below1 w _⟩ ?_
 rintro W0 ⟨b0, hU⟩
 have NB := hid b0
 have HU := hid hU
 have c0 := b0.cell 0
 have c2 := b0.cell 2
 simp at c0 c2
 clear b0 hU
 go_upto_region 2 with fail
 by_cases y17 : k = 17
 ·subst y17
  go_wp2
  go_ret
  exact ⟨ret_str (a := ⟨#[124, 124]⟩) rfl, HU.out⟩
 have n17 : (k == 17) = false := bn y17
 go_upto_region 4 with fail
 by_cases y16 : k = 16
 ·subst y16
  go_wp2
  go_ret
  exact ⟨ret_str (a := ⟨#[38, 38]⟩) rfl, HU.out⟩
 have n16 : (k == 16) = false := bn y16
 go_wp2
 go_ret
 exact ⟨ret_str (a := T) (by unfold Wri.sgn; rw [if_neg y17, if_neg y16, HT.out]), HU.out⟩
end Go.Proofs.YtonjdlialejedaaGreatDoor
namespace Go.Proofs.YtonjdlialejedaaGreatDoor
open Go.Lib (hid)
open Go.RowKit Go.Shelf
theorem bu_size : (Tryz.prog.info? 53).map (fun j => j.size) = some 2 := by kernel_rfl
theorem bu_byte : (Tryz.prog.info? 5).map (fun i => (i.zero, i.size, i.bytes)) = some (some (.int .u8 0), 1, 1) := by kernel_rfl
set_option maxRecDepth 100000 in
set_option maxHeartbeats 1000000 in
theorem check_used (b : Nat) (w : World) (h0 : w.cell? ⟨b, 0, none⟩ = some (.pointer (some ⟨b, 0, none⟩))) :
  Calls Tryz.prog 30 #[.pointer (some ⟨b, 0, none⟩)] w fun e w' => e = .returned (.tuple #[]) ∧ w' = w := by
 obtain ⟨j, hj, _⟩ := Option.map_eq_some_iff.1 bu_size
 go_enter Tryz.func30, Tryz.ntmps30
 go_wp2
 rw [Lib.run_neq_ptr_same w _ Tryz.underlying50 hj]
 go_wp2
 go_end0
 exact ⟨rfl, rfl⟩
theorem bu_lies : liesAt Tryz.prog Tryz.prog.depth 53 (2 / Tryz.prog.cellsOf 53) 0 53 1 = true := by kernel_rfl
theorem bu_ne : 53 ≠ 5 := by decide
set_option maxRecDepth 100000 in
set_option maxHeartbeats 1000000 in
theorem check_fresh (b : Nat) (w : World) (h0 : w.cell? ⟨b, 0, none⟩ = some (.pointer none)) (hsh : w.shape? b = some (53, 2)) (hfz : w.frozen? ⟨b, 0, none⟩ = false) :
  Calls Tryz.prog 30 #[.pointer (some ⟨b, 0, none⟩)] w fun e w' => e = .returned (.tuple #[]) ∧ w' = w.setCell ⟨b, 0, none⟩ (.pointer (some ⟨b, 0, none⟩)) := by
 obtain ⟨j, hj, hjs⟩ := Option.map_eq_some_iff.1 bu_size
 go_enter Tryz.func30, Tryz.ntmps30
 go_wp2
 rw [Lib.run_to_unsafe w ⟨b, 0, none⟩ Tryz.underlying50 Tryz.underlying102 hj (by rw [hjs]; decide) hsh (Nat.zero_lt_succ 1)]
 simp only [Result.andThen]
 rw [Oper.upon_value]
 go_wp2
 rw [run_callFunc_extern Tryz.func66 (by kernel_rfl) (by kernel_rfl) (by kernel_rfl) (e := Extern.AbiNoEscape.same) (by kernel_rfl)]
 rw [Lib.run_noEscape]
 simp only [Result.andThen]
 rw [Oper.upon_value]
 go_wp2
 rw [Lib.run_from_unsafe w ⟨b, 0, none⟩ Tryz.underlying102 Tryz.underlying50 hj hsh bu_lies]
 simp only [Result.andThen]
 rw [Oper.upon_value]
 go_wp2
 go_end0
 exact ⟨rfl, rfl⟩
theorem check_any (B b : Nat) (bs : List Value) (w : World) (h : Lib.IsBuilder 53 5 B b bs w) :
  Calls Tryz.prog 30 #[.pointer (some ⟨b, 0, none⟩)] w fun e w' => e = .returned (.tuple #[]) ∧ (Lib.BuilderAt 53 5 B b (.pointer (some ⟨b, 0, none⟩)) bs w' ∧ Below B w w') := by
 rcases h with h | h
 ·refine (check_fresh b w h.cell0 h.shape h.frozen0).mono ?_
  rintro e w' ⟨rfl, rfl⟩
  exact ⟨rfl, h.used _, (Below.refl B w).setCell (p := ⟨b, 0, none⟩) h.1 _⟩
 ·refine (check_used b w h.cell0).mono ?_
  rintro e w' ⟨rfl, rfl⟩
  exact ⟨rfl, h, Below.refl B _⟩
set_option maxRecDepth 100000 in
set_option maxHeartbeats 1000000 in
theorem write_byte (B b : Nat) (bs : List Value) (c : Int) (w : World) (h : Lib.IsBuilder 53 5 B b bs w) (hlen : bs.length + 1 ≤ 140737488355328) (hBw : B ≤ w.heap.size) :
  Calls Tryz.prog 19 #[.pointer (some ⟨b, 0, none⟩), .int .u8 c] w fun e w' => e = .returned .nilIface ∧ Lib.IsBuilder 53 5 B b (bs ++ [.int .u8 c]) w' ∧ Below B w w' := by
 obtain ⟨i0, hi, hz0, hz1, hz2⟩ := info_parts bu_byte
 go_enter Tryz.func19, Tryz.ntmps19
 go_wp2_with fail
 refine (check_any B b bs _ h).mono ?_
 rintro e w1 ⟨rfl, h1, hb1⟩
 obtain ⟨hB, v, hbk, hown, hne⟩ := h1
 have c0 : w1.cell? ⟨b, 0, none⟩ = some (.pointer (some ⟨b, 0, none⟩)) := by rw [Lib.cell_of_heap hbk]; rfl
 have c1 : w1.cell? ⟨b, 1, none⟩ = some v := by rw [Lib.cell_of_heap hbk]; rfl
 go_wp2_with (at_builtin; refine wpList_append_own _ rfl (.tmp 11) (.tmp 13) 51 rfl B 5 i0 (.int .u8 0) 1 1 Tryz.underlying51 hi hz0 hz1 hz2 rfl (by decide) v bs.length bs rfl (hown.alloc _) ⟨w1.heap.size, 0, none⟩ 1 1 [.int .u8 c] rfl rfl ?c1 ?c2 ?c3 ?c4 ?c5 ?_)
 case c1 =>
  intro j u hj
  match j, hj with
  | 0, hj => simp at hj; subst hj; simp [Addr.add]
 case c2 => intro u hu; simp at hu; subst hu; rfl
 case c3 => unfold maxLen; omega
 case c4 => omega
 case c5 => have := hb1.size; simp; omega
 intro v' w2 hown' hgrow _
 have hlt : b < w1.heap.size := Box.lt hbk
 have hb2 : w2.heap[b]? = some (.cells #[.pointer (some ⟨b, 0, none⟩), v] 53 (0, 0)) := by
  rw [hgrow.block b (by simp; omega) (fun e => hne e.symm)]
  exact (Below.heap_alloc w1 _ b hlt).trans hbk
 have d0 : w2.cell? ⟨b, 0, none⟩ = some (.pointer (some ⟨b, 0, none⟩)) := by rw [Lib.cell_of_heap hb2]; rfl
 have d1 : w2.cell? ⟨b, 1, none⟩ = some v := by rw [Lib.cell_of_heap hb2]; rfl
 have f1 : w2.frozen? ⟨b, 1, none⟩ = false := Lib.frozen_of_heap hb2 1
 obtain ⟨g, cap, rfl⟩ : ∃ g cap, v' = .slice (some ⟨g, 0, none⟩) (bs.length + 1) cap := by
  rcases hown'.2 with ⟨_, h0⟩ | ⟨g, cap, cur, hv, _⟩
  ·omega
  ·exact ⟨g, cap, hv⟩
 go_wp2
 go_ret
 refine ⟨rfl, .inr ?_, ?_⟩
 ·exact Lib.BuilderAt.put (T := 53) (e := 5) hB hb2 (bs' := bs ++ [.int .u8 c]) (by simpa using hown') bu_ne
 ·exact ((hb1.alloc (by have := hb1.size; omega) _).grown hgrow (by have := hb1.size; simp; omega) (fun k hk => (hown.lt k hk).1)).setCell (p := ⟨b, 1, none⟩) hB _
set_option maxRecDepth 100000 in
set_option maxHeartbeats 1000000 in
theorem write_string (B b : Nat) (bs : List Value) (s : ByteArray) (w : World) (h : Lib.IsBuilder 53 5 B b bs w) (hlen : bs.length + s.size ≤ 140737488355328) (hBw : B ≤ w.heap.size) :
  Calls Tryz.prog 31 #[.pointer (some ⟨b, 0, none⟩), .string s] w fun e w' => e = .returned (.tuple #[.int .i64 s.size, .nilIface]) ∧ Lib.IsBuilder 53 5 B b (bs ++ Lib.strCells s) w' ∧ Below B w w' := by
 obtain ⟨i0, hi, hz0, hz1, hz2⟩ := info_parts bu_byte
 go_enter Tryz.func31, Tryz.ntmps31
 go_wp2_with fail
 refine (check_any B b bs _ h).mono ?_
 rintro e w1 ⟨rfl, h1, hb1⟩
 obtain ⟨hB, v, hbk, hown, hne⟩ := h1
 have c0 : w1.cell? ⟨b, 0, none⟩ = some (.pointer (some ⟨b, 0, none⟩)) := by rw [Lib.cell_of_heap hbk]; rfl
 have c1 : w1.cell? ⟨b, 1, none⟩ = some v := by rw [Lib.cell_of_heap hbk]; rfl
 go_wp2_with (at_builtin; refine Lib.wpList_append_own_string _ rfl (.tmp 12) (.tmp 13) 51 9 rfl B 5 i0 Tryz.underlying51 Tryz.underlying9 hi hz0 hz1 hz2 v bs.length bs rfl hown s rfl ?c3 ?c4 ?c5 ?_)
 case c3 => unfold maxLen; omega
 case c4 => omega
 case c5 => have := hb1.size; omega
 intro v' w2 hown' hgrow _
 have hlt : b < w1.heap.size := Box.lt hbk
 have hb2 : w2.heap[b]? = some (.cells #[.pointer (some ⟨b, 0, none⟩), v] 53 (0, 0)) := by
  rw [hgrow.block b hlt (fun e => hne e.symm)]
  exact hbk
 have d0 : w2.cell? ⟨b, 0, none⟩ = some (.pointer (some ⟨b, 0, none⟩)) := by rw [Lib.cell_of_heap hb2]; rfl
 have d1 : w2.cell? ⟨b, 1, none⟩ = some v := by rw [Lib.cell_of_heap hb2]; rfl
 have f1 : w2.frozen? ⟨b, 1, none⟩ = false := Lib.frozen_of_heap hb2 1
 obtain ⟨ao, n', cap, rfl⟩ : ∃ ao n' cap, v' = .slice ao n' cap := by
  rcases hown'.2 with ⟨hv, _⟩ | ⟨g, cap, cur, hv, _⟩
  ·exact ⟨_, _, _, hv⟩
  ·exact ⟨_, _, _, hv⟩
 go_wp2
 go_ret2
 refine ⟨rfl, .inr ?_, ?_⟩
 ·exact Lib.BuilderAt.put (T := 53) (e := 5) hB hb2 (bs' := bs ++ Lib.strCells s) (by simpa [Lib.strCells_length] using hown') bu_ne
 ·exact (hb1.grown hgrow (by have := hb1.size; omega) (fun k hk => (hown.lt k hk).1)).setCell (p := ⟨b, 1, none⟩) hB _
end Go.Proofs.YtonjdlialejedaaGreatDoor
