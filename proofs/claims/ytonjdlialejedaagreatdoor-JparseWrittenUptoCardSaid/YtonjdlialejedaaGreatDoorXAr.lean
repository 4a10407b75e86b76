/-
  Texts that the law leans on: PmS. Conditions: as each says.
-/
import Derived.Test.YtonjdlialejedaaGreatDoorXAq
import Derived.Test.YtonjdlialejedaaGreatDoorXAa
set_option linter.unusedSimpArgs false
set_option linter.unusedVariables false
namespace Go.Proofs.YtonjdlialejedaaGreatDoor
open Go.Lib (hid)
open Go.RowKit
theorem info_rks : (Tryz.prog.info? 123).map (·.size) = some 6 := by kernel_rfl
set_option maxRecDepth 100000 in
set_option maxHeartbeats 4000000 in
theorem ranks_any (w : World) : Calls Tryz.prog 88 #[] w fun e w' => ∃ vs : Array Value, e = .returned (.agg vs) ∧ Below w.heap.size w w' ∧ ∀ r : Nat, r < 6 → ∃ g, w.heap.size ≤ g ∧ g < w'.heap.size ∧ (∀ q, (Instr.index 123 (.agg vs) (.int .i64 (r : Int))).run Tryz.prog q = .ok (.slice (some ⟨g, 0, none⟩) (Pars.ranks.getD r []).length (Pars.ranks.getD r []).length) q) ∧ w'.rangeAt g 0 ((Pars.ranks.getD r []).map fun s => .string (byt s)) := by
 go_enter Tryz.func88, Tryz.ntmps88
 go_upto_region 1 with fail
 refine gen_world (F := fun W => Box W w.heap.size 123 #[.slice none 0 0, .slice none 0 0, .slice none 0 0, .slice none 0 0, .slice none 0 0, .slice none 0 0] ∧ Below w.heap.size w W ∧ W.heap.size = w.heap.size + 1) ⟨Box.new w _ _, below1 w _, by simp⟩ ?_
 rintro w0 ⟨r0, hU, hz0⟩
 have b1 : Box ((((((w0.alloc (.cells #[.string ⟨#[124, 124]⟩] 9)).alloc (.cells #[.string ⟨#[38, 38]⟩] 9)).alloc (.cells #[.string ⟨#[61, 61]⟩, .string ⟨#[33, 61]⟩] 9)).alloc (.cells #[.string ⟨#[60]⟩, .string ⟨#[60, 61]⟩, .string ⟨#[62]⟩, .string ⟨#[62, 61]⟩] 9)).alloc (.cells #[.string ⟨#[43]⟩, .string ⟨#[45]⟩] 9)).alloc (.cells #[.string ⟨#[42]⟩, .string ⟨#[47]⟩, .string ⟨#[37]⟩] 9)) (w.heap.size + 1) 9 #[.string ⟨#[124, 124]⟩] := by
  have h : Box ((((((w0.alloc (.cells #[.string ⟨#[124, 124]⟩] 9)).alloc (.cells #[.string ⟨#[38, 38]⟩] 9)).alloc (.cells #[.string ⟨#[61, 61]⟩, .string ⟨#[33, 61]⟩] 9)).alloc (.cells #[.string ⟨#[60]⟩, .string ⟨#[60, 61]⟩, .string ⟨#[62]⟩, .string ⟨#[62, 61]⟩] 9)).alloc (.cells #[.string ⟨#[43]⟩, .string ⟨#[45]⟩] 9)).alloc (.cells #[.string ⟨#[42]⟩, .string ⟨#[47]⟩, .string ⟨#[37]⟩] 9)) w0.heap.size 9 #[.string ⟨#[124, 124]⟩] := (((((Box.new w0 9 #[.string ⟨#[124, 124]⟩]).alloc _).alloc _).alloc _).alloc _).alloc _
  have e : w0.heap.size = w.heap.size + 1 := by simp [hz0]
  rw [e] at h
  exact h
 have b2 : Box ((((((w0.alloc (.cells #[.string ⟨#[124, 124]⟩] 9)).alloc (.cells #[.string ⟨#[38, 38]⟩] 9)).alloc (.cells #[.string ⟨#[61, 61]⟩, .string ⟨#[33, 61]⟩] 9)).alloc (.cells #[.string ⟨#[60]⟩, .string ⟨#[60, 61]⟩, .string ⟨#[62]⟩, .string ⟨#[62, 61]⟩] 9)).alloc (.cells #[.string ⟨#[43]⟩, .string ⟨#[45]⟩] 9)).alloc (.cells #[.string ⟨#[42]⟩, .string ⟨#[47]⟩, .string ⟨#[37]⟩] 9)) (w.heap.size + 2) 9 #[.string ⟨#[38, 38]⟩] := by
  have h : Box ((((((w0.alloc (.cells #[.string ⟨#[124, 124]⟩] 9)).alloc (.cells #[.string ⟨#[38, 38]⟩] 9)).alloc (.cells #[.string ⟨#[61, 61]⟩, .string ⟨#[33, 61]⟩] 9)).alloc (.cells #[.string ⟨#[60]⟩, .string ⟨#[60, 61]⟩, .string ⟨#[62]⟩, .string ⟨#[62, 61]⟩] 9)).alloc (.cells #[.string ⟨#[43]⟩, .string ⟨#[45]⟩] 9)).alloc (.cells #[.string ⟨#[42]⟩, .string ⟨#[47]⟩, .string ⟨#[37]⟩] 9)) (w0.alloc (.cells #[.string ⟨#[124, 124]⟩] 9)).heap.size 9 #[.string ⟨#[38, 38]⟩] := ((((Box.new (w0.alloc (.cells #[.string ⟨#[124, 124]⟩] 9)) 9 #[.string ⟨#[38, 38]⟩]).alloc _).alloc _).alloc _).alloc _
  have e : (w0.alloc (.cells #[.string ⟨#[124, 124]⟩] 9)).heap.size = w.heap.size + 2 := by simp [hz0]
  rw [e] at h
  exact h
 have b3 : Box ((((((w0.alloc (.cells #[.string ⟨#[124, 124]⟩] 9)).alloc (.cells #[.string ⟨#[38, 38]⟩] 9)).alloc (.cells #[.string ⟨#[61, 61]⟩, .string ⟨#[33, 61]⟩] 9)).alloc (.cells #[.string ⟨#[60]⟩, .string ⟨#[60, 61]⟩, .string ⟨#[62]⟩, .string ⟨#[62, 61]⟩] 9)).alloc (.cells #[.string ⟨#[43]⟩, .string ⟨#[45]⟩] 9)).alloc (.cells #[.string ⟨#[42]⟩, .string ⟨#[47]⟩, .string ⟨#[37]⟩] 9)) (w.heap.size + 3) 9 #[.string ⟨#[61, 61]⟩, .string ⟨#[33, 61]⟩] := by
  have h : Box ((((((w0.alloc (.cells #[.string ⟨#[124, 124]⟩] 9)).alloc (.cells #[.string ⟨#[38, 38]⟩] 9)).alloc (.cells #[.string ⟨#[61, 61]⟩, .string ⟨#[33, 61]⟩] 9)).alloc (.cells #[.string ⟨#[60]⟩, .string ⟨#[60, 61]⟩, .string ⟨#[62]⟩, .string ⟨#[62, 61]⟩] 9)).alloc (.cells #[.string ⟨#[43]⟩, .string ⟨#[45]⟩] 9)).alloc (.cells #[.string ⟨#[42]⟩, .string ⟨#[47]⟩, .string ⟨#[37]⟩] 9)) ((w0.alloc (.cells #[.string ⟨#[124, 124]⟩] 9)).alloc (.cells #[.string ⟨#[38, 38]⟩] 9)).heap.size 9 #[.string ⟨#[61, 61]⟩, .string ⟨#[33, 61]⟩] := (((Box.new ((w0.alloc (.cells #[.string ⟨#[124, 124]⟩] 9)).alloc (.cells #[.string ⟨#[38, 38]⟩] 9)) 9 #[.string ⟨#[61, 61]⟩, .string ⟨#[33, 61]⟩]).alloc _).alloc _).alloc _
  have e : ((w0.alloc (.cells #[.string ⟨#[124, 124]⟩] 9)).alloc (.cells #[.string ⟨#[38, 38]⟩] 9)).heap.size = w.heap.size + 3 := by simp [hz0]
  rw [e] at h
  exact h
 have b4 : Box ((((((w0.alloc (.cells #[.string ⟨#[124, 124]⟩] 9)).alloc (.cells #[.string ⟨#[38, 38]⟩] 9)).alloc (.cells #[.string ⟨#[61, 61]⟩, .string ⟨#[33, 61]⟩] 9)).alloc (.cells #[.string ⟨#[60]⟩, .string ⟨#[60, 61]⟩, .string ⟨#[62]⟩, .string ⟨#[62, 61]⟩] 9)).alloc (.cells #[.string ⟨#[43]⟩, .string ⟨#[45]⟩] 9)).alloc (.cells #[.string ⟨#[42]⟩, .string ⟨#[47]⟩, .string ⟨#[37]⟩] 9)) (w.heap.size + 4) 9 #[.string ⟨#[60]⟩, .string ⟨#[60, 61]⟩, .string ⟨#[62]⟩, .string ⟨#[62, 61]⟩] := by
  have h : Box ((((((w0.alloc (.cells #[.string ⟨#[124, 124]⟩] 9)).alloc (.cells #[.string ⟨#[38, 38]⟩] 9)).alloc (.cells #[.string ⟨#[61, 61]⟩, .string ⟨#[33, 61]⟩] 9)).alloc (.cells #[.string ⟨#[60]⟩, .string ⟨#[60, 61]⟩, .string ⟨#[62]⟩, .string ⟨#[62, 61]⟩] 9)).alloc (.cells #[.string ⟨#[43]⟩, .string ⟨#[45]⟩] 9)).alloc (.cells #[.string ⟨#[42]⟩, .string ⟨#[47]⟩, .string ⟨#[37]⟩] 9)) (((w0.alloc (.cells #[.string ⟨#[124, 124]⟩] 9)).alloc (.cells #[.string ⟨#[38, 38]⟩] 9)).alloc (.cells #[.string ⟨#[61, 61]⟩, .string ⟨#[33, 61]⟩] 9)).heap.size 9 #[.string ⟨#[60]⟩, .string ⟨#[60, 61]⟩, .string ⟨#[62]⟩, .string ⟨#[62, 61]⟩] := ((Box.new (((w0.alloc (.cells #[.string ⟨#[124, 124]⟩] 9)).alloc (.cells #[.string ⟨#[38, 38]⟩] 9)).alloc (.cells #[.string ⟨#[61, 61]⟩, .string ⟨#[33, 61]⟩] 9)) 9 #[.string ⟨#[60]⟩, .string ⟨#[60, 61]⟩, .string ⟨#[62]⟩, .string ⟨#[62, 61]⟩]).alloc _).alloc _
  have e : (((w0.alloc (.cells #[.string ⟨#[124, 124]⟩] 9)).alloc (.cells #[.string ⟨#[38, 38]⟩] 9)).alloc (.cells #[.string ⟨#[61, 61]⟩, .string ⟨#[33, 61]⟩] 9)).heap.size = w.heap.size + 4 := by simp [hz0]
  rw [e] at h
  exact h
 have b5 : Box ((((((w0.alloc (.cells #[.string ⟨#[124, 124]⟩] 9)).alloc (.cells #[.string ⟨#[38, 38]⟩] 9)).alloc (.cells #[.string ⟨#[61, 61]⟩, .string ⟨#[33, 61]⟩] 9)).alloc (.cells #[.string ⟨#[60]⟩, .string ⟨#[60, 61]⟩, .string ⟨#[62]⟩, .string ⟨#[62, 61]⟩] 9)).alloc (.cells #[.string ⟨#[43]⟩, .string ⟨#[45]⟩] 9)).alloc (.cells #[.string ⟨#[42]⟩, .string ⟨#[47]⟩, .string ⟨#[37]⟩] 9)) (w.heap.size + 5) 9 #[.string ⟨#[43]⟩, .string ⟨#[45]⟩] := by
  have h : Box ((((((w0.alloc (.cells #[.string ⟨#[124, 124]⟩] 9)).alloc (.cells #[.string ⟨#[38, 38]⟩] 9)).alloc (.cells #[.string ⟨#[61, 61]⟩, .string ⟨#[33, 61]⟩] 9)).alloc (.cells #[.string ⟨#[60]⟩, .string ⟨#[60, 61]⟩, .string ⟨#[62]⟩, .string ⟨#[62, 61]⟩] 9)).alloc (.cells #[.string ⟨#[43]⟩, .string ⟨#[45]⟩] 9)).alloc (.cells #[.string ⟨#[42]⟩, .string ⟨#[47]⟩, .string ⟨#[37]⟩] 9)) ((((w0.alloc (.cells #[.string ⟨#[124, 124]⟩] 9)).alloc (.cells #[.string ⟨#[38, 38]⟩] 9)).alloc (.cells #[.string ⟨#[61, 61]⟩, .string ⟨#[33, 61]⟩] 9)).alloc (.cells #[.string ⟨#[60]⟩, .string ⟨#[60, 61]⟩, .string ⟨#[62]⟩, .string ⟨#[62, 61]⟩] 9)).heap.size 9 #[.string ⟨#[43]⟩, .string ⟨#[45]⟩] := (Box.new ((((w0.alloc (.cells #[.string ⟨#[124, 124]⟩] 9)).alloc (.cells #[.string ⟨#[38, 38]⟩] 9)).alloc (.cells #[.string ⟨#[61, 61]⟩, .string ⟨#[33, 61]⟩] 9)).alloc (.cells #[.string ⟨#[60]⟩, .string ⟨#[60, 61]⟩, .string ⟨#[62]⟩, .string ⟨#[62, 61]⟩] 9)) 9 #[.string ⟨#[43]⟩, .string ⟨#[45]⟩]).alloc _
  have e : ((((w0.alloc (.cells #[.string ⟨#[124, 124]⟩] 9)).alloc (.cells #[.string ⟨#[38, 38]⟩] 9)).alloc (.cells #[.string ⟨#[61, 61]⟩, .string ⟨#[33, 61]⟩] 9)).alloc (.cells #[.string ⟨#[60]⟩, .string ⟨#[60, 61]⟩, .string ⟨#[62]⟩, .string ⟨#[62, 61]⟩] 9)).heap.size = w.heap.size + 5 := by simp [hz0]
  rw [e] at h
  exact h
 have b6 : Box ((((((w0.alloc (.cells #[.string ⟨#[124, 124]⟩] 9)).alloc (.cells #[.string ⟨#[38, 38]⟩] 9)).alloc (.cells #[.string ⟨#[61, 61]⟩, .string ⟨#[33, 61]⟩] 9)).alloc (.cells #[.string ⟨#[60]⟩, .string ⟨#[60, 61]⟩, .string ⟨#[62]⟩, .string ⟨#[62, 61]⟩] 9)).alloc (.cells #[.string ⟨#[43]⟩, .string ⟨#[45]⟩] 9)).alloc (.cells #[.string ⟨#[42]⟩, .string ⟨#[47]⟩, .string ⟨#[37]⟩] 9)) (w.heap.size + 6) 9 #[.string ⟨#[42]⟩, .string ⟨#[47]⟩, .string ⟨#[37]⟩] := by
  have h : Box ((((((w0.alloc (.cells #[.string ⟨#[124, 124]⟩] 9)).alloc (.cells #[.string ⟨#[38, 38]⟩] 9)).alloc (.cells #[.string ⟨#[61, 61]⟩, .string ⟨#[33, 61]⟩] 9)).alloc (.cells #[.string ⟨#[60]⟩, .string ⟨#[60, 61]⟩, .string ⟨#[62]⟩, .string ⟨#[62, 61]⟩] 9)).alloc (.cells #[.string ⟨#[43]⟩, .string ⟨#[45]⟩] 9)).alloc (.cells #[.string ⟨#[42]⟩, .string ⟨#[47]⟩, .string ⟨#[37]⟩] 9)) (((((w0.alloc (.cells #[.string ⟨#[124, 124]⟩] 9)).alloc (.cells #[.string ⟨#[38, 38]⟩] 9)).alloc (.cells #[.string ⟨#[61, 61]⟩, .string ⟨#[33, 61]⟩] 9)).alloc (.cells #[.string ⟨#[60]⟩, .string ⟨#[60, 61]⟩, .string ⟨#[62]⟩, .string ⟨#[62, 61]⟩] 9)).alloc (.cells #[.string ⟨#[43]⟩, .string ⟨#[45]⟩] 9)).heap.size 9 #[.string ⟨#[42]⟩, .string ⟨#[47]⟩, .string ⟨#[37]⟩] := Box.new (((((w0.alloc (.cells #[.string ⟨#[124, 124]⟩] 9)).alloc (.cells #[.string ⟨#[38, 38]⟩] 9)).alloc (.cells #[.string ⟨#[61, 61]⟩, .string ⟨#[33, 61]⟩] 9)).alloc (.cells #[.string ⟨#[60]⟩, .string ⟨#[60, 61]⟩, .string ⟨#[62]⟩, .string ⟨#[62, 61]⟩] 9)).alloc (.cells #[.string ⟨#[43]⟩, .string ⟨#[45]⟩] 9)) 9 #[.string ⟨#[42]⟩, .string ⟨#[47]⟩, .string ⟨#[37]⟩]
  have e : (((((w0.alloc (.cells #[.string ⟨#[124, 124]⟩] 9)).alloc (.cells #[.string ⟨#[38, 38]⟩] 9)).alloc (.cells #[.string ⟨#[61, 61]⟩, .string ⟨#[33, 61]⟩] 9)).alloc (.cells #[.string ⟨#[60]⟩, .string ⟨#[60, 61]⟩, .string ⟨#[62]⟩, .string ⟨#[62, 61]⟩] 9)).alloc (.cells #[.string ⟨#[43]⟩, .string ⟨#[45]⟩] 9)).heap.size = w.heap.size + 6 := by simp [hz0]
  rw [e] at h
  exact h
 have rb : Box ((((((w0.alloc (.cells #[.string ⟨#[124, 124]⟩] 9)).alloc (.cells #[.string ⟨#[38, 38]⟩] 9)).alloc (.cells #[.string ⟨#[61, 61]⟩, .string ⟨#[33, 61]⟩] 9)).alloc (.cells #[.string ⟨#[60]⟩, .string ⟨#[60, 61]⟩, .string ⟨#[62]⟩, .string ⟨#[62, 61]⟩] 9)).alloc (.cells #[.string ⟨#[43]⟩, .string ⟨#[45]⟩] 9)).alloc (.cells #[.string ⟨#[42]⟩, .string ⟨#[47]⟩, .string ⟨#[37]⟩] 9)) w.heap.size 123 _ := ((((((r0.alloc _).alloc _).alloc _).alloc _).alloc _).alloc _)
 have hB : Below w.heap.size w ((((((w0.alloc (.cells #[.string ⟨#[124, 124]⟩] 9)).alloc (.cells #[.string ⟨#[38, 38]⟩] 9)).alloc (.cells #[.string ⟨#[61, 61]⟩, .string ⟨#[33, 61]⟩] 9)).alloc (.cells #[.string ⟨#[60]⟩, .string ⟨#[60, 61]⟩, .string ⟨#[62]⟩, .string ⟨#[62, 61]⟩] 9)).alloc (.cells #[.string ⟨#[43]⟩, .string ⟨#[45]⟩] 9)).alloc (.cells #[.string ⟨#[42]⟩, .string ⟨#[47]⟩, .string ⟨#[37]⟩] 9)) := ((((((hU.alloc (by omega) _).alloc (by simp; omega) _).alloc (by simp; omega) _).alloc (by simp; omega) _).alloc (by simp; omega) _).alloc (by simp; omega) _)
 have B1 := hid b1
 have B2 := hid b2
 have B3 := hid b3
 have B4 := hid b4
 have B5 := hid b5
 have B6 := hid b6
 have RB := hid rb
 have HB := hid hB
 clear b1 b2 b3 b4 b5 b6 rb hB r0 hU
 have hz1 : w0.heap.size + 1 = w.heap.size + 1 + 1 := by omega
 go_wp2_with (refine wpList_store_box rfl 123 (.tmp 0) (.tmp 7) rfl w.heap.size #[.slice (some ⟨w.heap.size + 1, 0, none⟩) 1 1, .slice (some ⟨w.heap.size + 2, 0, none⟩) 1 1, .slice (some ⟨w.heap.size + 3, 0, none⟩) 2 2, .slice (some ⟨w.heap.size + 4, 0, none⟩) 4 4, .slice (some ⟨w.heap.size + 5, 0, none⟩) 2 2, .slice (some ⟨w.heap.size + 6, 0, none⟩) 3 3] rfl (by simp [Act.eval, hz0]) 123 _ RB.out info_rks rfl (by simp [Value.oneCell']) ?_; intro wz hxz huz hzz; have HZZ := hid hzz; clear hzz)
 refine bodyPost_ret (results_box rfl _ _ w.heap.size 123 _ _ rfl hxz Tryz.underlying123 rfl info_rks) rfl ?_
 have hzz := HZZ.out
 have hs0 := HB.out.size
 refine ⟨_, rfl, HB.out.trans (huz.own (Nat.le_refl _) hs0), fun r hr => ?_⟩
 have h6 : r = 0 ∨ r = 1 ∨ r = 2 ∨ r = 3 ∨ r = 4 ∨ r = 5 := by omega
 rcases h6 with rfl | rfl | rfl | rfl | rfl | rfl
 ·refine ⟨w.heap.size + 1, by omega, by have := B1.out.lt; omega, fun q => by kernel_rfl, fun j v hv => ?_⟩
  rw [World.cell?_of_block (huz.block _ (by have := B1.out.lt; exact this) (fun e => by injection e with e; exact absurd e (by show ¬ (w.heap.size + 1 = w.heap.size); omega))), Nat.zero_add, B1.out.cell]
  simpa [Pars.ranks, byt] using hv
 ·refine ⟨w.heap.size + 2, by omega, by have := B2.out.lt; omega, fun q => by kernel_rfl, fun j v hv => ?_⟩
  rw [World.cell?_of_block (huz.block _ (by have := B2.out.lt; exact this) (fun e => by injection e with e; exact absurd e (by show ¬ (w.heap.size + 2 = w.heap.size); omega))), Nat.zero_add, B2.out.cell]
  simpa [Pars.ranks, byt] using hv
 ·refine ⟨w.heap.size + 3, by omega, by have := B3.out.lt; omega, fun q => by kernel_rfl, fun j v hv => ?_⟩
  rw [World.cell?_of_block (huz.block _ (by have := B3.out.lt; exact this) (fun e => by injection e with e; exact absurd e (by show ¬ (w.heap.size + 3 = w.heap.size); omega))), Nat.zero_add, B3.out.cell]
  simpa [Pars.ranks, byt] using hv
 ·refine ⟨w.heap.size + 4, by omega, by have := B4.out.lt; omega, fun q => by kernel_rfl, fun j v hv => ?_⟩
  rw [World.cell?_of_block (huz.block _ (by have := B4.out.lt; exact this) (fun e => by injection e with e; exact absurd e (by show ¬ (w.heap.size + 4 = w.heap.size); omega))), Nat.zero_add, B4.out.cell]
  simpa [Pars.ranks, byt] using hv
 ·refine ⟨w.heap.size + 5, by omega, by have := B5.out.lt; omega, fun q => by kernel_rfl, fun j v hv => ?_⟩
  rw [World.cell?_of_block (huz.block _ (by have := B5.out.lt; exact this) (fun e => by injection e with e; exact absurd e (by show ¬ (w.heap.size + 5 = w.heap.size); omega))), Nat.zero_add, B5.out.cell]
  simpa [Pars.ranks, byt] using hv
 ·refine ⟨w.heap.size + 6, by omega, by have := B6.out.lt; omega, fun q => by kernel_rfl, fun j v hv => ?_⟩
  rw [World.cell?_of_block (huz.block _ (by have := B6.out.lt; exact this) (fun e => by injection e with e; exact absurd e (by show ¬ (w.heap.size + 6 = w.heap.size); omega))), Nat.zero_add, B6.out.cell]
  simpa [Pars.ranks, byt] using hv
set_option maxRecDepth 100000 in
set_option maxHeartbeats 4000000 in
theorem joined_any (s : List UInt8) (xa xb : Pars.Node) (ca cb : Array Value) (w : World) (S : Nat → Prop) (ha : NodeAt w S xa ca) (hb : NodeAt w S xb cb) :
  Calls Tryz.prog 98 #[.string (byt s), .agg ca, .agg cb] w fun e w' => ∃ cs, e = .returned (.agg cs) ∧ NodeAt w' (fun g => S g ∨ w.heap.size ≤ g) (Pars.joined s xa xb) cs ∧ Below w.heap.size w w' := by
 obtain ⟨va, hla, hva⟩ := NodeAt.lit ha
 obtain ⟨vb, hlb, hvb⟩ := NodeAt.lit hb
 rw [hla] at ha ⊢
 rw [hlb] at hb ⊢
 clear hla hlb
 have HA := hid ha
 have HB := hid hb
 have HVA := hid hva
 have HVB := hid hvb
 clear ha hb hva hvb
 obtain ⟨TX, hTX⟩ : ∃ q, byt s = q := ⟨_, rfl⟩
 have HTX := hid hTX
 rw [hTX]
 clear hTX
 go_enter Tryz.func98, Tryz.ntmps98
 go_upto_region 1 with fail
 refine gen_world (F := fun W => Box W w.heap.size 24 #[.int .i64 xa.kind, .int .i64 xa.num, .string (byt xa.text), va] ∧ Box W (w.heap.size + 1) 24 #[.int .i64 xb.kind, .int .i64 xb.num, .string (byt xb.text), vb] ∧ Box W (w.heap.size + 2) 24 #[.int .i64 0, .int .i64 0, .string ⟨#[]⟩, .slice none 0 0] ∧ Below w.heap.size w W ∧ W.heap.size = w.heap.size + 3) ⟨((Box.new w _ _).alloc _).alloc _, (new2 w _ _ _).alloc _, new3 w _ _ _ _, ((below1 w _).alloc (by simp) _).alloc (by simp; omega) _, by simp⟩ ?_
 rintro W0 ⟨ba, bb, rb, hU, hz0⟩
 obtain ⟨aa, haa⟩ : ∃ q, w.heap.size = q := ⟨_, rfl⟩
 have HAA := hid haa
 rw [haa] at ba bb rb hz0 ⊢
 clear haa
 have RB := hid rb
 have HU := hid hU
 have hlt := rb.lt
 have HZ0 := hid hz0
 clear hz0
 have BA := hid ba
 have BB := hid bb
 clear rb hU ba bb
 have ba := BA.out
 have bb := BB.out
 have RBB := RB.out.alloc (.cells #[.int .i64 xa.kind, .int .i64 xa.num, .string (byt xa.text), va, .int .i64 xb.kind, .int .i64 xb.num, .string (byt xb.text), vb] 24)
 have hne0 : aa + 1 + 1 ≠ W0.heap.size := by omega
 by_cases y1 : TX = ⟨#[124, 124]⟩
 ·subst y1
  go_wp2_with (first | (refine wpList_load_row rfl 24 (.tmp 4) rfl aa rfl _ #[.int .i64 xa.kind, .int .i64 xa.num, .string (byt xa.text), va] (0, 0) _ ba Tryz.underlying24 rfl info_nod ?_) | (refine wpList_load_row rfl 24 (.tmp 5) rfl (aa + 1) rfl _ #[.int .i64 xb.kind, .int .i64 xb.num, .string (byt xb.text), vb] (0, 0) _ bb Tryz.underlying24 rfl info_nod ?_) | (refine wpList_store_box rfl 24 (.tmp 6) (.tmp 13) rfl (aa + 1 + 1) #[.int .i64 17, .int .i64 0, .string ⟨#[]⟩, .slice (some ⟨W0.heap.size, 0, none⟩) 2 2] rfl rfl 24 _ RBB info_nod rfl (nz_one _ _ _ _ _ _) ?_; intro wz hxz huz hzz; have HZZ := hid hzz; clear hzz))
  refine bodyPost_ret (results_box rfl _ _ (aa + 1 + 1) 24 _ _ rfl hxz Tryz.underlying24 rfl info_nod) rfl ?_
  have bx := Box.grown (Box.new W0 24 #[.int .i64 xa.kind, .int .i64 xa.num, .string (byt xa.text), va, .int .i64 xb.kind, .int .i64 xb.num, .string (byt xb.text), vb]) huz (by intro h; injection h with h; omega)
  have haa := HAA.out
  have hz0 := HZ0.out
  have hU := HU.out
  have hb1 : Below W0.heap.size W0 _ := below1 W0 (.cells #[.int .i64 xa.kind, .int .i64 xa.num, .string (byt xa.text), va, .int .i64 xb.kind, .int .i64 xb.num, .string (byt xb.text), vb] 24)
  have hbz : Below w.heap.size w wz := (hU.trans (hb1.mono hU.size)).trans (huz.own (by omega) (by have := hb1.size; have := hU.size; omega))
  refine ⟨#[.int .i64 17, .int .i64 0, .string ⟨#[]⟩, .slice (some ⟨W0.heap.size, 0, none⟩) 2 2], rfl, ?_, hbz⟩
  have e : Pars.joined s xa xb = .mk 17 0 [] [xa, xb] := by have := byt_inj (HTX.out.trans (show (⟨#[124, 124]⟩ : ByteArray) = byt [124, 124] from rfl)); subst this; rfl
  rw [e]
  exact NodeAt.build (css := [#[.int .i64 xa.kind, .int .i64 xa.num, .string (byt xa.text), va], #[.int .i64 xb.kind, .int .i64 xb.num, .string (byt xb.text), vb]]) 17 0 [] bx (.inr (by have := hU.size; omega)) ⟨NodeAt.keep (fun g h _ => .inl h) hbz.size (fun g _ hg => hbz.block g hg) HA.out, NodeAt.keep (fun g h _ => .inl h) hbz.size (fun g _ hg => hbz.block g hg) HB.out, trivial⟩
 obtain ⟨q1, q2, q3⟩ := same_no y1
 have q4 := of_decide_eq_false q2
 have q5 : (TX.toList == [124, 124]) = false := by
  have e : (⟨#[124, 124]⟩ : ByteArray).toList = [124, 124] := by simp [ByteArray.toList_eq]
  rw [e] at q1
  exact q1
 have z1 : s ≠ [124, 124] := fun e => y1 (by rw [← HTX.out, e]; rfl)
 by_cases y2 : TX = ⟨#[38, 38]⟩
 ·subst y2
  go_wp2_with (first | (refine wpList_load_row rfl 24 (.tmp 4) rfl aa rfl _ #[.int .i64 xa.kind, .int .i64 xa.num, .string (byt xa.text), va] (0, 0) _ ba Tryz.underlying24 rfl info_nod ?_) | (refine wpList_load_row rfl 24 (.tmp 5) rfl (aa + 1) rfl _ #[.int .i64 xb.kind, .int .i64 xb.num, .string (byt xb.text), vb] (0, 0) _ bb Tryz.underlying24 rfl info_nod ?_) | (refine wpList_store_box rfl 24 (.tmp 6) (.tmp 19) rfl (aa + 1 + 1) #[.int .i64 16, .int .i64 0, .string ⟨#[]⟩, .slice (some ⟨W0.heap.size, 0, none⟩) 2 2] rfl rfl 24 _ RBB info_nod rfl (nz_one _ _ _ _ _ _) ?_; intro wz hxz huz hzz; have HZZ := hid hzz; clear hzz))
  refine bodyPost_ret (results_box rfl _ _ (aa + 1 + 1) 24 _ _ rfl hxz Tryz.underlying24 rfl info_nod) rfl ?_
  have bx := Box.grown (Box.new W0 24 #[.int .i64 xa.kind, .int .i64 xa.num, .string (byt xa.text), va, .int .i64 xb.kind, .int .i64 xb.num, .string (byt xb.text), vb]) huz (by intro h; injection h with h; omega)
  have haa := HAA.out
  have hz0 := HZ0.out
  have hU := HU.out
  have hb1 : Below W0.heap.size W0 _ := below1 W0 (.cells #[.int .i64 xa.kind, .int .i64 xa.num, .string (byt xa.text), va, .int .i64 xb.kind, .int .i64 xb.num, .string (byt xb.text), vb] 24)
  have hbz : Below w.heap.size w wz := (hU.trans (hb1.mono hU.size)).trans (huz.own (by omega) (by have := hb1.size; have := hU.size; omega))
  refine ⟨#[.int .i64 16, .int .i64 0, .string ⟨#[]⟩, .slice (some ⟨W0.heap.size, 0, none⟩) 2 2], rfl, ?_, hbz⟩
  have e : Pars.joined s xa xb = .mk 16 0 [] [xa, xb] := by have := byt_inj (HTX.out.trans (show (⟨#[38, 38]⟩ : ByteArray) = byt [38, 38] from rfl)); subst this; rfl
  rw [e]
  exact NodeAt.build (css := [#[.int .i64 xa.kind, .int .i64 xa.num, .string (byt xa.text), va], #[.int .i64 xb.kind, .int .i64 xb.num, .string (byt xb.text), vb]]) 16 0 [] bx (.inr (by have := hU.size; omega)) ⟨NodeAt.keep (fun g h _ => .inl h) hbz.size (fun g _ hg => hbz.block g hg) HA.out, NodeAt.keep (fun g h _ => .inl h) hbz.size (fun g _ hg => hbz.block g hg) HB.out, trivial⟩
 obtain ⟨p1, p2, p3⟩ := same_no y2
 have p4 := of_decide_eq_false p2
 have p5 : (TX.toList == [38, 38]) = false := by
  have e : (⟨#[38, 38]⟩ : ByteArray).toList = [38, 38] := by simp [ByteArray.toList_eq]
  rw [e] at p1
  exact p1
 have z2 : s ≠ [38, 38] := fun e => y2 (by rw [← HTX.out, e]; rfl)
 have ZZ := hid (And.intro z1 z2)
 clear z1 z2
 go_wp2_with (first | (refine wpList_load_row rfl 24 (.tmp 4) rfl aa rfl _ #[.int .i64 xa.kind, .int .i64 xa.num, .string (byt xa.text), va] (0, 0) _ ba Tryz.underlying24 rfl info_nod ?_) | (refine wpList_load_row rfl 24 (.tmp 5) rfl (aa + 1) rfl _ #[.int .i64 xb.kind, .int .i64 xb.num, .string (byt xb.text), vb] (0, 0) _ bb Tryz.underlying24 rfl info_nod ?_) | (refine wpList_store_box rfl 24 (.tmp 6) (.tmp 24) rfl (aa + 1 + 1) #[.int .i64 15, .int .i64 0, .string TX, .slice (some ⟨W0.heap.size, 0, none⟩) 2 2] rfl rfl 24 _ RBB info_nod rfl (nz_one _ _ _ _ _ _) ?_; intro wz hxz huz hzz; have HZZ := hid hzz; clear hzz))
 refine bodyPost_ret (results_box rfl _ _ (aa + 1 + 1) 24 _ _ rfl hxz Tryz.underlying24 rfl info_nod) rfl ?_
 have bx := Box.grown (Box.new W0 24 #[.int .i64 xa.kind, .int .i64 xa.num, .string (byt xa.text), va, .int .i64 xb.kind, .int .i64 xb.num, .string (byt xb.text), vb]) huz (by intro h; injection h with h; omega)
 have haa := HAA.out
 have hz0 := HZ0.out
 have hU := HU.out
 have hb1 : Below W0.heap.size W0 _ := below1 W0 (.cells #[.int .i64 xa.kind, .int .i64 xa.num, .string (byt xa.text), va, .int .i64 xb.kind, .int .i64 xb.num, .string (byt xb.text), vb] 24)
 have hbz : Below w.heap.size w wz := (hU.trans (hb1.mono hU.size)).trans (huz.own (by omega) (by have := hb1.size; have := hU.size; omega))
 refine ⟨#[.int .i64 15, .int .i64 0, .string TX, .slice (some ⟨W0.heap.size, 0, none⟩) 2 2], rfl, ?_, hbz⟩
 have e : Pars.joined s xa xb = .mk 15 0 s [xa, xb] := by unfold Pars.joined; rw [if_neg ZZ.out.1, if_neg ZZ.out.2]
 rw [e]
 rw [← HTX.out]
 exact NodeAt.build (css := [#[.int .i64 xa.kind, .int .i64 xa.num, .string (byt xa.text), va], #[.int .i64 xb.kind, .int .i64 xb.num, .string (byt xb.text), vb]]) 15 0 s bx (.inr (by have := hU.size; omega)) ⟨NodeAt.keep (fun g h _ => .inl h) hbz.size (fun g _ hg => hbz.block g hg) HA.out, NodeAt.keep (fun g h _ => .inl h) hbz.size (fun g _ hg => hbz.block g hg) HB.out, trivial⟩
end Go.Proofs.YtonjdlialejedaaGreatDoor
