/-
  The little document of eventLives. Conditions: none.
-/
import Derived.Test.YtdommcjlpibpeaaDoorEvT
namespace Evy
/-- two elements, one in the other. -/
def twoN : List Domy.Node := [⟨1, [], [], [], -1, [1]⟩, ⟨2, [97], [], [], 0, [2]⟩, ⟨2, [98], [], [], 1, []⟩]
def twoL : List Lis := [⟨1, 1, [120], false, false, false, false, false⟩, ⟨2, 1, [120], true, false, false, false, false⟩, ⟨3, 2, [120], false, true, false, false, false⟩]
def twoE : Ev := ⟨[120], 2, 0, 0, [], true, false⟩
def twoH : List Hrd := [⟨2, 1, 1⟩, ⟨3, 2, 2⟩, ⟨1, 1, 3⟩]
theorem two_send : send twoN twoL twoE = (twoH, false, twoL.take 2, 0) := by decide +kernel
end Evy
namespace Go.Proofs.YtdommcjlpibpeaaDoor
set_option linter.unusedSimpArgs false
set_option linter.unusedVariables false
open Go.RowKit Go.Maps

theorem rd_box {α : Type} {w : World} {k n g : Nat} {t : TypeId} {f : α → Array Value} {l : List α} {cs : Array Value} (h : Box w g t cs) (he : cs.toList = flat f l) (hn : l.length = n) (hs : n ≤ 100) : RdL w k f l (.slice (some ⟨g, 0, none⟩) n n) := by
  subst hn
  refine ⟨_, _, rfl, Nat.le_refl _, by omega, fun _ => ⟨g, 0, rfl, h.lt, fun j u hu => ?_⟩⟩
  rw [Nat.zero_add, h.cell, ← Array.getElem?_toList, he]
  exact hu
theorem new4 (w : World) (o o' o2 : Obj) (t : TypeId) (cs : Array Value) : Box ((((w.alloc o).alloc o').alloc o2).alloc (.cells cs t)) (w.heap.size + 3) t cs := by
  have := Box.new (((w.alloc o).alloc o').alloc o2) t cs
  rwa [World.size_alloc, World.size_alloc, World.size_alloc] at this
def twoV (a : Nat) : List NodeV := [⟨⟨1, [], [], [], -1, [1]⟩, none, 0, some ⟨a, 0, none⟩, 1⟩, ⟨⟨2, [97], [], [], 0, [2]⟩, none, 0, some ⟨a + 1, 0, none⟩, 1⟩, ⟨⟨2, [98], [], [], 1, []⟩, none, 0, none, 0⟩]
set_option maxRecDepth 100000 in
set_option maxHeartbeats 2000000 in
theorem twoDoc_any (w : World) :
    Calls Tryd.prog 25 #[] w fun e w' => ∃ d v q, e = .returned (.agg (dag v q)) ∧ nods d = Evy.twoN ∧ DRd w' d v ∧ Below w.heap.size w w' := by
  go_enter Tryd.func25, Tryd.ntmps25
  go_wp2_with (fail)
  refine bodyPost_ret (results_box rfl _ _ w.heap.size 24 (dag (.slice (some ⟨w.heap.size + 3, 0, none⟩) 3 3) false) _ rfl ?hg Tryd.underlying24 rfl info_doc) rfl ?_
  case hg => exact (((Box.new w _ _).alloc _).alloc _).alloc _
  refine ⟨twoV (w.heap.size + 1), _, false, rfl, rfl, ⟨rd_box (by exact new4 w _ _ _ _ _) (by rfl) rfl (by omega), ?_⟩, (((below1 w _).alloc (by simp <;> omega) _).alloc (by simp <;> omega) _).alloc (by simp <;> omega) _⟩
  intro x hx
  have k1 := ((new2 w (.cells (dag (.slice (some ⟨w.heap.size + 3, 0, none⟩) 3 3) false) 24) 3 #[.int .i64 1]).alloc (.cells #[.int .i64 2] 3))
  simp only [twoV, List.mem_cons, List.not_mem_nil, or_false] at hx
  rcases hx with rfl | rfl | rfl
  · exact ⟨Rd.nil _ _, rd_box (by exact ((new2 w _ _ _).alloc _).alloc _) (by rfl) rfl (by show (1 : Nat) ≤ 100; omega)⟩
  · exact ⟨Rd.nil _ _, rd_box (by exact (new3 w _ _ _ _).alloc _) (by rfl) rfl (by show (1 : Nat) ≤ 100; omega)⟩
  · exact ⟨Rd.nil _ _, Rd.nil _ _⟩
set_option maxRecDepth 100000 in
set_option maxHeartbeats 2000000 in
theorem eventLives_true (w : World) :
    Calls Tryd.prog 9 #[] w fun e w' => e = .returned (.bool true) ∧ Below w.heap.size w w' := by
  have HT := Lib.hid twoDoc_any
  go_enter Tryd.func9, Tryd.ntmps9
  go_upto_region 2 with (fail)
  refine gen_world (F := fun W => Box W w.heap.size 43 #[.int .i64 1, .int .i64 1, .string (byt [120]), .bool false, .bool false, .bool false, .bool false, .bool false, .int .i64 2, .int .i64 1, .string (byt [120]), .bool true, .bool false, .bool false, .bool false, .bool false, .int .i64 3, .int .i64 2, .string (byt [120]), .bool false, .bool true, .bool false, .bool false, .bool false] ∧ Below w.heap.size w W) ⟨Box.new w _ _, below1 w _⟩ ?_
  rintro W ⟨bl, hU⟩
  go_wp2_with (fail)
  refine (HT.out _).mono ?_
  rintro e w1 ⟨d, v, q, rfl, hd, hrd, hb⟩
  have bl1 := bl.below hb bl.lt
  have HSE := Lib.hid (send_any d v q Evy.twoL (.slice (some ⟨w.heap.size, 0, none⟩) 3 3) Evy.twoE w1 hrd (rd_box bl1 (by rfl) rfl (by omega)) (by intro x hx; simp only [Evy.twoL, List.mem_cons, List.not_mem_nil, or_false] at hx; rcases hx with rfl | rfl | rfl <;> decide))
  rw [hd, Evy.two_send] at HSE
  have HU1 := Lib.hid (hU.trans (hb.mono hU.size))
  clear hrd hd hb bl hU
  go_wp2_with (fail)
  refine (HSE.out).mono ?_
  rintro e w2 ⟨H, L, rfl, hH, hL, hb2⟩
  have hH' : w2.ownsRow w1.heap.size 46 3 H 3 (flat hc Evy.twoH) := hH
  have hL' : w2.ownsRow w1.heap.size 43 8 L 2 (flat lc (Evy.twoL.take 2)) := hL
  obtain ⟨A1, cap1, rfl⟩ := own_slice hH'
  obtain ⟨A2, cap2, rfl⟩ := own_slice hL'
  have HH := Lib.hid hH'
  have HB2 := Lib.hid (HU1.out.trans (hb2.mono HU1.out.size))
  have hz2 := HB2.out.size
  clear hH hL hH' hL' hb2 HSE bl1
  simp only
  go_wp2_with (fail)
  refine (equal_hrd Evy.twoH Evy.twoH _ (.slice (some ⟨w2.heap.size, 0, none⟩) 3 3) _ ((Rd.own HH.out).below (below1 w2 _)) (rd_box (Box.new w2 _ _) (by rfl) rfl (by omega)) (by decide) (by decide)).mono ?_
  rintro e w3 ⟨rfl, hb3⟩
  rw [decide_eq_true rfl]
  have HB3 := Lib.hid (HB2.out.trans (((below1 w2 _).trans (hb3.mono (by simp))).mono hz2))
  go_wp2
  go_ret
  exact ⟨rfl, HB3.out⟩
end Go.Proofs.YtdommcjlpibpeaaDoor
