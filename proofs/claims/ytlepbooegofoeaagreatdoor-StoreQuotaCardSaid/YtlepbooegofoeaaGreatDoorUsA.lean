/-
  Addresses compared, checked, written; the origin of a text. Conditions: the library's variables hold what they hold; the parts are short; the path lies in memory.
-/
import Derived.Test.YtlepbooegofoeaaGreatDoorUrZ
namespace Go.Proofs.YtlepbooegofoeaaGreatDoor
set_option linter.unusedSimpArgs false
set_option linter.unusedVariables false
open Go.RowKit

theorem txts_getD (l : List (List UInt8)) (j : Nat) (h : j < l.length) : (txts l)[j]? = some (.string ((l.map byt).getD j ByteArray.empty)) := by
  simp [txts, h, List.getD]
theorem eq_texts (l : List (List UInt8)) (h0 : l ≠ []) (va vb : Value) (w : World) (ha : Rd w 1 (txts l) l.length va) (hb : Rd w 1 (txts l) l.length vb) :
    Calls Tryz.prog 30 #[va, vb] w fun e w' => e = .returned (.bool true) ∧ Below w.heap.size w w' := by
  have hp : 0 < l.length := List.length_pos_iff.2 h0
  obtain ⟨A, ca, rfl, h1, h2, h3⟩ := ha
  obtain ⟨B, cb, rfl, k1, k2, k3⟩ := hb
  obtain ⟨g, o, rfl, h4, h5⟩ := h3 hp
  obtain ⟨g', o', rfl, k4, k5⟩ := k3 hp
  refine (Tryz.slices_Equal_string g o l.length ca g' o' l.length cb (l.map byt) (l.map byt) w (by simp) (by simp) (by omega) (by omega) (fun j hj => h5 j _ (txts_getD l j (by simpa using hj))) (fun j hj => k5 j _ (txts_getD l j (by simpa using hj)))).mono ?_
  rintro e w' ⟨h6, q, rfl⟩
  exact ⟨by rw [h6]; simp, below_drewN (Below.refl _ _) q⟩
set_option maxRecDepth 100000 in
set_option maxHeartbeats 4000000 in
theorem same_any (u : Urly.U) (h0 : u.path ≠ []) (va vb : Value) (w : World) (ha : Rd w 1 (txts u.path) u.path.length va) (hb : Rd w 1 (txts u.path) u.path.length vb) :
    Calls Tryz.prog 61 #[.agg (ucells u va), .agg (ucells u vb)] w fun e w' => e = .returned (.bool true) ∧ Below w.heap.size w w' := by
  have HEQ : Hid (∀ w1, Below w.heap.size w w1 → Calls Tryz.prog 30 #[va, vb] w1 fun e w' => e = .returned (.bool true) ∧ Below w1.heap.size w1 w') := Lib.hid (fun w1 h1 => eq_texts u.path h0 va vb w1 (ha.below h1) (hb.below h1))
  have HA : Hid (Box ((w.alloc (.cells (ucells u va) 47)).alloc (.cells (ucells u vb) 47)) w.heap.size 47 (ucells u va)) := Lib.hid ((Box.new w _ _).alloc _)
  have HB : Hid (Box ((w.alloc (.cells (ucells u va) 47)).alloc (.cells (ucells u vb) 47)) (w.heap.size + 1) 47 (ucells u vb)) := Lib.hid (new2 w _ _ _)
  have HW : Hid (Below w.heap.size w ((w.alloc (.cells (ucells u va) 47)).alloc (.cells (ucells u vb) 47))) := Lib.hid ((below1 w _).alloc (by simp) _)
  obtain ⟨ca, hca⟩ : ∃ c, ucells u va = c := ⟨_, rfl⟩
  obtain ⟨cb, hcb⟩ : ∃ c, ucells u vb = c := ⟨_, rfl⟩
  obtain ⟨A, hA⟩ : ∃ c, byt u.scheme = c := ⟨_, rfl⟩
  obtain ⟨H, hH⟩ : ∃ c, byt u.host = c := ⟨_, rfl⟩
  obtain ⟨P, hP⟩ : ∃ c : Int, (u.port : Int) = c := ⟨_, rfl⟩
  obtain ⟨Q, hQ⟩ : ∃ c, byt u.query = c := ⟨_, rfl⟩
  obtain ⟨F, hF⟩ : ∃ c, byt u.fragment = c := ⟨_, rfl⟩
  have HCA : Hid (ca = #[.string A, .string H, .int .i64 P, va, .string Q, .bool u.asks, .string F, .bool u.points]) := Lib.hid (by rw [← hca, ← hA, ← hH, ← hP, ← hQ, ← hF]; rfl)
  have HCB : Hid (cb = #[.string A, .string H, .int .i64 P, vb, .string Q, .bool u.asks, .string F, .bool u.points]) := Lib.hid (by rw [← hcb, ← hA, ← hH, ← hP, ← hQ, ← hF]; rfl)
  rw [hca, hcb] at HW
  rw [hca] at HA
  rw [hcb] at HB
  rw [hcb] at HA
  rw [hca] at HB
  rw [hca, hcb]
  clear hca hcb hA hH hP hQ hF ha hb h0
  have HA2 := HA.out
  have HB2 := HB.out
  obtain ⟨w1, hw1⟩ : ∃ w1, (w.alloc (.cells ca 47)).alloc (.cells cb 47) = w1 := ⟨_, rfl⟩
  rw [hw1] at HA2 HB2
  rw [hw1] at HW
  have hq : decide (A.toList = A.toList) = true := by simp
  have HX : Hid (∀ {wx : World}, Box wx w.heap.size 47 ca → wx.cell? ⟨w.heap.size, 0, none⟩ = some (.string A) ∧ wx.cell? ⟨w.heap.size, 1, none⟩ = some (.string H) ∧ wx.cell? ⟨w.heap.size, 2, none⟩ = some (.int .i64 P) ∧ wx.cell? ⟨w.heap.size, 3, none⟩ = some va ∧ wx.cell? ⟨w.heap.size, 4, none⟩ = some (.string Q) ∧ wx.cell? ⟨w.heap.size, 5, none⟩ = some (.bool u.asks) ∧ wx.cell? ⟨w.heap.size, 6, none⟩ = some (.string F) ∧ wx.cell? ⟨w.heap.size, 7, none⟩ = some (.bool u.points)) := Lib.hid (fun hx => by
    rw [HCA.out] at hx
    exact ⟨hx.cell 0, hx.cell 1, hx.cell 2, hx.cell 3, hx.cell 4, hx.cell 5, hx.cell 6, hx.cell 7⟩)
  have HY : Hid (∀ {wx : World}, Box wx (w.heap.size + 1) 47 cb → wx.cell? ⟨w.heap.size + 1, 0, none⟩ = some (.string A) ∧ wx.cell? ⟨w.heap.size + 1, 1, none⟩ = some (.string H) ∧ wx.cell? ⟨w.heap.size + 1, 2, none⟩ = some (.int .i64 P) ∧ wx.cell? ⟨w.heap.size + 1, 3, none⟩ = some vb ∧ wx.cell? ⟨w.heap.size + 1, 4, none⟩ = some (.string Q) ∧ wx.cell? ⟨w.heap.size + 1, 5, none⟩ = some (.bool u.asks) ∧ wx.cell? ⟨w.heap.size + 1, 6, none⟩ = some (.string F) ∧ wx.cell? ⟨w.heap.size + 1, 7, none⟩ = some (.bool u.points)) := Lib.hid (fun hx => by
    rw [HCB.out] at hx
    exact ⟨hx.cell 0, hx.cell 1, hx.cell 2, hx.cell 3, hx.cell 4, hx.cell 5, hx.cell 6, hx.cell 7⟩)
  obtain ⟨a0, a1, a2, a3, a4, a5, a6, a7⟩ := HX.out HA.out
  obtain ⟨b0, b1, b2, b3, b4, b5, b6, b7⟩ := HY.out HB.out
  have HZA := Lib.hid HA2
  have HZB := Lib.hid HB2
  have HW1 := Lib.hid hw1
  have hsz : w.heap.size + 1 < w1.heap.size := HB2.lt
  clear HA2 HB2 hw1
  go_enter Tryz.func61, Tryz.ntmps61
  go_wp2_with (fail)
  rw [HW1.out]
  refine (HEQ.out _ HW.out).mono ?_
  rintro e w2 ⟨rfl, hw2⟩
  obtain ⟨d0, d1, d2, d3, d4, d5, d6, d7⟩ := HX.out (HZA.out.below hw2 (by omega))
  obtain ⟨e0, e1, e2, e3, e4, e5, e6, e7⟩ := HY.out (HZB.out.below hw2 hsz)
  have HW2 := Lib.hid (HW.out.trans (hw2.mono HW.out.size))
  clear hw2
  go_wp2
  go_ret
  exact ⟨by simp, HW2.out⟩
end Go.Proofs.YtlepbooegofoeaaGreatDoor
