/-
  ValueSame's walk. Conditions: the library's table lies where it lies; a text has fewer than 2^47 bytes.
-/
import Derived.Test.YtollnadeaffomaaDoorVaG
namespace Go.Proofs.YtollnadeaffomaaDoor
open Go.RowKit

theorem held2 {w W wp w1 : World} {n0 n1 : Nat} {a b : Valu.V} (he : Env w) (h4 : 4 ≤ w.heap.size) (hb0 : Below w.heap.size w W) (h0 : VBox W n0 a) (h1 : VBox W n1 b) (hW : Below W.heap.size W wp) (hb : Below wp.heap.size wp w1) :
    Env w1 ∧ 4 ≤ w1.heap.size ∧ Below W.heap.size W w1 ∧ w1.cell? ⟨n0, 0, none⟩ = some (.int .i64 a.k) ∧ w1.cell? ⟨n0, 1, none⟩ = some (.int .i64 a.n) ∧ w1.cell? ⟨n0, 2, none⟩ = some (.string (byt a.s)) ∧ w1.cell? ⟨n1, 0, none⟩ = some (.int .i64 b.k) ∧ w1.cell? ⟨n1, 1, none⟩ = some (.int .i64 b.n) ∧ w1.cell? ⟨n1, 2, none⟩ = some (.string (byt b.s)) := by
  have hh : Below W.heap.size W w1 := hW.trans (hb.mono hW.size)
  have hx := hb0.trans (hh.mono hb0.size)
  have hy := hx.size
  obtain ⟨a0, b0, c0⟩ := box3 (Box.below h0 hh h0.lt)
  obtain ⟨a1, b1, c1⟩ := box3 (Box.below h1 hh h1.lt)
  exact ⟨he.below hx h4, by omega, hh, a0, b0, c0, a1, b1, c1⟩

theorem held4 {w W wp w1 : World} {n0 n1 n2 n3 : Nat} {a b c d : Valu.V} (he : Env w) (h4 : 4 ≤ w.heap.size) (hb0 : Below w.heap.size w W) (h0 : VBox W n0 a) (h1 : VBox W n1 b) (h2 : VBox W n2 c) (h3 : VBox W n3 d) (hW : Below W.heap.size W wp) (hb : Below wp.heap.size wp w1) :
    Env w1 ∧ 4 ≤ w1.heap.size ∧ Below W.heap.size W w1 ∧ w1.cell? ⟨n0, 0, none⟩ = some (.int .i64 a.k) ∧ w1.cell? ⟨n0, 1, none⟩ = some (.int .i64 a.n) ∧ w1.cell? ⟨n0, 2, none⟩ = some (.string (byt a.s)) ∧ w1.cell? ⟨n1, 0, none⟩ = some (.int .i64 b.k) ∧ w1.cell? ⟨n1, 1, none⟩ = some (.int .i64 b.n) ∧ w1.cell? ⟨n1, 2, none⟩ = some (.string (byt b.s)) ∧ w1.cell? ⟨n2, 0, none⟩ = some (.int .i64 c.k) ∧ w1.cell? ⟨n2, 1, none⟩ = some (.int .i64 c.n) ∧ w1.cell? ⟨n2, 2, none⟩ = some (.string (byt c.s)) ∧ w1.cell? ⟨n3, 0, none⟩ = some (.int .i64 d.k) ∧ w1.cell? ⟨n3, 1, none⟩ = some (.int .i64 d.n) ∧ w1.cell? ⟨n3, 2, none⟩ = some (.string (byt d.s)) := by
  have hh : Below W.heap.size W w1 := hW.trans (hb.mono hW.size)
  have hx := hb0.trans (hh.mono hb0.size)
  have hy := hx.size
  obtain ⟨a0, b0, c0⟩ := box3 (Box.below h0 hh h0.lt)
  obtain ⟨a1, b1, c1⟩ := box3 (Box.below h1 hh h1.lt)
  obtain ⟨a2, b2, c2⟩ := box3 (Box.below h2 hh h2.lt)
  obtain ⟨a3, b3, c3⟩ := box3 (Box.below h3 hh h3.lt)
  exact ⟨he.below hx h4, by omega, hh, a0, b0, c0, a1, b1, c1, a2, b2, c2, a3, b3, c3⟩

/-- what the region keeps is kept: the first world. -/
theorem drew0 (W : World) : Below W.heap.size W W.drew := Below.drew (Below.refl _ W)

theorem not_is (v : Valu.V) (hz : v.s.length ≤ 140737488355328) (t : Bool) (ht : Valu.truthy v = t) (w : World) :
    Calls Tryd.prog 12 #[.string ⟨#[33]⟩, vag v] w fun e w' => e = .returned (.tuple #[vag (Valu.truth (!t)), .string ⟨#[]⟩]) ∧ Below w.heap.size w w' := by rw [← ht]; exact not_any v w hz
theorem not_not (t : Bool) (w : World) :
    Calls Tryd.prog 12 #[.string ⟨#[33]⟩, vag (Valu.truth (!t))] w fun e w' => e = .returned (.tuple #[vag (Valu.truth t), .string ⟨#[]⟩]) ∧ Below w.heap.size w w' := by
  have h := not_is (Valu.truth (!t)) (by cases t <;> decide) (!t) (Valu.truthy_truth _) w
  rwa [Bool.not_not] at h
theorem truth_is (v : Valu.V) (hz : v.s.length ≤ 140737488355328) (t : Bool) (ht : Valu.truthy v = t) (w : World) :
    Calls Tryd.prog 11 #[vag v] w fun e w' => e = .returned (.bool t) ∧ Below w.heap.size w w' := by rw [← ht]; exact truthy_any v w (by omega)
theorem same_is (a b : Valu.V) (ha : a.s.length ≤ 140737488355328) (hb : b.s.length ≤ 140737488355328) (s : Bool) (hs : Valu.same a b = s) (w : World) :
    Calls Tryd.prog 13 #[vag a, vag b] w fun e w' => e = .returned (.bool s) ∧ Below w.heap.size w w' := by rw [← hs]; exact same_any a b w ha hb
theorem text_is (v : Valu.V) (hz : v.s.length ≤ 140737488355328) (x : Valu.Bs) (hx : Valu.text v = x) (w : World) (he : Env w) (h4 : 4 ≤ w.heap.size) :
    Calls Tryd.prog 14 #[vag v] w fun e w' => e = .returned (.string (byt x)) ∧ Below w.heap.size w w' := by rw [← hx]; exact text_any v w he h4 hz
theorem kind_is (v : Valu.V) (hz : v.s.length ≤ 140737488355328) (x : Valu.Bs) (hx : Valu.kind v = x) (w : World) :
    Calls Tryd.prog 15 #[vag v] w fun e w' => e = .returned (.string (byt x)) ∧ Below w.heap.size w w' := by rw [← hx]; exact kind_any v w hz

def SameTo (b : Valu.V) (s : Bool) (X K : Valu.Bs) (t : Bool) : Prop := s = true → Valu.text b = X ∧ Valu.kind b = K ∧ Valu.truthy b = t
end Go.Proofs.YtollnadeaffomaaDoor
