/-
  How many parents a node has. Conditions: each parent is a node, or none.
-/
import Derived.Test.YtdommcjlpibpeaaDoorEvA
namespace Go.Proofs.YtdommcjlpibpeaaDoor
set_option linter.unusedSimpArgs false
set_option linter.unusedVariables false
open Go.RowKit

abbrev nods (d : List NodeV) : List Domy.Node := d.map (·.n)
theorem nods_at {d : List NodeV} {k : Nat} {x : NodeV} (h : d[k]? = some x) : (nods d)[k]? = some x.n := by simp [nods, h]
theorem up_step {d : List Domy.Node} {m N : Nat} {x : Domy.Node} (h : d[N]? = some x) : Domy.upGo d (m + 1) (N : Int) = if 0 ≤ x.parent then 1 + Domy.upGo d m x.parent else 0 := by
  rw [Domy.upGo, Int.toNat_natCast, h]
set_option maxRecDepth 100000 in
set_option maxHeartbeats 2000000 in
theorem up_any (d : List NodeV) (v : Value) (q : Bool) (N : Nat) (w : World) (hd : DRd w d v) (hN : N < d.length) (hl : d.length ≤ 1000) (hp : ∀ x ∈ d, x.n.parent < (d.length : Int)) :
    Calls Tryd.prog 34 #[.agg (dag v q), .int .i64 (N : Int)] w fun e w' => e = .returned (.int .i64 (Domy.up (nods d) (N : Int) : Int)) ∧ Below w.heap.size w w' := by
  have HD := Lib.hid hd
  have hpl : (nods d).length = d.length := by simp [nods]
  obtain ⟨A, cap, rfl, hc1, hc2, hrow⟩ := hd.r
  obtain ⟨g0, o0, rfl, hg0, hrg⟩ := hrow (by omega)
  have HP := Lib.hid hp
  have HRG := Lib.hid hrg
  have hup : Hid (Domy.up (nods d) (N : Int) = 0 + Domy.upGo (nods d) (d.length + 1 - 0) (N : Int)) := by show _ = _; unfold Domy.up; rw [hpl]; simp
  clear hd hrow hrg hp hpl
  go_enter Tryd.func34, Tryd.ntmps34
  go_upto_region 1 with (fail)
  have b0 := Box.new w 24 (dag (.slice (some ⟨g0, o0, none⟩) d.length cap) q)
  have hU : Below w.heap.size w (w.alloc (.cells (dag (.slice (some ⟨g0, o0, none⟩) d.length cap) q) 24)) := below1 w _
  generalize (w.alloc (.cells (dag (.slice (some ⟨g0, o0, none⟩) d.length cap) q) 24)) = W at *
  have c0 := b0.cell 0
  simp at c0
  go_loopg [1, 4] (d.length + 1) (fun gg s1 s4 wr => ∃ (m M : Nat), m ≤ d.length + 1 ∧ d.length + 1 - m ≤ gg ∧ s1 = .int .i64 (M : Int) ∧ s4 = .int .i64 (m : Int) ∧ M < d.length ∧ wr = W ∧ Hid (Domy.up (nods d) (N : Int) = m + Domy.upGo (nods d) (d.length + 1 - m) (M : Int)))
  case atStart => exact ⟨0, N, by omega, by omega, rfl, rfl, hN, rfl, hup⟩
  case round =>
    obtain ⟨m, M, hm, hg, rfl, rfl, hM, rfl, HU⟩ := hrel
    obtain ⟨x, hx⟩ : ∃ x, d[M]? = some x := ⟨_, List.getElem?_eq_getElem hM⟩
    have hcell : wr.cell? ⟨g0, o0 + M * 6 + 4, none⟩ = some (.int .i64 x.n.parent) := by
      rw [hU.cell (p := ⟨g0, o0 + M * 6 + 4, none⟩) hg0]
      exact RdL.elem (k := 6) (f := nc) (fun _ => rfl) HRG.out hx 4 _ rfl
    have hMz : (M : Int) < (d.length : Int) := by omega
    have hpx := HP.out x (List.mem_of_getElem? hx)
    have hxn := nods_at hx
    by_cases hpos : x.n.parent ≥ 0
    · have dp : decide (x.n.parent ≥ 0) = true := decide_eq_true hpos
      by_cases hle : m ≤ d.length
      · have dm : decide ((m : Int) ≤ (d.length : Int)) = true := by simp; omega
        have dmN : decide (m ≤ d.length) = true := by simp; omega
        have hst := up_step (m := d.length - m) hxn
        rw [if_pos (by omega), show d.length - m + 1 = d.length + 1 - m by omega] at hst
        obtain ⟨Y, hY⟩ : ∃ Y : Nat, x.n.parent = (Y : Int) := ⟨x.n.parent.toNat, by omega⟩
        rw [hY] at hcell dp hst hpx
        have HS := Lib.hid hst
        clear hst hx hxn hpos hY
        have hpx2 : Y < d.length := by omega
        have dY : decide (0 ≤ (Y : Int)) = true := by simp
        go_wp2
        go_roundg (d.length + 1 - (m + 1))
        case measure => omega
        case rel =>
          refine ⟨m + 1, Y, by omega, by omega, rfl, by go_num, hpx2, rfl, ?_⟩
          show _ = _
          rw [HU.out, HS.out, show d.length + 1 - (m + 1) = d.length - m by omega]
          omega
      · have dm : decide ((m : Int) ≤ (d.length : Int)) = false := by simp; omega
        have dmN : decide (m ≤ d.length) = false := by simp; omega
        have HM : Hid (m = d.length + 1) := by show _ = _; omega
        clear hx hxn
        go_wp2
        go_ret
        refine ⟨ret_int ?_, hU⟩
        rw [HU.out, HM.out, Nat.sub_self]
        rfl
    · have dp : decide (x.n.parent ≥ 0) = false := decide_eq_false hpos
      have HX := Lib.hid hxn
      have HPO := Lib.hid hpos
      clear hx hxn hpos
      go_wp2
      go_ret
      refine ⟨ret_int ?_, hU⟩
      rw [HU.out]
      by_cases hle : m ≤ d.length
      · rw [show d.length + 1 - m = d.length - m + 1 by omega, up_step HX.out, if_neg (by have := HPO.out; omega)]; rfl
      · rw [show d.length + 1 - m = 0 by omega]; rfl
end Go.Proofs.YtdommcjlpibpeaaDoor
