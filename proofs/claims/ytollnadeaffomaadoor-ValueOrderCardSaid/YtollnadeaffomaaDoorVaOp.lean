/-
  A script's value as an argument: read as data, and back. Conditions: as each says.
-/
import Derived.Test.YtollnadeaffomaaDoorJval
import Derived.ProofKit
import Derived.OpenShut
import Derived.ShutString
import Derived.SizedLaws
import Derived.Lib.SmallJoins
import Derived.ChangeSame
namespace Go.Proofs.YtollnadeaffomaaDoor
open Go.ChangeShapes Go.WideShapes Go.RowKit Go.Joins

section
variable {H : Type} {enc : TypeId × Value → H} {w : World} {base : Nat} {spare : Nat → Bool} {held : Bool}
/-- a value's datum. -/
def vdat (v : Valu.V) : DataW H := .agg [.lit (.int .i64 v.k), .lit (.int .i64 v.n), .lit (.string v.s)]
def vwf (v : Valu.V) : Prop := (Lit.int .i64 v.k).wf = true ∧ (Lit.int .i64 v.n).wf = true ∧ (byt v.s).size ≤ maxLen

theorem open_val {r : Reach} {b0 : Nat} {x : Value} {d : DataW H} {p : List MemPlace} (hv : Value.okWide Tryd.prog w r b0 23 x) (h : DataW.Trod enc Tryd.prog w base spare held 23 x d p) :
    ∃ v : Valu.V, x = vag v ∧ d = vdat v ∧ p = [] ∧ vwf v := by
  obtain ⟨c0, c1, c2, y0, y1, y2, m, rfl, rfl, rfl, h0, h1, h2⟩ := open_agg3 Tryd.underlying23 (by kernel_rfl) (by kernel_rfl) hv h
  obtain ⟨k, e0, rfl, wk⟩ := DataW.trod_int Tryd.underlying3 h0
  obtain ⟨n, e1, rfl, wn⟩ := DataW.trod_int Tryd.underlying3 h1
  obtain ⟨s, e2, rfl, ws⟩ := DataW.trod_string Tryd.underlying9 h2
  simp at e0 e1 e2
  subst e0 e1 e2
  refine ⟨⟨k, n, s.data.toList⟩, ?_, rfl, rfl, wk, wn, ?_⟩
  · show Value.agg #[.int .i64 k, .int .i64 n, .string s] = .agg #[.int .i64 k, .int .i64 n, .string (byt s.data.toList)]
    have : byt s.data.toList = s := by cases s; simp [byt]
    rw [this]
  · rw [byt_size]
    have e : s.data.toList.length = s.size := by simp
    show s.data.toList.length ≤ maxLen
    omega
theorem shut_val (v : Valu.V) (hw : vwf v) : DataW.Trod enc Tryd.prog w base spare held 23 (vag v) (vdat v) [] := by
  have h := shut_agg3 (enc := enc) (P := Tryd.prog) (w := w) (base := base) (spare := spare) (held := held) (t := 23) (v0 := .int .i64 v.k) (v1 := .int .i64 v.n) (v2 := .string (byt v.s))
    (y0 := (.lit (.int .i64 v.k), [])) (y1 := (.lit (.int .i64 v.n), [])) (y2 := (.lit (.string v.s), [])) Tryd.underlying23 (by kernel_rfl) (by kernel_rfl)
    ⟨1, by simp [DataW.trod, Tryd.underlying3, hw.1]⟩ ⟨1, by simp [DataW.trod, Tryd.underlying3, hw.2.1]⟩ ⟨1, by simp [DataW.trod, Tryd.underlying9, hw.2.2, byt_data]⟩
  exact h
/-- a value's text takes at most what the reach lets. -/
theorem sized_val {ts : List TypeId} {ds : List (DataW H)} (h : (DataW.weightsEach Tryd.prog ts ds).all (· ≤ reachBytes) = true) {j : Nat} {v : Valu.V} (ht : ts[j]? = some 23) (hd : ds[j]? = some (vdat v)) : v.s.length ≤ 140737488351232 := by
  have := List.all_eq_true.1 h _ (DataW.weights_mem_each ht hd v.s.length (by simp [vdat, DataW.weights, DataW.weightsEach, Tryd.underlying23]))
  exact of_decide_eq_true this
end
end Go.Proofs.YtollnadeaffomaaDoor
