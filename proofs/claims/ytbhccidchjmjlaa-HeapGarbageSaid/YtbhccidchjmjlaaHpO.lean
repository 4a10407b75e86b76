/-
  Cells, values and rows of values as arguments: opened to cells. Conditions: as each says.
-/
import Derived.Test.YtbhccidchjmjlaaHpD
import Derived.Deep.Slices
import Derived.ProofKit
import Derived.OpenShut
import Derived.SizedLaws
import Derived.Lib.SmallJoins
import Derived.ChangeSame
namespace Go.Proofs.Ytbhccidchjmjlaa
set_option maxRecDepth 100000
set_option linter.unusedSimpArgs false
set_option linter.unusedVariables false
open Go.ChangeShapes Go.WideShapes Go.RowKit Go.Joins Go.Deep

instance : Inhabited CellV := ⟨⟨⟨0, [], []⟩, none, 0, none, 0⟩⟩
instance : Inhabited Valu.V := ⟨⟨0, 0, []⟩⟩
theorem c1_int : Try.prog.cellsOf 3 = 1 := by kernel_rfl
theorem c1_str : Try.prog.cellsOf 9 = 1 := by kernel_rfl
theorem c1_strs : Try.prog.cellsOf 44 = 1 := by kernel_rfl
theorem c1_vals : Try.prog.cellsOf 23 = 1 := by kernel_rfl
theorem c3_val : Try.prog.cellsOf 31 = 3 := by kernel_rfl
theorem c3_cell : Try.prog.cellsOf 46 = 3 := by kernel_rfl
section
variable {H : Type} {enc : TypeId × Value → H} {w : World} {base : Nat} {spare : Nat → Bool} {held : Bool} {fuel : Nat} {cs : List Value} {x : DataW H × List MemPlace}
/-- a row of structs: it reads as a list, and each of its elements is as R says. -/
theorem open_rows {α : Type} [Inhabited α] {k : Nat} {f : α → Array Value} {R : α → Prop} {t te : TypeId} (ht : Try.prog.underlying t = some (.slice te)) (hc : Try.prog.cellsOf te = k) (hk : ∀ x, (f x).size = k) (hk0 : 0 < k)
    (hel : ∀ {fuel : Nat} {cs : List Value} {x : DataW H × List MemPlace}, DataW.trod enc Try.prog w base spare held fuel te cs = some x → ∃ a : α, cs = (f a).toList ∧ R a)
    (h : DataW.trod enc Try.prog w base spare held fuel t cs = some x) : ∃ (l : List α) (v : Value), cs = [v] ∧ RdL w k f l v ∧ ∀ a ∈ l, R a := by
  rcases open_slice ht h with ⟨rfl, _⟩ | ⟨a, len, cap, m, n, D, Pl, rfl, hb, hl, hm, hmm, hx, hi⟩
  · exact ⟨[], _, rfl, Rd.nil w k, fun a ha => by simp at ha⟩
  have hlm : len ≤ m := by rw [hmm]; split <;> omega
  rw [hc] at hi
  obtain ⟨F, hF⟩ := choose_lt (α := α) (n := m) (p := fun i x => R x ∧ ∀ j, j < k → w.cell? (a.add (i * k + j)) = (f x).toList[j]?) (fun i him => by
    obtain ⟨cs', h1, h2⟩ := hi i him
    obtain ⟨x, rfl, hr⟩ := hel h2
    obtain ⟨_, _, h3⟩ := World.cells?_some h1
    exact ⟨x, hr, fun j hj => by rw [← add_add]; exact h3 j hj⟩)
  have hlen : ((List.range len).map F).length = len := by simp
  refine ⟨(List.range len).map F, _, rfl, ⟨some a, cap, by rw [hlen], by rw [hlen]; exact hl, by unfold maxLen at hm; omega, fun hn => ?_⟩, fun y hy => by
    obtain ⟨i, hil, rfl⟩ := List.mem_map.1 hy
    exact (hF i (by have := List.mem_range.1 hil; omega)).1⟩
  rw [hlen] at hn
  have hcell : ∀ i, i < len → ∀ j, j < k → ∃ v, w.cell? (a.add (i * k + j)) = some v ∧ (f (F i)).toList[j]? = some v := by
    intro i hil j hj
    have h1 := (hF i (by omega)).2 j hj
    have h2 : j < (f (F i)).toList.length := by simp [hk, hj]
    rw [List.getElem?_eq_getElem h2] at h1
    exact ⟨_, h1, List.getElem?_eq_getElem h2⟩
  obtain ⟨v0, h0, _⟩ := hcell 0 hn 0 hk0
  have ha0 : a.add (0 * k + 0) = a := by simp [Addr.add]
  rw [ha0] at h0
  obtain ⟨g, o, sp⟩ := a
  have hsp : sp = none := World.cell?_spot h0
  subst hsp
  have hadd : ∀ n, Addr.add ⟨g, o, none⟩ n = ⟨g, o + n, none⟩ := by intro n; unfold Addr.add; split <;> simp_all
  refine ⟨g, o, rfl, ?_, ?_⟩
  · have : w.cell? ⟨g, o, none⟩ ≠ none := by rw [h0]; simp
    by_cases hg : g < w.heap.size
    · exact hg
    · exfalso; apply this; simp [World.cell?, Array.getElem?_eq_none (Nat.le_of_not_lt hg)]
  · intro j u hu
    have hj : j < len * k := by
      have := (List.getElem?_eq_some_iff.1 hu).1
      rw [flat_len hk, hlen] at this
      exact this
    have hjk : j % k < k := Nat.mod_lt _ hk0
    have hjd : j / k < len := Nat.div_lt_of_lt_mul (by rw [Nat.mul_comm]; exact hj)
    obtain ⟨v, h1, h2⟩ := hcell (j / k) hjd (j % k) hjk
    have h3 := flat_at (f := f) hk ((List.range len).map F) (j / k) (F (j / k)) (by simp [hjd]) (j % k) v h2
    have e : j / k * k + j % k = j := by rw [Nat.mul_comm]; exact Nat.div_add_mod j k
    rw [e] at h1 h3
    rw [hadd] at h1
    rw [h3] at hu
    rw [h1]; exact hu
theorem str_cells (h : DataW.trod enc Try.prog w base spare held fuel 9 cs = some x) : ∃ s : List UInt8, cs = (bc s).toList ∧ True := by
  obtain ⟨s, e, _, _⟩ := DataW.trod_string Try.underlying9 h
  obtain ⟨a, rfl⟩ := byt_of s
  exact ⟨a, e, trivial⟩
theorem val_cells (h : DataW.trod enc Try.prog w base spare held fuel 31 cs = some x) : ∃ j : Valu.V, cs = (vc j).toList ∧ j.s.length ≤ 9223372036854775807 := by
  obtain ⟨xs, n, _, _, hl, hx, hf⟩ := DataW.trod_struct Try.underlying31 h
  rw [c3_val] at hl
  match cs, hl with
  | [c0, c1, c2], _ =>
    match xs, hx with
    | [y0, y1, y2], _ =>
      have f0 : DataW.trod enc Try.prog w base spare held n 3 [c0] = some y0 := by have := hf 0 _ rfl; simpa [c1_int] using this
      have f1 : DataW.trod enc Try.prog w base spare held n 3 [c1] = some y1 := by have := hf 1 _ rfl; simpa [c1_int] using this
      have f2 : DataW.trod enc Try.prog w base spare held n 9 [c2] = some y2 := by have := hf 2 _ rfl; simpa [c1_str] using this
      obtain ⟨a0, e0, _, w0⟩ := DataW.trod_int Try.underlying3 f0
      obtain ⟨a1, e1, _, w1⟩ := DataW.trod_int Try.underlying3 f1
      obtain ⟨s2, e2, _, z2⟩ := DataW.trod_string Try.underlying9 f2
      obtain ⟨a2, rfl⟩ := byt_of s2
      simp at e0 e1 e2
      subst e0 e1 e2
      exact ⟨⟨a0, a1, a2⟩, rfl, by have h9 := z2; rw [byt_size] at h9; unfold maxLen at h9; exact h9⟩
theorem cell_cells (h : DataW.trod enc Try.prog w base spare held fuel 46 cs = some x) : ∃ j : CellV, cs = (cc j).toList ∧ CRd w j := by
  obtain ⟨xs, n, _, _, hl, hx, hf⟩ := DataW.trod_struct Try.underlying46 h
  rw [c3_cell] at hl
  match cs, hl with
  | [c0, c1, c2], _ =>
    match xs, hx with
    | [y0, y1, y2], _ =>
      have f0 : DataW.trod enc Try.prog w base spare held n 3 [c0] = some y0 := by have := hf 0 _ rfl; simpa [c1_int] using this
      have f1 : DataW.trod enc Try.prog w base spare held n 44 [c1] = some y1 := by have := hf 1 _ rfl; simpa [c1_strs] using this
      have f2 : DataW.trod enc Try.prog w base spare held n 23 [c2] = some y2 := by have := hf 2 _ rfl; simpa [c1_vals] using this
      obtain ⟨a0, e0, _, w0⟩ := DataW.trod_int Try.underlying3 f0
      obtain ⟨l1, v1, e1, r1, q1⟩ := open_rows (k := 1) (f := bc) Try.underlying44 c1_str (fun _ => rfl) (by decide) str_cells f1
      obtain ⟨l2, v2, e2, r2, q2⟩ := open_rows (k := 3) (f := vc) Try.underlying23 c3_val (fun _ => rfl) (by decide) val_cells f2
      simp at e0 e1 e2
      subst e0 e1 e2
      obtain ⟨A1, cap1, rfl, k1⟩ := r1
      obtain ⟨A2, cap2, rfl, k2⟩ := r2
      exact ⟨⟨⟨a0, l1, l2⟩, A1, cap1, A2, cap2⟩, rfl, ⟨A1, cap1, rfl, k1⟩, ⟨A2, cap2, rfl, k2⟩, q2⟩
end
section
variable {H : Type} {enc : TypeId × Value → H} {w : World} {base : Nat} {spare : Nat → Bool} {held : Bool} {r : Reach} {b0 : Nat} {v : Value} {d : DataW H} {p : List MemPlace}
theorem open_heap (hv : Value.okWide Try.prog w r b0 22 v) (h : DataW.Trod enc Try.prog w base spare held 22 v d p) : ∃ l : List CellV, HRd w l v := by
  obtain ⟨A, len, cap, rfl⟩ := okWide_slice Try.underlying22 hv
  obtain ⟨fuel, hf⟩ := h
  obtain ⟨l, v, e, hR, hq⟩ := open_rows (k := 3) (f := cc) Try.underlying22 c3_cell (fun _ => rfl) (by decide) cell_cells hf
  have e2 : [Value.slice A len cap] = [v] := e
  rw [(List.cons.inj e2).1]
  exact ⟨l, hR, hq⟩
theorem open_vals (hv : Value.okWide Try.prog w r b0 23 v) (h : DataW.Trod enc Try.prog w base spare held 23 v d p) : ∃ l : List Valu.V, RdL w 3 vc l v ∧ Szs l := by
  obtain ⟨A, len, cap, rfl⟩ := okWide_slice Try.underlying23 hv
  obtain ⟨fuel, hf⟩ := h
  obtain ⟨l, v, e, hR, hq⟩ := open_rows (k := 3) (f := vc) Try.underlying23 c3_val (fun _ => rfl) (by decide) val_cells hf
  have e2 : [Value.slice A len cap] = [v] := e
  rw [(List.cons.inj e2).1]
  exact ⟨l, hR, hq⟩
theorem open_val (hv : Value.okWide Try.prog w r b0 31 v) (h : DataW.Trod enc Try.prog w base spare held 31 v d p) : ∃ a : Valu.V, v = .agg (vc a) ∧ a.s.length ≤ 9223372036854775807 := by
  obtain ⟨cs, rfl, _⟩ := okWide_struct Try.underlying31 hv
  obtain ⟨fuel, hf⟩ := h
  obtain ⟨a, e, hz⟩ := val_cells hf
  exact ⟨a, congrArg Value.agg (Array.toList_inj.1 e), hz⟩
theorem bytes_val : Try.prog.bytesOf 31 = 32 := by kernel_rfl
/-- a row of values takes no more bytes than the reach lets. -/
theorem size_vals {ts : List TypeId} {ds : List (DataW H)} (h : DataW.Trod enc Try.prog w base spare held 23 v d p) (hsz : (DataW.weightsEach Try.prog ts ds).all (· ≤ reachBytes) = true) {j : Nat} (ht : ts[j]? = some 23) (hd : ds[j]? = some d)
    (l : List Valu.V) (hl : RdL w 3 vc l v) : l.length * 32 ≤ 140737488355328 := by
  obtain ⟨A, cap, rfl, _⟩ := hl
  obtain ⟨fuel, hf⟩ := h
  rcases open_slice Try.underlying23 hf with ⟨e, _⟩ | ⟨a, len, cap2, m, n, D, Pl, e, _, _, _, _, ex, _⟩
  · injection e with e _
    injection e with _ e _
    omega
  · injection e with e _
    injection e with _ e _
    injection ex with ex _
    rw [ex] at hd
    have := sized_slice hsz ht hd Try.underlying23
    rw [bytes_val, List.length_map, List.length_range] at this
    have h2 := reachBytes_lt
    have h3 : l.length * 32 ≤ (len + ((List.range (m - len)).map fun j => D (len + j)).length) * 32 := Nat.mul_le_mul_right _ (by omega)
    omega
end
end Go.Proofs.Ytbhccidchjmjlaa
