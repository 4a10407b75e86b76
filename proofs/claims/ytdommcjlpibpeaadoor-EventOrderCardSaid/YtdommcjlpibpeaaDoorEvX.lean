/-
  A document, a row of listeners and an event as arguments: opened to cells. Conditions: as each says.
-/
import Derived.Test.YtdommcjlpibpeaaDoorEvJ
import Derived.Deep.Slices
import Derived.ProofKit
import Derived.OpenShut
import Derived.SizedLaws
import Derived.Lib.SmallJoins
import Derived.ChangeSame
namespace Go.Proofs.YtdommcjlpibpeaaDoor
set_option maxRecDepth 100000
set_option linter.unusedSimpArgs false
set_option linter.unusedVariables false
open Go.ChangeShapes Go.WideShapes Go.RowKit Go.Joins Go.Deep

instance : Inhabited NodeV := ⟨⟨⟨0, [], [], [], 0, []⟩, none, 0, none, 0⟩⟩
instance : Inhabited Evy.Lis := ⟨⟨0, 0, [], false, false, false, false, false⟩⟩
instance : Inhabited Domy.Attr := ⟨⟨[], []⟩⟩
theorem c1_int : Tryd.prog.cellsOf 3 = 1 := by kernel_rfl
theorem c1_bool : Tryd.prog.cellsOf 4 = 1 := by kernel_rfl
theorem c1_str : Tryd.prog.cellsOf 9 = 1 := by kernel_rfl
theorem c1_attrs : Tryd.prog.cellsOf 30 = 1 := by kernel_rfl
theorem c1_ints : Tryd.prog.cellsOf 25 = 1 := by kernel_rfl
theorem c1_nodes : Tryd.prog.cellsOf 22 = 1 := by kernel_rfl
theorem c2_attr : Tryd.prog.cellsOf 81 = 2 := by kernel_rfl
theorem c6_node : Tryd.prog.cellsOf 32 = 6 := by kernel_rfl
theorem c8_lis : Tryd.prog.cellsOf 43 = 8 := by kernel_rfl
theorem c7_ev : Tryd.prog.cellsOf 37 = 7 := by kernel_rfl
theorem c2_doc : Tryd.prog.cellsOf 24 = 2 := by kernel_rfl
section
variable {H : Type} {enc : TypeId × Value → H} {w : World} {base : Nat} {spare : Nat → Bool} {held : Bool} {fuel : Nat} {cs : List Value} {x : DataW H × List MemPlace}
/-- a row of structs: it reads as a list, and each of its elements is as R says. -/
theorem open_rows {α : Type} [Inhabited α] {k : Nat} {f : α → Array Value} {R : α → Prop} {t te : TypeId} (ht : Tryd.prog.underlying t = some (.slice te)) (hc : Tryd.prog.cellsOf te = k) (hk : ∀ x, (f x).size = k) (hk0 : 0 < k)
    (hel : ∀ {fuel : Nat} {cs : List Value} {x : DataW H × List MemPlace}, DataW.trod enc Tryd.prog w base spare held fuel te cs = some x → ∃ a : α, cs = (f a).toList ∧ R a)
    (h : DataW.trod enc Tryd.prog w base spare held fuel t cs = some x) : ∃ (l : List α) (v : Value), cs = [v] ∧ RdL w k f l v ∧ ∀ a ∈ l, R a := by
  rcases open_slice ht h with ⟨rfl, _⟩ | ⟨a, len, cap, m, n, D, Pl, rfl, hb, hl, hm, hmm, hx, hi⟩
  · exact ⟨[], _, rfl, Rd.nil w k, fun a ha => by simp at ha⟩
  have hlm : len ≤ m := by rw [hmm]; split <;> omega
  rw [hc] at hi
  obtain ⟨F, hF⟩ := choose_lt (α := α) (n := m) (p := fun i x => R x ∧ ∀ j, j < k → w.cell? (a.add (i * k + j)) = (f x).toList[j]?) (fun i him => by
    obtain ⟨cs', h1, h2⟩ := hi i him
    obtain ⟨x, rfl, hr⟩ := hel h2
    obtain ⟨_, _, h3⟩ := World.cells?_some h1
    exact ⟨x, hr, fun j hj => by rw [← add_add]; exact h3 j hj⟩)
  have hlen : ((List.range len).map F).length = len := by simp
  refine ⟨(List.range len).map F, _, rfl, ⟨some a, cap, by rw [hlen], by rw [hlen]; exact hl, by unfold maxLen at hm; omega, fun hn => ?_⟩, fun y hy => by
    obtain ⟨i, hil, rfl⟩ := List.mem_map.1 hy
    exact (hF i (by have := List.mem_range.1 hil; omega)).1⟩
  rw [hlen] at hn
  have hcell : ∀ i, i < len → ∀ j, j < k → ∃ v, w.cell? (a.add (i * k + j)) = some v ∧ (f (F i)).toList[j]? = some v := by
    intro i hil j hj
    have h1 := (hF i (by omega)).2 j hj
    have h2 : j < (f (F i)).toList.length := by simp [hk, hj]
    rw [List.getElem?_eq_getElem h2] at h1
    exact ⟨_, h1, List.getElem?_eq_getElem h2⟩
  obtain ⟨v0, h0, _⟩ := hcell 0 hn 0 hk0
  have ha0 : a.add (0 * k + 0) = a := by simp [Addr.add]
  rw [ha0] at h0
  obtain ⟨g, o, sp⟩ := a
  have hsp : sp = none := World.cell?_spot h0
  subst hsp
  have hadd : ∀ n, Addr.add ⟨g, o, none⟩ n = ⟨g, o + n, none⟩ := by intro n; unfold Addr.add; split <;> simp_all
  refine ⟨g, o, rfl, ?_, ?_⟩
  · have : w.cell? ⟨g, o, none⟩ ≠ none := by rw [h0]; simp
    by_cases hg : g < w.heap.size
    · exact hg
    · exfalso; apply this; simp [World.cell?, Array.getElem?_eq_none (Nat.le_of_not_lt hg)]
  · intro j u hu
    have hj : j < len * k := by
      have := (List.getElem?_eq_some_iff.1 hu).1
      rw [flat_len hk, hlen] at this
      exact this
    have hjk : j % k < k := Nat.mod_lt _ hk0
    have hjd : j / k < len := Nat.div_lt_of_lt_mul (by rw [Nat.mul_comm]; exact hj)
    obtain ⟨v, h1, h2⟩ := hcell (j / k) hjd (j % k) hjk
    have h3 := flat_at (f := f) hk ((List.range len).map F) (j / k) (F (j / k)) (by simp [hjd]) (j % k) v h2
    have e : j / k * k + j % k = j := by rw [Nat.mul_comm]; exact Nat.div_add_mod j k
    rw [e] at h1 h3
    rw [hadd] at h1
    rw [h3] at hu
    rw [h1]; exact hu
theorem int_cells (h : DataW.trod enc Tryd.prog w base spare held fuel 3 cs = some x) : ∃ n : Int, cs = (ic n).toList ∧ True := by
  obtain ⟨a, e, _, _⟩ := DataW.trod_int Tryd.underlying3 h
  exact ⟨a, e, trivial⟩
theorem attr_cells (h : DataW.trod enc Tryd.prog w base spare held fuel 81 cs = some x) : ∃ j : Domy.Attr, cs = (kc j).toList ∧ True := by
  obtain ⟨xs, n, _, _, hl, hx, hf⟩ := DataW.trod_struct Tryd.underlying81 h
  rw [c2_attr] at hl
  match cs, hl with
  | [c0, c1], _ =>
    match xs, hx with
    | [y0, y1], _ =>
      have f0 : DataW.trod enc Tryd.prog w base spare held n 9 [c0] = some y0 := by have := hf 0 _ rfl; simpa [c1_str] using this
      have f1 : DataW.trod enc Tryd.prog w base spare held n 9 [c1] = some y1 := by have := hf 1 _ rfl; simpa [c1_str] using this
      obtain ⟨s0, e0, _, _⟩ := DataW.trod_string Tryd.underlying9 f0
      obtain ⟨a0, rfl⟩ := byt_of s0
      obtain ⟨s1, e1, _, _⟩ := DataW.trod_string Tryd.underlying9 f1
      obtain ⟨a1, rfl⟩ := byt_of s1
      simp at e0 e1
      subst e0 e1
      exact ⟨⟨a0, a1⟩, rfl, trivial⟩
theorem lis_cells (h : DataW.trod enc Tryd.prog w base spare held fuel 43 cs = some x) : ∃ j : Evy.Lis, cs = (lc j).toList ∧ (Lit.int .i64 j.id).wf = true := by
  obtain ⟨xs, n, _, _, hl, hx, hf⟩ := DataW.trod_struct Tryd.underlying43 h
  rw [c8_lis] at hl
  match cs, hl with
  | [c0, c1, c2, c3, c4, c5, c6, c7], _ =>
    match xs, hx with
    | [y0, y1, y2, y3, y4, y5, y6, y7], _ =>
      have f0 : DataW.trod enc Tryd.prog w base spare held n 3 [c0] = some y0 := by have := hf 0 _ rfl; simpa [c1_int] using this
      have f1 : DataW.trod enc Tryd.prog w base spare held n 3 [c1] = some y1 := by have := hf 1 _ rfl; simpa [c1_int] using this
      have f2 : DataW.trod enc Tryd.prog w base spare held n 9 [c2] = some y2 := by have := hf 2 _ rfl; simpa [c1_str] using this
      have f3 : DataW.trod enc Tryd.prog w base spare held n 4 [c3] = some y3 := by have := hf 3 _ rfl; simpa [c1_bool] using this
      have f4 : DataW.trod enc Tryd.prog w base spare held n 4 [c4] = some y4 := by have := hf 4 _ rfl; simpa [c1_bool] using this
      have f5 : DataW.trod enc Tryd.prog w base spare held n 4 [c5] = some y5 := by have := hf 5 _ rfl; simpa [c1_bool] using this
      have f6 : DataW.trod enc Tryd.prog w base spare held n 4 [c6] = some y6 := by have := hf 6 _ rfl; simpa [c1_bool] using this
      have f7 : DataW.trod enc Tryd.prog w base spare held n 4 [c7] = some y7 := by have := hf 7 _ rfl; simpa [c1_bool] using this
      obtain ⟨a0, e0, _, w0⟩ := DataW.trod_int Tryd.underlying3 f0
      obtain ⟨a1, e1, _, w1⟩ := DataW.trod_int Tryd.underlying3 f1
      obtain ⟨s2, e2, _, _⟩ := DataW.trod_string Tryd.underlying9 f2
      obtain ⟨a2, rfl⟩ := byt_of s2
      obtain ⟨a3, e3, _⟩ := DataW.trod_bool Tryd.underlying4 f3
      obtain ⟨a4, e4, _⟩ := DataW.trod_bool Tryd.underlying4 f4
      obtain ⟨a5, e5, _⟩ := DataW.trod_bool Tryd.underlying4 f5
      obtain ⟨a6, e6, _⟩ := DataW.trod_bool Tryd.underlying4 f6
      obtain ⟨a7, e7, _⟩ := DataW.trod_bool Tryd.underlying4 f7
      simp at e0 e1 e2 e3 e4 e5 e6 e7
      subst e0 e1 e2 e3 e4 e5 e6 e7
      exact ⟨⟨a0, a1, a2, a3, a4, a5, a6, a7⟩, rfl, w0⟩
theorem ev_cells (h : DataW.trod enc Tryd.prog w base spare held fuel 37 cs = some x) : ∃ j : Evy.Ev, cs = (ec j).toList := by
  obtain ⟨xs, n, _, _, hl, hx, hf⟩ := DataW.trod_struct Tryd.underlying37 h
  rw [c7_ev] at hl
  match cs, hl with
  | [c0, c1, c2, c3, c4, c5, c6], _ =>
    match xs, hx with
    | [y0, y1, y2, y3, y4, y5, y6], _ =>
      have f0 : DataW.trod enc Tryd.prog w base spare held n 9 [c0] = some y0 := by have := hf 0 _ rfl; simpa [c1_str] using this
      have f1 : DataW.trod enc Tryd.prog w base spare held n 3 [c1] = some y1 := by have := hf 1 _ rfl; simpa [c1_int] using this
      have f2 : DataW.trod enc Tryd.prog w base spare held n 3 [c2] = some y2 := by have := hf 2 _ rfl; simpa [c1_int] using this
      have f3 : DataW.trod enc Tryd.prog w base spare held n 3 [c3] = some y3 := by have := hf 3 _ rfl; simpa [c1_int] using this
      have f4 : DataW.trod enc Tryd.prog w base spare held n 9 [c4] = some y4 := by have := hf 4 _ rfl; simpa [c1_str] using this
      have f5 : DataW.trod enc Tryd.prog w base spare held n 4 [c5] = some y5 := by have := hf 5 _ rfl; simpa [c1_bool] using this
      have f6 : DataW.trod enc Tryd.prog w base spare held n 4 [c6] = some y6 := by have := hf 6 _ rfl; simpa [c1_bool] using this
      obtain ⟨s0, e0, _, _⟩ := DataW.trod_string Tryd.underlying9 f0
      obtain ⟨a0, rfl⟩ := byt_of s0
      obtain ⟨a1, e1, _, w1⟩ := DataW.trod_int Tryd.underlying3 f1
      obtain ⟨a2, e2, _, w2⟩ := DataW.trod_int Tryd.underlying3 f2
      obtain ⟨a3, e3, _, w3⟩ := DataW.trod_int Tryd.underlying3 f3
      obtain ⟨s4, e4, _, _⟩ := DataW.trod_string Tryd.underlying9 f4
      obtain ⟨a4, rfl⟩ := byt_of s4
      obtain ⟨a5, e5, _⟩ := DataW.trod_bool Tryd.underlying4 f5
      obtain ⟨a6, e6, _⟩ := DataW.trod_bool Tryd.underlying4 f6
      simp at e0 e1 e2 e3 e4 e5 e6
      subst e0 e1 e2 e3 e4 e5 e6
      exact ⟨⟨a0, a1, a2, a3, a4, a5, a6⟩, rfl⟩
theorem node_cells (h : DataW.trod enc Tryd.prog w base spare held fuel 32 cs = some x) : ∃ j : NodeV, cs = (nc j).toList ∧ NRd w j := by
  obtain ⟨xs, n, _, _, hl, hx, hf⟩ := DataW.trod_struct Tryd.underlying32 h
  rw [c6_node] at hl
  match cs, hl with
  | [c0, c1, c2, c3, c4, c5], _ =>
    match xs, hx with
    | [y0, y1, y2, y3, y4, y5], _ =>
      have f0 : DataW.trod enc Tryd.prog w base spare held n 3 [c0] = some y0 := by have := hf 0 _ rfl; simpa [c1_int] using this
      have f1 : DataW.trod enc Tryd.prog w base spare held n 9 [c1] = some y1 := by have := hf 1 _ rfl; simpa [c1_str] using this
      have f2 : DataW.trod enc Tryd.prog w base spare held n 30 [c2] = some y2 := by have := hf 2 _ rfl; simpa [c1_attrs] using this
      have f3 : DataW.trod enc Tryd.prog w base spare held n 9 [c3] = some y3 := by have := hf 3 _ rfl; simpa [c1_str] using this
      have f4 : DataW.trod enc Tryd.prog w base spare held n 3 [c4] = some y4 := by have := hf 4 _ rfl; simpa [c1_int] using this
      have f5 : DataW.trod enc Tryd.prog w base spare held n 25 [c5] = some y5 := by have := hf 5 _ rfl; simpa [c1_ints] using this
      obtain ⟨a0, e0, _, w0⟩ := DataW.trod_int Tryd.underlying3 f0
      obtain ⟨s1, e1, _, _⟩ := DataW.trod_string Tryd.underlying9 f1
      obtain ⟨a1, rfl⟩ := byt_of s1
      obtain ⟨l2, v2, e2, r2, q2⟩ := open_rows (k := 2) (f := kc) Tryd.underlying30 c2_attr (fun _ => rfl) (by decide) attr_cells f2
      obtain ⟨s3, e3, _, _⟩ := DataW.trod_string Tryd.underlying9 f3
      obtain ⟨a3, rfl⟩ := byt_of s3
      obtain ⟨a4, e4, _, w4⟩ := DataW.trod_int Tryd.underlying3 f4
      obtain ⟨l5, v5, e5, r5, q5⟩ := open_rows (k := 1) (f := ic) Tryd.underlying25 c1_int (fun _ => rfl) (by decide) int_cells f5
      simp at e0 e1 e2 e3 e4 e5
      subst e0 e1 e2 e3 e4 e5
      obtain ⟨A2, cap2, rfl, k2⟩ := r2
      obtain ⟨A5, cap5, rfl, k5⟩ := r5
      exact ⟨⟨⟨a0, a1, l2, a3, a4, l5⟩, A2, cap2, A5, cap5⟩, rfl, ⟨A2, cap2, rfl, k2⟩, ⟨A5, cap5, rfl, k5⟩⟩
theorem doc_cells (h : DataW.trod enc Tryd.prog w base spare held fuel 24 cs = some x) : ∃ (d : List NodeV) (v : Value) (q : Bool), cs = (dag v q).toList ∧ DRd w d v := by
  obtain ⟨xs, n, _, _, hl, hx, hf⟩ := DataW.trod_struct Tryd.underlying24 h
  rw [c2_doc] at hl
  match cs, hl with
  | [c0, c1], _ =>
    match xs, hx with
    | [y0, y1], _ =>
      have f0 : DataW.trod enc Tryd.prog w base spare held n 22 [c0] = some y0 := by have := hf 0 _ rfl; simpa [c1_nodes] using this
      have f1 : DataW.trod enc Tryd.prog w base spare held n 4 [c1] = some y1 := by have := hf 1 _ rfl; simpa [c1_bool] using this
      obtain ⟨l0, v0, e0, r0, q0⟩ := open_rows (k := 6) (f := nc) Tryd.underlying22 c6_node (fun _ => rfl) (by decide) node_cells f0
      obtain ⟨a1, e1, _⟩ := DataW.trod_bool Tryd.underlying4 f1
      simp at e0 e1
      subst e0 e1
      exact ⟨l0, _, a1, rfl, r0, q0⟩
end
section
variable {H : Type} {enc : TypeId × Value → H} {w : World} {base : Nat} {spare : Nat → Bool} {held : Bool} {r : Reach} {b0 : Nat} {v : Value} {d : DataW H} {p : List MemPlace}
theorem open_doc (hv : Value.okWide Tryd.prog w r b0 24 v) (h : DataW.Trod enc Tryd.prog w base spare held 24 v d p) : ∃ (d : List NodeV) (u : Value) (q : Bool), v = .agg (dag u q) ∧ DRd w d u := by
  obtain ⟨cs, rfl, _⟩ := okWide_struct Tryd.underlying24 hv
  obtain ⟨fuel, hf⟩ := h
  obtain ⟨d, u, q, e, hR⟩ := doc_cells hf
  exact ⟨d, u, q, congrArg Value.agg (Array.toList_inj.1 e), hR⟩
theorem open_ev (hv : Value.okWide Tryd.prog w r b0 37 v) (h : DataW.Trod enc Tryd.prog w base spare held 37 v d p) : ∃ a : Evy.Ev, v = .agg (ec a) := by
  obtain ⟨cs, rfl, _⟩ := okWide_struct Tryd.underlying37 hv
  obtain ⟨fuel, hf⟩ := h
  obtain ⟨a, e⟩ := ev_cells hf
  exact ⟨a, congrArg Value.agg (Array.toList_inj.1 e)⟩
theorem open_lis (hv : Value.okWide Tryd.prog w r b0 35 v) (h : DataW.Trod enc Tryd.prog w base spare held 35 v d p) : ∃ l : List Evy.Lis, RdL w 8 lc l v ∧ Wfs l := by
  obtain ⟨A, len, cap, rfl⟩ := okWide_slice Tryd.underlying35 hv
  obtain ⟨fuel, hf⟩ := h
  obtain ⟨l, v, e, hR, hq⟩ := open_rows (k := 8) (f := lc) Tryd.underlying35 c8_lis (fun _ => rfl) (by decide) lis_cells hf
  have e2 : [Value.slice A len cap] = [v] := e
  rw [(List.cons.inj e2).1]
  exact ⟨l, hR, hq⟩
theorem bytes_lis : Tryd.prog.bytesOf 43 = 40 := by kernel_rfl
/-- a row of listeners takes no more bytes than the reach lets. -/
theorem size_lis {ts : List TypeId} {ds : List (DataW H)} (h : DataW.Trod enc Tryd.prog w base spare held 35 v d p) (hsz : (DataW.weightsEach Tryd.prog ts ds).all (· ≤ reachBytes) = true) {j : Nat} (ht : ts[j]? = some 35) (hd : ds[j]? = some d)
    (l : List Evy.Lis) (hl : RdL w 8 lc l v) : l.length * 40 ≤ 140737488355328 := by
  obtain ⟨A, cap, rfl, _⟩ := hl
  obtain ⟨fuel, hf⟩ := h
  rcases open_slice Tryd.underlying35 hf with ⟨e, _⟩ | ⟨a, len, cap2, m, n, D, Pl, e, _, _, _, _, ex, _⟩
  · injection e with e _
    injection e with _ e _
    omega
  · injection e with e _
    injection e with _ e _
    injection ex with ex _
    rw [ex] at hd
    have := sized_slice hsz ht hd Tryd.underlying35
    rw [bytes_lis, List.length_map, List.length_range] at this
    have h2 := reachBytes_lt
    have h3 : l.length * 40 ≤ (len + ((List.range (m - len)).map fun j => D (len + j)).length) * 40 := Nat.mul_le_mul_right _ (by omega)
    omega
end
end Go.Proofs.YtdommcjlpibpeaaDoor
