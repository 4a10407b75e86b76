/-
  Ops as an argument: opened to cells; no text of theirs is longer than the reach lets. Conditions: as each says.
-/
import Derived.Test.YtdolmjeiakdfhaaGreatDoorStY
import Derived.Deep.Slices
import Derived.ProofKit
import Derived.OpenShut
import Derived.SizedLaws
import Derived.Lib.SmallJoins
import Derived.ChangeSame
namespace Go.Proofs.YtdolmjeiakdfhaaGreatDoor
set_option maxRecDepth 100000
set_option linter.unusedSimpArgs false
set_option linter.unusedVariables false
open Go.ChangeShapes Go.WideShapes Go.RowKit Go.Joins Go.Deep

instance : Inhabited Story.Op := ⟨⟨0, [], [], []⟩⟩
theorem c1_int : Tryz.prog.cellsOf 3 = 1 := by kernel_rfl
theorem c1_str : Tryz.prog.cellsOf 9 = 1 := by kernel_rfl
theorem c4_op : Tryz.prog.cellsOf 32 = 4 := by kernel_rfl
section
variable {H : Type} {enc : TypeId × Value → H} {w : World} {base : Nat} {spare : Nat → Bool} {held : Bool} {fuel : Nat} {cs : List Value} {x : DataW H × List MemPlace}
/-- a row of structs: it reads as a list, and each of its elements is as R says. -/
theorem open_rowsD {α : Type} [Inhabited α] {k : Nat} {f : α → Array Value} {R : α → DataW H} {t te : TypeId} (ht : Tryz.prog.underlying t = some (.slice te)) (hc : Tryz.prog.cellsOf te = k) (hk : ∀ x, (f x).size = k) (hk0 : 0 < k)
    (hel : ∀ {fuel : Nat} {cs : List Value} {x : DataW H × List MemPlace}, DataW.trod enc Tryz.prog w base spare held fuel te cs = some x → ∃ a : α, cs = (f a).toList ∧ x.1 = R a)
    (h : DataW.trod enc Tryz.prog w base spare held fuel t cs = some x) : ∃ (l : List α) (v : Value), cs = [v] ∧ RdL w k f l v ∧ ((x.1 = .nil ∧ l = []) ∨ ∃ sp, x.1 = .slice (l.map R) sp) := by
  rcases open_slice ht h with ⟨rfl, rfl⟩ | ⟨a, len, cap, m, n, D, Pl, rfl, hb, hl, hm, hmm, hx, hi⟩
  · exact ⟨[], _, rfl, Rd.nil w k, .inl ⟨rfl, rfl⟩⟩
  have hlm : len ≤ m := by rw [hmm]; split <;> omega
  rw [hc] at hi
  obtain ⟨F, hF⟩ := choose_lt (α := α) (n := m) (p := fun i x => D i = R x ∧ ∀ j, j < k → w.cell? (a.add (i * k + j)) = (f x).toList[j]?) (fun i him => by
    obtain ⟨cs', h1, h2⟩ := hi i him
    obtain ⟨x, rfl, hr⟩ := hel h2
    obtain ⟨_, _, h3⟩ := World.cells?_some h1
    exact ⟨x, hr, fun j hj => by rw [← add_add]; exact h3 j hj⟩)
  have hlen : ((List.range len).map F).length = len := by simp
  refine ⟨(List.range len).map F, _, rfl, ⟨some a, cap, by rw [hlen], by rw [hlen]; exact hl, by unfold maxLen at hm; omega, fun hn => ?_⟩, .inr ⟨_, by
    rw [hx]
    simp only
    congr 1
    rw [List.map_map]
    exact List.map_congr_left fun i hi => (hF i (by have := List.mem_range.1 hi; omega)).1⟩⟩
  rw [hlen] at hn
  have hcell : ∀ i, i < len → ∀ j, j < k → ∃ v, w.cell? (a.add (i * k + j)) = some v ∧ (f (F i)).toList[j]? = some v := by
    intro i hil j hj
    have h1 := (hF i (by omega)).2 j hj
    have h2 : j < (f (F i)).toList.length := by simp [hk, hj]
    rw [List.getElem?_eq_getElem h2] at h1
    exact ⟨_, h1, List.getElem?_eq_getElem h2⟩
  obtain ⟨v0, h0, _⟩ := hcell 0 hn 0 hk0
  have ha0 : a.add (0 * k + 0) = a := by simp [Addr.add]
  rw [ha0] at h0
  obtain ⟨g, o, sp⟩ := a
  have hsp : sp = none := World.cell?_spot h0
  subst hsp
  have hadd : ∀ n, Addr.add ⟨g, o, none⟩ n = ⟨g, o + n, none⟩ := by intro n; unfold Addr.add; split <;> simp_all
  refine ⟨g, o, rfl, ?_, ?_⟩
  · have : w.cell? ⟨g, o, none⟩ ≠ none := by rw [h0]; simp
    by_cases hg : g < w.heap.size
    · exact hg
    · exfalso; apply this; simp [World.cell?, Array.getElem?_eq_none (Nat.le_of_not_lt hg)]
  · intro j u hu
    have hj : j < len * k := by
      have := (List.getElem?_eq_some_iff.1 hu).1
      rw [flat_len hk, hlen] at this
      exact this
    have hjk : j % k < k := Nat.mod_lt _ hk0
    have hjd : j / k < len := Nat.div_lt_of_lt_mul (by rw [Nat.mul_comm]; exact hj)
    obtain ⟨v, h1, h2⟩ := hcell (j / k) hjd (j % k) hjk
    have h3 := flat_at (f := f) hk ((List.range len).map F) (j / k) (F (j / k)) (by simp [hjd]) (j % k) v h2
    have e : j / k * k + j % k = j := by rw [Nat.mul_comm]; exact Nat.div_add_mod j k
    rw [e] at h1 h3
    rw [hadd] at h1
    rw [h3] at hu
    rw [h1]; exact hu
def dop (a : Story.Op) : DataW H := .agg [.lit (.int .i64 a.kind), .lit (.string (byt a.loc).data.toList), .lit (.string (byt a.key).data.toList), .lit (.string (byt a.value).data.toList)]
theorem op_cells (h : DataW.trod enc Tryz.prog w base spare held fuel 32 cs = some x) : ∃ a : Story.Op, cs = (ocells a).toList ∧ x.1 = dop a := by
  obtain ⟨xs, n, _, hX, hl, hx, hf⟩ := DataW.trod_struct Tryz.underlying32 h
  rw [c4_op] at hl
  match cs, hl with
  | [c0, c1, c2, c3], _ =>
    match xs, hx with
    | [y0, y1, y2, y3], _ =>
      have hX0 : x.1 = _ := congrArg Prod.fst hX
      have f0 : DataW.trod enc Tryz.prog w base spare held n 3 [c0] = some y0 := by have := hf 0 _ rfl; simpa [c1_int] using this
      have f1 : DataW.trod enc Tryz.prog w base spare held n 9 [c1] = some y1 := by have := hf 1 _ rfl; simpa [c1_str] using this
      have f2 : DataW.trod enc Tryz.prog w base spare held n 9 [c2] = some y2 := by have := hf 2 _ rfl; simpa [c1_str] using this
      have f3 : DataW.trod enc Tryz.prog w base spare held n 9 [c3] = some y3 := by have := hf 3 _ rfl; simpa [c1_str] using this
      obtain ⟨a0, e0, g0, w0⟩ := DataW.trod_int Tryz.underlying3 f0
      obtain ⟨s1, e1, g1, z1⟩ := DataW.trod_string Tryz.underlying9 f1
      obtain ⟨a1, rfl⟩ := byt_of s1
      obtain ⟨s2, e2, g2, z2⟩ := DataW.trod_string Tryz.underlying9 f2
      obtain ⟨a2, rfl⟩ := byt_of s2
      obtain ⟨s3, e3, g3, z3⟩ := DataW.trod_string Tryz.underlying9 f3
      obtain ⟨a3, rfl⟩ := byt_of s3
      simp at e0 e1 e2 e3
      subst e0 e1 e2 e3
      exact ⟨⟨a0, a1, a2, a3⟩, rfl, by rw [hX0]; simp [dop, g0, g1, g2, g3]⟩
end
theorem weightsAll_mem {H : Type} {P : Program} {e : TypeId} : ∀ {l : List (DataW H)} {d : DataW H}, d ∈ l → ∀ n ∈ d.weights P e, n ∈ DataW.weightsAll P e l
  | y :: l, d, h, n, hn => by
    simp only [DataW.weightsAll, List.mem_append]
    rcases List.mem_cons.1 h with rfl | h
    · exact .inl hn
    · exact .inr (weightsAll_mem h n hn)
section
variable {H : Type} {enc : TypeId × Value → H} {w : World} {base : Nat} {spare : Nat → Bool} {held : Bool} {r : Reach} {b0 : Nat} {v : Value} {d : DataW H} {p : List MemPlace}
theorem open_ops (hv : Value.okWide Tryz.prog w r b0 22 v) (h : DataW.Trod enc Tryz.prog w base spare held 22 v d p) : ∃ l : List Story.Op, RdL w 4 ocells l v ∧ ((d = .nil ∧ l = []) ∨ ∃ sp, d = .slice (l.map dop) sp) := by
  obtain ⟨A, len, cap, rfl⟩ := okWide_slice Tryz.underlying22 hv
  obtain ⟨fuel, hf⟩ := h
  obtain ⟨l, v, e, hR, hq⟩ := open_rowsD (k := 4) (f := ocells) (R := dop) Tryz.underlying22 c4_op (fun _ => rfl) (by decide) op_cells hf
  have e2 : [Value.slice A len cap] = [v] := e
  rw [(List.cons.inj e2).1]
  exact ⟨l, hR, hq⟩
/-- no text of an op is longer than the reach lets. -/
theorem size_ops {ts : List TypeId} {ds : List (DataW H)} (hsz : (DataW.weightsEach Tryz.prog ts ds).all (· ≤ reachBytes) = true) {j : Nat} (ht : ts[j]? = some 22) (hd : ds[j]? = some d)
    (l : List Story.Op) (hl : (d = .nil ∧ l = []) ∨ ∃ sp, d = .slice (l.map dop) sp) : ∀ o ∈ l, o.key.length ≤ 140737488355328 ∧ o.value.length ≤ 140737488355328 := by
  rcases hl with ⟨_, rfl⟩ | ⟨sp, rfl⟩
  · simp
  intro o ho
  have hlt := reachBytes_lt
  have key : ∀ n ∈ (dop o : DataW H).weights Tryz.prog 32, n ≤ reachBytes := fun n hn => by
    have := List.all_eq_true.1 hsz n (DataW.weights_mem_each ht hd n (by
      simp only [DataW.weights, Tryz.underlying22, List.mem_cons, List.mem_append]
      exact .inr (.inl (weightsAll_mem (List.mem_map_of_mem ho) n hn))))
    simpa using this
  have hw : (dop o : DataW H).weights Tryz.prog 32 = [(byt o.loc).data.toList.length, (byt o.key).data.toList.length, (byt o.value).data.toList.length] := by
    simp [dop, DataW.weights, Tryz.underlying32, DataW.weightsEach]
  rw [hw] at key
  have h1 := key (byt o.key).data.toList.length (by simp)
  have h2 := key (byt o.value).data.toList.length (by simp)
  have e1 : (byt o.key).data.toList = o.key := by simp [byt]
  have e2 : (byt o.value).data.toList = o.value := by simp [byt]
  rw [e1] at h1
  rw [e2] at h2
  omega
end
end Go.Proofs.YtdolmjeiakdfhaaGreatDoor
