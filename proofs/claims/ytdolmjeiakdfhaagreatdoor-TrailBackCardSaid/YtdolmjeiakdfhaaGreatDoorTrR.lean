/-
  A trail as an argument: opened to cells. Conditions: as each says.
-/
import Derived.Test.YtdolmjeiakdfhaaGreatDoorTkB
import Derived.Deep.Slices
import Derived.ProofKit
import Derived.OpenShut
import Derived.SizedLaws
import Derived.Lib.SmallJoins
import Derived.ChangeSame
namespace Go.Proofs.YtdolmjeiakdfhaaGreatDoor
set_option maxRecDepth 100000
set_option linter.unusedSimpArgs false
set_option linter.unusedVariables false
open Go.ChangeShapes Go.WideShapes Go.RowKit Go.Joins Go.Deep
open Traily (Ent T)

instance : Inhabited Traily.Ent := ⟨⟨[], [], 0⟩⟩
theorem c1_int : Tryz.prog.cellsOf 3 = 1 := by kernel_rfl
theorem c1_str : Tryz.prog.cellsOf 9 = 1 := by kernel_rfl
theorem c3_ent : Tryz.prog.cellsOf 48 = 3 := by kernel_rfl
theorem c2_trl : Tryz.prog.cellsOf 41 = 2 := by kernel_rfl
theorem c1_ents : Tryz.prog.cellsOf 39 = 1 := by kernel_rfl
section
variable {H : Type} {enc : TypeId × Value → H} {w : World} {base : Nat} {spare : Nat → Bool} {held : Bool} {fuel : Nat} {cs : List Value} {x : DataW H × List MemPlace}
/-- a row of structs: it reads as a list. -/
theorem open_rows {α : Type} [Inhabited α] {k : Nat} {f : α → Array Value} {t te : TypeId} (ht : Tryz.prog.underlying t = some (.slice te)) (hc : Tryz.prog.cellsOf te = k) (hk : ∀ x, (f x).size = k) (hk0 : 0 < k)
    (hel : ∀ {fuel : Nat} {cs : List Value} {x : DataW H × List MemPlace}, DataW.trod enc Tryz.prog w base spare held fuel te cs = some x → ∃ a : α, cs = (f a).toList)
    (h : DataW.trod enc Tryz.prog w base spare held fuel t cs = some x) : ∃ (l : List α) (v : Value), cs = [v] ∧ RdL w k f l v := by
  rcases open_slice ht h with ⟨rfl, _⟩ | ⟨a, len, cap, m, n, D, Pl, rfl, hb, hl, hm, hmm, hx, hi⟩
  · exact ⟨[], _, rfl, Rd.nil w k⟩
  have hlm : len ≤ m := by rw [hmm]; split <;> omega
  rw [hc] at hi
  obtain ⟨F, hF⟩ := choose_lt (α := α) (n := m) (p := fun i x => ∀ j, j < k → w.cell? (a.add (i * k + j)) = (f x).toList[j]?) (fun i him => by
    obtain ⟨cs', h1, h2⟩ := hi i him
    obtain ⟨x, rfl⟩ := hel h2
    obtain ⟨_, _, h3⟩ := World.cells?_some h1
    exact ⟨x, fun j hj => by rw [← add_add]; exact h3 j hj⟩)
  have hlen : ((List.range len).map F).length = len := by simp
  refine ⟨(List.range len).map F, _, rfl, some a, cap, by rw [hlen], by rw [hlen]; exact hl, by unfold maxLen at hm; omega, fun hn => ?_⟩
  rw [hlen] at hn
  have hcell : ∀ i, i < len → ∀ j, j < k → ∃ v, w.cell? (a.add (i * k + j)) = some v ∧ (f (F i)).toList[j]? = some v := by
    intro i hil j hj
    have h1 := hF i (by omega) j hj
    have h2 : j < (f (F i)).toList.length := by simp [hk, hj]
    rw [List.getElem?_eq_getElem h2] at h1
    exact ⟨_, h1, List.getElem?_eq_getElem h2⟩
  obtain ⟨v0, h0, _⟩ := hcell 0 hn 0 hk0
  have ha0 : a.add (0 * k + 0) = a := by simp [Addr.add]
  rw [ha0] at h0
  obtain ⟨g, o, sp⟩ := a
  have hsp : sp = none := World.cell?_spot h0
  subst hsp
  have hadd : ∀ n, Addr.add ⟨g, o, none⟩ n = ⟨g, o + n, none⟩ := by intro n; unfold Addr.add; split <;> simp_all
  refine ⟨g, o, rfl, ?_, ?_⟩
  · have : w.cell? ⟨g, o, none⟩ ≠ none := by rw [h0]; simp
    by_cases hg : g < w.heap.size
    · exact hg
    · exfalso; apply this; simp [World.cell?, Array.getElem?_eq_none (Nat.le_of_not_lt hg)]
  · intro j u hu
    have hj : j < len * k := by
      have := (List.getElem?_eq_some_iff.1 hu).1
      rw [flat_len hk, hlen] at this
      exact this
    have hjk : j % k < k := Nat.mod_lt _ hk0
    have hjd : j / k < len := Nat.div_lt_of_lt_mul (by rw [Nat.mul_comm]; exact hj)
    obtain ⟨v, h1, h2⟩ := hcell (j / k) hjd (j % k) hjk
    have h3 := flat_at (f := f) hk ((List.range len).map F) (j / k) (F (j / k)) (by simp [hjd]) (j % k) v h2
    have e : j / k * k + j % k = j := by rw [Nat.mul_comm]; exact Nat.div_add_mod j k
    rw [e] at h1 h3
    rw [hadd] at h1
    rw [h3] at hu
    rw [h1]; exact hu
theorem ent_cells (h : DataW.trod enc Tryz.prog w base spare held fuel 48 cs = some x) : ∃ a : Traily.Ent, cs = (ec a).toList := by
  obtain ⟨xs, n, _, _, hl, hx, hf⟩ := DataW.trod_struct Tryz.underlying48 h
  rw [c3_ent] at hl
  match cs, hl with
  | [c0, c1, c2], _ =>
    match xs, hx with
    | [y0, y1, y2], _ =>
      have f0 : DataW.trod enc Tryz.prog w base spare held n 9 [c0] = some y0 := by have := hf 0 _ rfl; simpa [c1_str] using this
      have f1 : DataW.trod enc Tryz.prog w base spare held n 9 [c1] = some y1 := by have := hf 1 _ rfl; simpa [c1_str] using this
      have f2 : DataW.trod enc Tryz.prog w base spare held n 3 [c2] = some y2 := by have := hf 2 _ rfl; simpa [c1_int] using this
      obtain ⟨s0, e0, _, _⟩ := DataW.trod_string Tryz.underlying9 f0
      obtain ⟨a0, rfl⟩ := byt_of s0
      obtain ⟨s1, e1, _, _⟩ := DataW.trod_string Tryz.underlying9 f1
      obtain ⟨a1, rfl⟩ := byt_of s1
      obtain ⟨a2, e2, _, _⟩ := DataW.trod_int Tryz.underlying3 f2
      simp at e0 e1 e2
      subst e0 e1 e2
      exact ⟨⟨a0, a1, a2⟩, rfl⟩
theorem trail_cells (h : DataW.trod enc Tryz.prog w base spare held fuel 41 cs = some x) : ∃ (t : Traily.T) (u : Value), cs = (tc u t.at').toList ∧ TrRd w t u := by
  obtain ⟨xs, n, _, _, hl, hx, hf⟩ := DataW.trod_struct Tryz.underlying41 h
  rw [c2_trl] at hl
  match cs, hl with
  | [c0, c1], _ =>
    match xs, hx with
    | [y0, y1], _ =>
      have f0 : DataW.trod enc Tryz.prog w base spare held n 39 [c0] = some y0 := by have := hf 0 _ rfl; simpa [c1_ents] using this
      have f1 : DataW.trod enc Tryz.prog w base spare held n 3 [c1] = some y1 := by have := hf 1 _ rfl; simpa [c1_int] using this
      obtain ⟨l, u, e0, r0⟩ := open_rows (k := 3) (f := ec) Tryz.underlying39 c3_ent (fun _ => rfl) (by decide) ent_cells f0
      obtain ⟨a, e1, _, _⟩ := DataW.trod_int Tryz.underlying3 f1
      simp at e0 e1
      subst e0 e1
      exact ⟨⟨l, a⟩, _, rfl, r0⟩
end
section
variable {H : Type} {enc : TypeId × Value → H} {w : World} {base : Nat} {spare : Nat → Bool} {held : Bool} {r : Reach} {b0 : Nat} {v : Value} {d : DataW H} {p : List MemPlace}
theorem open_trail (hv : Value.okWide Tryz.prog w r b0 41 v) (h : DataW.Trod enc Tryz.prog w base spare held 41 v d p) : ∃ (t : Traily.T) (u : Value), v = .agg (tc u t.at') ∧ TrRd w t u := by
  obtain ⟨cs, rfl, _⟩ := okWide_struct Tryz.underlying41 hv
  obtain ⟨fuel, hf⟩ := h
  obtain ⟨t, u, e, hR⟩ := trail_cells hf
  exact ⟨t, u, congrArg Value.agg (Array.toList_inj.1 e), hR⟩
end
end Go.Proofs.YtdolmjeiakdfhaaGreatDoor
