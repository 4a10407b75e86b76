/-
  A loop, an ask and a row of asks as arguments: opened to cells. Conditions: as each says.
-/
import Derived.Test.YtpjbblbehbepbaaLpJ
import Derived.Deep.Slices
import Derived.ProofKit
import Derived.OpenShut
import Derived.SizedLaws
import Derived.Lib.SmallJoins
import Derived.ChangeSame
namespace Go.Proofs.Ytpjbblbehbepbaa
set_option linter.unusedSimpArgs false
set_option linter.unusedVariables false
open Go.ChangeShapes Go.WideShapes Go.RowKit Go.Joins Go.Deep

instance : Inhabited Loopy.Job := ⟨⟨0, 0, false, [], ⟨0, 0, []⟩⟩⟩
instance : Inhabited Loopy.Timer := ⟨⟨0, 0, 0, 0, []⟩⟩
instance : Inhabited Loopy.Ask := ⟨⟨0, 0, 0, [], ⟨0, 0, []⟩⟩⟩
theorem c1_int : Try.prog.cellsOf 3 = 1 := by kernel_rfl
theorem c1_bool : Try.prog.cellsOf 4 = 1 := by kernel_rfl
theorem c1_str : Try.prog.cellsOf 9 = 1 := by kernel_rfl
theorem c3_val : Try.prog.cellsOf 33 = 3 := by kernel_rfl
theorem c7_job : Try.prog.cellsOf 39 = 7 := by kernel_rfl
theorem c5_timer : Try.prog.cellsOf 49 = 5 := by kernel_rfl
theorem c7_ask : Try.prog.cellsOf 35 = 7 := by kernel_rfl
theorem c5_loop : Try.prog.cellsOf 26 = 5 := by kernel_rfl
theorem c1_jobs : Try.prog.cellsOf 23 = 1 := by kernel_rfl
theorem c1_timers : Try.prog.cellsOf 24 = 1 := by kernel_rfl
theorem byt_of (s : ByteArray) : ∃ l : List UInt8, s = byt l := ⟨s.data.toList, by cases s; simp [byt]⟩

section
variable {H : Type} {enc : TypeId × Value → H} {w : World} {base : Nat} {spare : Nat → Bool} {held : Bool} {fuel : Nat} {cs : List Value} {x : DataW H × List MemPlace}
theorem val_cells (h : DataW.trod enc Try.prog w base spare held fuel 33 cs = some x) : ∃ v : Valu.V, cs = [.int .i64 v.k, .int .i64 v.n, .string (byt v.s)] := by
  obtain ⟨xs, n, _, _, hl, hx, hf⟩ := DataW.trod_struct Try.underlying33 h
  rw [c3_val] at hl
  match cs, hl with
  | [c0, c1, c2], _ =>
    match xs, hx with
    | [y0, y1, y2], _ =>
      have f0 : DataW.trod enc Try.prog w base spare held n 3 [c0] = some y0 := by have := hf 0 _ rfl; simpa [c1_int] using this
      have f1 : DataW.trod enc Try.prog w base spare held n 3 [c1] = some y1 := by have := hf 1 _ rfl; simpa [c1_int] using this
      have f2 : DataW.trod enc Try.prog w base spare held n 9 [c2] = some y2 := by have := hf 2 _ rfl; simpa [c1_str] using this
      obtain ⟨k, e0, _, _⟩ := DataW.trod_int Try.underlying3 f0
      obtain ⟨m, e1, _, _⟩ := DataW.trod_int Try.underlying3 f1
      obtain ⟨s, e2, _, _⟩ := DataW.trod_string Try.underlying9 f2
      obtain ⟨s, rfl⟩ := byt_of s
      simp at e0 e1 e2
      subst e0 e1 e2
      exact ⟨⟨k, m, s⟩, rfl⟩
theorem job_cells (h : DataW.trod enc Try.prog w base spare held fuel 39 cs = some x) : ∃ j : Loopy.Job, cs = (jc j).toList := by
  obtain ⟨xs, n, _, _, hl, hx, hf⟩ := DataW.trod_struct Try.underlying39 h
  rw [c7_job] at hl
  match cs, hl with
  | [c0, c1, c2, c3, c4, c5, c6], _ =>
    match xs, hx with
    | [y0, y1, y2, y3, y4], _ =>
      have f0 : DataW.trod enc Try.prog w base spare held n 3 [c0] = some y0 := by have := hf 0 _ rfl; simpa [c1_int] using this
      have f1 : DataW.trod enc Try.prog w base spare held n 3 [c1] = some y1 := by have := hf 1 _ rfl; simpa [c1_int] using this
      have f2 : DataW.trod enc Try.prog w base spare held n 4 [c2] = some y2 := by have := hf 2 _ rfl; simpa [c1_bool] using this
      have f3 : DataW.trod enc Try.prog w base spare held n 9 [c3] = some y3 := by have := hf 3 _ rfl; simpa [c1_str] using this
      have f4 : DataW.trod enc Try.prog w base spare held n 33 [c4, c5, c6] = some y4 := by have := hf 4 _ rfl; simpa [c3_val] using this
      obtain ⟨a, e0, _, _⟩ := DataW.trod_int Try.underlying3 f0
      obtain ⟨b, e1, _, _⟩ := DataW.trod_int Try.underlying3 f1
      obtain ⟨c, e2, _⟩ := DataW.trod_bool Try.underlying4 f2
      obtain ⟨s, e3, _, _⟩ := DataW.trod_string Try.underlying9 f3
      obtain ⟨v, e4⟩ := val_cells f4
      obtain ⟨s, rfl⟩ := byt_of s
      simp at e0 e1 e2 e3 e4
      obtain ⟨e4, e5, e6⟩ := e4
      subst e0 e1 e2 e3 e4 e5 e6
      exact ⟨⟨a, b, c, s, v⟩, rfl⟩
theorem timer_cells (h : DataW.trod enc Try.prog w base spare held fuel 49 cs = some x) : ∃ j : Loopy.Timer, cs = (tc j).toList := by
  obtain ⟨xs, n, _, _, hl, hx, hf⟩ := DataW.trod_struct Try.underlying49 h
  rw [c5_timer] at hl
  match cs, hl with
  | [c0, c1, c2, c3, c4], _ =>
    match xs, hx with
    | [y0, y1, y2, y3, y4], _ =>
      have f0 : DataW.trod enc Try.prog w base spare held n 3 [c0] = some y0 := by have := hf 0 _ rfl; simpa [c1_int] using this
      have f1 : DataW.trod enc Try.prog w base spare held n 3 [c1] = some y1 := by have := hf 1 _ rfl; simpa [c1_int] using this
      have f2 : DataW.trod enc Try.prog w base spare held n 3 [c2] = some y2 := by have := hf 2 _ rfl; simpa [c1_int] using this
      have f3 : DataW.trod enc Try.prog w base spare held n 3 [c3] = some y3 := by have := hf 3 _ rfl; simpa [c1_int] using this
      have f4 : DataW.trod enc Try.prog w base spare held n 9 [c4] = some y4 := by have := hf 4 _ rfl; simpa [c1_str] using this
      obtain ⟨a, e0, _, _⟩ := DataW.trod_int Try.underlying3 f0
      obtain ⟨b, e1, _, _⟩ := DataW.trod_int Try.underlying3 f1
      obtain ⟨c, e2, _, _⟩ := DataW.trod_int Try.underlying3 f2
      obtain ⟨d, e3, _, _⟩ := DataW.trod_int Try.underlying3 f3
      obtain ⟨s, e4, _, _⟩ := DataW.trod_string Try.underlying9 f4
      obtain ⟨s, rfl⟩ := byt_of s
      simp at e0 e1 e2 e3 e4
      subst e0 e1 e2 e3 e4
      exact ⟨⟨a, b, c, d, s⟩, rfl⟩
theorem ask_cells (h : DataW.trod enc Try.prog w base spare held fuel 35 cs = some x) : ∃ j : Loopy.Ask, cs = (ac j).toList := by
  obtain ⟨xs, n, _, _, hl, hx, hf⟩ := DataW.trod_struct Try.underlying35 h
  rw [c7_ask] at hl
  match cs, hl with
  | [c0, c1, c2, c3, c4, c5, c6], _ =>
    match xs, hx with
    | [y0, y1, y2, y3, y4], _ =>
      have f0 : DataW.trod enc Try.prog w base spare held n 3 [c0] = some y0 := by have := hf 0 _ rfl; simpa [c1_int] using this
      have f1 : DataW.trod enc Try.prog w base spare held n 3 [c1] = some y1 := by have := hf 1 _ rfl; simpa [c1_int] using this
      have f2 : DataW.trod enc Try.prog w base spare held n 3 [c2] = some y2 := by have := hf 2 _ rfl; simpa [c1_int] using this
      have f3 : DataW.trod enc Try.prog w base spare held n 9 [c3] = some y3 := by have := hf 3 _ rfl; simpa [c1_str] using this
      have f4 : DataW.trod enc Try.prog w base spare held n 33 [c4, c5, c6] = some y4 := by have := hf 4 _ rfl; simpa [c3_val] using this
      obtain ⟨a, e0, _, _⟩ := DataW.trod_int Try.underlying3 f0
      obtain ⟨b, e1, _, _⟩ := DataW.trod_int Try.underlying3 f1
      obtain ⟨c, e2, _, _⟩ := DataW.trod_int Try.underlying3 f2
      obtain ⟨s, e3, _, _⟩ := DataW.trod_string Try.underlying9 f3
      obtain ⟨v, e4⟩ := val_cells f4
      obtain ⟨s, rfl⟩ := byt_of s
      simp at e0 e1 e2 e3 e4
      obtain ⟨e4, e5, e6⟩ := e4
      subst e0 e1 e2 e3 e4 e5 e6
      exact ⟨⟨a, b, c, s, v⟩, rfl⟩
/-- a row of structs: it reads as a list. -/
theorem open_rows {α : Type} [Inhabited α] {k : Nat} {f : α → Array Value} {t te : TypeId} (ht : Try.prog.underlying t = some (.slice te)) (hc : Try.prog.cellsOf te = k) (hk : ∀ x, (f x).size = k) (hk0 : 0 < k)
    (hel : ∀ {fuel : Nat} {cs : List Value} {x : DataW H × List MemPlace}, DataW.trod enc Try.prog w base spare held fuel te cs = some x → ∃ a : α, cs = (f a).toList)
    (h : DataW.trod enc Try.prog w base spare held fuel t cs = some x) : ∃ (l : List α) (v : Value), cs = [v] ∧ RdL w k f l v := by
  rcases open_slice ht h with ⟨rfl, _⟩ | ⟨a, len, cap, m, n, D, Pl, rfl, hb, hl, hm, hmm, hx, hi⟩
  · exact ⟨[], _, rfl, Rd.nil w k⟩
  have hlm : len ≤ m := by rw [hmm]; split <;> omega
  rw [hc] at hi
  obtain ⟨F, hF⟩ := choose_lt (α := α) (n := m) (p := fun i x => ∀ j, j < k → w.cell? (a.add (i * k + j)) = (f x).toList[j]?) (fun i him => by
    obtain ⟨cs', h1, h2⟩ := hi i him
    obtain ⟨x, rfl⟩ := hel h2
    obtain ⟨_, _, h3⟩ := World.cells?_some h1
    exact ⟨x, fun j hj => by rw [← add_add]; exact h3 j hj⟩)
  have hlen : ((List.range len).map F).length = len := by simp
  refine ⟨(List.range len).map F, _, rfl, some a, cap, by rw [hlen], by rw [hlen]; exact hl, by unfold maxLen at hm; omega, fun hn => ?_⟩
  rw [hlen] at hn
  have hcell : ∀ i, i < len → ∀ j, j < k → ∃ v, w.cell? (a.add (i * k + j)) = some v ∧ (f (F i)).toList[j]? = some v := by
    intro i hil j hj
    have h1 := hF i (by omega) j hj
    have h2 : j < (f (F i)).toList.length := by simp [hk, hj]
    rw [List.getElem?_eq_getElem h2] at h1
    exact ⟨_, h1, List.getElem?_eq_getElem h2⟩
  obtain ⟨v0, h0, _⟩ := hcell 0 hn 0 hk0
  have ha0 : a.add (0 * k + 0) = a := by simp [Addr.add]
  rw [ha0] at h0
  obtain ⟨g, o, sp⟩ := a
  have hsp : sp = none := World.cell?_spot h0
  subst hsp
  have hadd : ∀ n, Addr.add ⟨g, o, none⟩ n = ⟨g, o + n, none⟩ := by intro n; unfold Addr.add; split <;> simp_all
  refine ⟨g, o, rfl, ?_, ?_⟩
  · have : w.cell? ⟨g, o, none⟩ ≠ none := by rw [h0]; simp
    by_cases hg : g < w.heap.size
    · exact hg
    · exfalso; apply this; simp [World.cell?, Array.getElem?_eq_none (Nat.le_of_not_lt hg)]
  · intro j u hu
    have hj : j < len * k := by
      have := (List.getElem?_eq_some_iff.1 hu).1
      rw [flat_len hk, hlen] at this
      exact this
    have hjk : j % k < k := Nat.mod_lt _ hk0
    have hjd : j / k < len := Nat.div_lt_of_lt_mul (by rw [Nat.mul_comm]; exact hj)
    obtain ⟨v, h1, h2⟩ := hcell (j / k) hjd (j % k) hjk
    have h3 := flat_at (f := f) hk ((List.range len).map F) (j / k) (F (j / k)) (by simp [hjd]) (j % k) v h2
    have e : j / k * k + j % k = j := by rw [Nat.mul_comm]; exact Nat.div_add_mod j k
    rw [e] at h1 h3
    rw [hadd] at h1
    rw [h3] at hu
    rw [h1]; exact hu
theorem loop_cells (h : DataW.trod enc Try.prog w base spare held fuel 26 cs = some x) : ∃ (q : Loopy.Loop) (T S R : Value), cs = (lag q T S R).toList ∧ LRd w q T S R := by
  obtain ⟨xs, n, _, _, hl, hx, hf⟩ := DataW.trod_struct Try.underlying26 h
  rw [c5_loop] at hl
  match cs, hl with
  | [c0, c1, c2, c3, c4], _ =>
    match xs, hx with
    | [y0, y1, y2, y3, y4], _ =>
      have f0 : DataW.trod enc Try.prog w base spare held n 3 [c0] = some y0 := by have := hf 0 _ rfl; simpa [c1_int] using this
      have f1 : DataW.trod enc Try.prog w base spare held n 3 [c1] = some y1 := by have := hf 1 _ rfl; simpa [c1_int] using this
      have f2 : DataW.trod enc Try.prog w base spare held n 23 [c2] = some y2 := by have := hf 2 _ rfl; simpa [c1_jobs] using this
      have f3 : DataW.trod enc Try.prog w base spare held n 23 [c3] = some y3 := by have := hf 3 _ rfl; simpa [c1_jobs] using this
      have f4 : DataW.trod enc Try.prog w base spare held n 24 [c4] = some y4 := by have := hf 4 _ rfl; simpa [c1_timers] using this
      obtain ⟨a, e0, _, _⟩ := DataW.trod_int Try.underlying3 f0
      obtain ⟨b, e1, _, _⟩ := DataW.trod_int Try.underlying3 f1
      obtain ⟨l1, v1, e2, r1⟩ := open_rows (k := 7) (f := jc) Try.underlying23 c7_job (fun _ => rfl) (by decide) job_cells f2
      obtain ⟨l2, v2, e3, r2⟩ := open_rows (k := 7) (f := jc) Try.underlying23 c7_job (fun _ => rfl) (by decide) job_cells f3
      obtain ⟨l3, v3, e4, r3⟩ := open_rows (k := 5) (f := tc) Try.underlying24 c5_timer (fun _ => rfl) (by decide) timer_cells f4
      simp at e0 e1 e2 e3 e4
      subst e0 e1 e2 e3 e4
      exact ⟨⟨a, b, l1, l2, l3⟩, _, _, _, rfl, r1, r2, r3⟩
end
section
variable {H : Type} {enc : TypeId × Value → H} {w : World} {base : Nat} {spare : Nat → Bool} {held : Bool} {r : Reach} {b0 : Nat} {v : Value} {d : DataW H} {p : List MemPlace}
theorem open_loop (hv : Value.okWide Try.prog w r b0 26 v) (h : DataW.Trod enc Try.prog w base spare held 26 v d p) : ∃ (q : Loopy.Loop) (T S R : Value), v = .agg (lag q T S R) ∧ LRd w q T S R := by
  obtain ⟨cs, rfl, _⟩ := okWide_struct Try.underlying26 hv
  obtain ⟨fuel, hf⟩ := h
  obtain ⟨q, T, S, R, e, hR⟩ := loop_cells hf
  exact ⟨q, T, S, R, congrArg Value.agg (Array.toList_inj.1 e), hR⟩
theorem open_ask (hv : Value.okWide Try.prog w r b0 35 v) (h : DataW.Trod enc Try.prog w base spare held 35 v d p) : ∃ a : Loopy.Ask, v = aag a := by
  obtain ⟨cs, rfl, _⟩ := okWide_struct Try.underlying35 hv
  obtain ⟨fuel, hf⟩ := h
  obtain ⟨a, e⟩ := ask_cells hf
  exact ⟨a, congrArg Value.agg (Array.toList_inj.1 e)⟩
theorem open_asks (hv : Value.okWide Try.prog w r b0 22 v) (h : DataW.Trod enc Try.prog w base spare held 22 v d p) : ∃ l : List Loopy.Ask, ARd w l v := by
  obtain ⟨A, len, cap, rfl⟩ := okWide_slice Try.underlying22 hv
  obtain ⟨fuel, hf⟩ := h
  obtain ⟨l, v, e, hR⟩ := open_rows (k := 7) (f := ac) Try.underlying22 c7_ask (fun _ => rfl) (by decide) ask_cells hf
  have e2 : [Value.slice A len cap] = [v] := e
  rw [(List.cons.inj e2).1]
  exact ⟨l, hR⟩
end
end Go.Proofs.Ytpjbblbehbepbaa
