/-
  Arguments opened; jobs and timers compared; SameLoop; the closures of the laws; ok. Conditions: as each says.
-/
import Derived.Test.YtpjbblbehbepbaaLpJ
import Derived.Deep.Slices
import Derived.ProofKit
import Derived.OpenShut
import Derived.SizedLaws
import Derived.Lib.SmallJoins
import Derived.ChangeSame
import Derived.Test.YtpjbblbehbepbaaLpA
import Derived.Test.YtpjbblbehbepbaaRes
import Derived.Test.YtpjbblbehbepbaaLpD
import Derived.Deep.Cut
import Derived.WalkLawsBesides
import Derived.Shelf.Abstract
namespace Go.Proofs.Ytpjbblbehbepbaa
set_option linter.unusedSimpArgs false
set_option linter.unusedVariables false
open Go.ChangeShapes Go.WideShapes Go.RowKit Go.Joins Go.Deep

instance : Inhabited Loopy.Job := ⟨⟨0, 0, false, [], ⟨0, 0, []⟩⟩⟩
instance : Inhabited Loopy.Timer := ⟨⟨0, 0, 0, 0, []⟩⟩
instance : Inhabited Loopy.Ask := ⟨⟨0, 0, 0, [], ⟨0, 0, []⟩⟩⟩
theorem c1_int : Try.prog.cellsOf 3 = 1 := by kernel_rfl
theorem c1_bool : Try.prog.cellsOf 4 = 1 := by kernel_rfl
theorem c1_str : Try.prog.cellsOf 9 = 1 := by kernel_rfl
theorem c3_val : Try.prog.cellsOf 33 = 3 := by kernel_rfl
theorem c7_job : Try.prog.cellsOf 39 = 7 := by kernel_rfl
theorem c5_timer : Try.prog.cellsOf 49 = 5 := by kernel_rfl
theorem c7_ask : Try.prog.cellsOf 35 = 7 := by kernel_rfl
theorem c5_loop : Try.prog.cellsOf 26 = 5 := by kernel_rfl
theorem c1_jobs : Try.prog.cellsOf 23 = 1 := by kernel_rfl
theorem c1_timers : Try.prog.cellsOf 24 = 1 := by kernel_rfl
theorem byt_of (s : ByteArray) : ∃ l : List UInt8, s = byt l := ⟨s.data.toList, by cases s; simp [byt]⟩

section
variable {H : Type} {enc : TypeId × Value → H} {w : World} {base : Nat} {spare : Nat → Bool} {held : Bool} {fuel : Nat} {cs : List Value} {x : DataW H × List MemPlace}
theorem val_cells (h : DataW.trod enc Try.prog w base spare held fuel 33 cs = some x) : ∃ v : Valu.V, cs = [.int .i64 v.k, .int .i64 v.n, .string (byt v.s)] := by
  obtain ⟨xs, n, _, _, hl, hx, hf⟩ := DataW.trod_struct Try.underlying33 h
  rw [c3_val] at hl
  match cs, hl with
  | [c0, c1, c2], _ =>
    match xs, hx with
    | [y0, y1, y2], _ =>
      have f0 : DataW.trod enc Try.prog w base spare held n 3 [c0] = some y0 := by have := hf 0 _ rfl; simpa [c1_int] using this
      have f1 : DataW.trod enc Try.prog w base spare held n 3 [c1] = some y1 := by have := hf 1 _ rfl; simpa [c1_int] using this
      have f2 : DataW.trod enc Try.prog w base spare held n 9 [c2] = some y2 := by have := hf 2 _ rfl; simpa [c1_str] using this
      obtain ⟨k, e0, _, _⟩ := DataW.trod_int Try.underlying3 f0
      obtain ⟨m, e1, _, _⟩ := DataW.trod_int Try.underlying3 f1
      obtain ⟨s, e2, _, _⟩ := DataW.trod_string Try.underlying9 f2
      obtain ⟨s, rfl⟩ := byt_of s
      simp at e0 e1 e2
      subst e0 e1 e2
      exact ⟨⟨k, m, s⟩, rfl⟩
theorem job_cells (h : DataW.trod enc Try.prog w base spare held fuel 39 cs = some x) : ∃ j : Loopy.Job, cs = (jc j).toList := by
  obtain ⟨xs, n, _, _, hl, hx, hf⟩ := DataW.trod_struct Try.underlying39 h
  rw [c7_job] at hl
  match cs, hl with
  | [c0, c1, c2, c3, c4, c5, c6], _ =>
    match xs, hx with
    | [y0, y1, y2, y3, y4], _ =>
      have f0 : DataW.trod enc Try.prog w base spare held n 3 [c0] = some y0 := by have := hf 0 _ rfl; simpa [c1_int] using this
      have f1 : DataW.trod enc Try.prog w base spare held n 3 [c1] = some y1 := by have := hf 1 _ rfl; simpa [c1_int] using this
      have f2 : DataW.trod enc Try.prog w base spare held n 4 [c2] = some y2 := by have := hf 2 _ rfl; simpa [c1_bool] using this
      have f3 : DataW.trod enc Try.prog w base spare held n 9 [c3] = some y3 := by have := hf 3 _ rfl; simpa [c1_str] using this
      have f4 : DataW.trod enc Try.prog w base spare held n 33 [c4, c5, c6] = some y4 := by have := hf 4 _ rfl; simpa [c3_val] using this
      obtain ⟨a, e0, _, _⟩ := DataW.trod_int Try.underlying3 f0
      obtain ⟨b, e1, _, _⟩ := DataW.trod_int Try.underlying3 f1
      obtain ⟨c, e2, _⟩ := DataW.trod_bool Try.underlying4 f2
      obtain ⟨s, e3, _, _⟩ := DataW.trod_string Try.underlying9 f3
      obtain ⟨v, e4⟩ := val_cells f4
      obtain ⟨s, rfl⟩ := byt_of s
      simp at e0 e1 e2 e3 e4
      obtain ⟨e4, e5, e6⟩ := e4
      subst e0 e1 e2 e3 e4 e5 e6
      exact ⟨⟨a, b, c, s, v⟩, rfl⟩
theorem timer_cells (h : DataW.trod enc Try.prog w base spare held fuel 49 cs = some x) : ∃ j : Loopy.Timer, cs = (tc j).toList := by
  obtain ⟨xs, n, _, _, hl, hx, hf⟩ := DataW.trod_struct Try.underlying49 h
  rw [c5_timer] at hl
  match cs, hl with
  | [c0, c1, c2, c3, c4], _ =>
    match xs, hx with
    | [y0, y1, y2, y3, y4], _ =>
      have f0 : DataW.trod enc Try.prog w base spare held n 3 [c0] = some y0 := by have := hf 0 _ rfl; simpa [c1_int] using this
      have f1 : DataW.trod enc Try.prog w base spare held n 3 [c1] = some y1 := by have := hf 1 _ rfl; simpa [c1_int] using this
      have f2 : DataW.trod enc Try.prog w base spare held n 3 [c2] = some y2 := by have := hf 2 _ rfl; simpa [c1_int] using this
      have f3 : DataW.trod enc Try.prog w base spare held n 3 [c3] = some y3 := by have := hf 3 _ rfl; simpa [c1_int] using this
      have f4 : DataW.trod enc Try.prog w base spare held n 9 [c4] = some y4 := by have := hf 4 _ rfl; simpa [c1_str] using this
      obtain ⟨a, e0, _, _⟩ := DataW.trod_int Try.underlying3 f0
      obtain ⟨b, e1, _, _⟩ := DataW.trod_int Try.underlying3 f1
      obtain ⟨c, e2, _, _⟩ := DataW.trod_int Try.underlying3 f2
      obtain ⟨d, e3, _, _⟩ := DataW.trod_int Try.underlying3 f3
      obtain ⟨s, e4, _, _⟩ := DataW.trod_string Try.underlying9 f4
      obtain ⟨s, rfl⟩ := byt_of s
      simp at e0 e1 e2 e3 e4
      subst e0 e1 e2 e3 e4
      exact ⟨⟨a, b, c, d, s⟩, rfl⟩
theorem ask_cells (h : DataW.trod enc Try.prog w base spare held fuel 35 cs = some x) : ∃ j : Loopy.Ask, cs = (ac j).toList := by
  obtain ⟨xs, n, _, _, hl, hx, hf⟩ := DataW.trod_struct Try.underlying35 h
  rw [c7_ask] at hl
  match cs, hl with
  | [c0, c1, c2, c3, c4, c5, c6], _ =>
    match xs, hx with
    | [y0, y1, y2, y3, y4], _ =>
      have f0 : DataW.trod enc Try.prog w base spare held n 3 [c0] = some y0 := by have := hf 0 _ rfl; simpa [c1_int] using this
      have f1 : DataW.trod enc Try.prog w base spare held n 3 [c1] = some y1 := by have := hf 1 _ rfl; simpa [c1_int] using this
      have f2 : DataW.trod enc Try.prog w base spare held n 3 [c2] = some y2 := by have := hf 2 _ rfl; simpa [c1_int] using this
      have f3 : DataW.trod enc Try.prog w base spare held n 9 [c3] = some y3 := by have := hf 3 _ rfl; simpa [c1_str] using this
      have f4 : DataW.trod enc Try.prog w base spare held n 33 [c4, c5, c6] = some y4 := by have := hf 4 _ rfl; simpa [c3_val] using this
      obtain ⟨a, e0, _, _⟩ := DataW.trod_int Try.underlying3 f0
      obtain ⟨b, e1, _, _⟩ := DataW.trod_int Try.underlying3 f1
      obtain ⟨c, e2, _, _⟩ := DataW.trod_int Try.underlying3 f2
      obtain ⟨s, e3, _, _⟩ := DataW.trod_string Try.underlying9 f3
      obtain ⟨v, e4⟩ := val_cells f4
      obtain ⟨s, rfl⟩ := byt_of s
      simp at e0 e1 e2 e3 e4
      obtain ⟨e4, e5, e6⟩ := e4
      subst e0 e1 e2 e3 e4 e5 e6
      exact ⟨⟨a, b, c, s, v⟩, rfl⟩
/-- a row of structs: it reads as a list. -/
theorem open_rows {α : Type} [Inhabited α] {k : Nat} {f : α → Array Value} {t te : TypeId} (ht : Try.prog.underlying t = some (.slice te)) (hc : Try.prog.cellsOf te = k) (hk : ∀ x, (f x).size = k) (hk0 : 0 < k)
    (hel : ∀ {fuel : Nat} {cs : List Value} {x : DataW H × List MemPlace}, DataW.trod enc Try.prog w base spare held fuel te cs = some x → ∃ a : α, cs = (f a).toList)
    (h : DataW.trod enc Try.prog w base spare held fuel t cs = some x) : ∃ (l : List α) (v : Value), cs = [v] ∧ RdL w k f l v := by
  rcases open_slice ht h with ⟨rfl, _⟩ | ⟨a, len, cap, m, n, D, Pl, rfl, hb, hl, hm, hmm, hx, hi⟩
  · exact ⟨[], _, rfl, Rd.nil w k⟩
  have hlm : len ≤ m := by rw [hmm]; split <;> omega
  rw [hc] at hi
  obtain ⟨F, hF⟩ := choose_lt (α := α) (n := m) (p := fun i x => ∀ j, j < k → w.cell? (a.add (i * k + j)) = (f x).toList[j]?) (fun i him => by
    obtain ⟨cs', h1, h2⟩ := hi i him
    obtain ⟨x, rfl⟩ := hel h2
    obtain ⟨_, _, h3⟩ := World.cells?_some h1
    exact ⟨x, fun j hj => by rw [← add_add]; exact h3 j hj⟩)
  have hlen : ((List.range len).map F).length = len := by simp
  refine ⟨(List.range len).map F, _, rfl, some a, cap, by rw [hlen], by rw [hlen]; exact hl, by unfold maxLen at hm; omega, fun hn => ?_⟩
  rw [hlen] at hn
  have hcell : ∀ i, i < len → ∀ j, j < k → ∃ v, w.cell? (a.add (i * k + j)) = some v ∧ (f (F i)).toList[j]? = some v := by
    intro i hil j hj
    have h1 := hF i (by omega) j hj
    have h2 : j < (f (F i)).toList.length := by simp [hk, hj]
    rw [List.getElem?_eq_getElem h2] at h1
    exact ⟨_, h1, List.getElem?_eq_getElem h2⟩
  obtain ⟨v0, h0, _⟩ := hcell 0 hn 0 hk0
  have ha0 : a.add (0 * k + 0) = a := by simp [Addr.add]
  rw [ha0] at h0
  obtain ⟨g, o, sp⟩ := a
  have hsp : sp = none := World.cell?_spot h0
  subst hsp
  have hadd : ∀ n, Addr.add ⟨g, o, none⟩ n = ⟨g, o + n, none⟩ := by intro n; unfold Addr.add; split <;> simp_all
  refine ⟨g, o, rfl, ?_, ?_⟩
  · have : w.cell? ⟨g, o, none⟩ ≠ none := by rw [h0]; simp
    by_cases hg : g < w.heap.size
    · exact hg
    · exfalso; apply this; simp [World.cell?, Array.getElem?_eq_none (Nat.le_of_not_lt hg)]
  · intro j u hu
    have hj : j < len * k := by
      have := (List.getElem?_eq_some_iff.1 hu).1
      rw [flat_len hk, hlen] at this
      exact this
    have hjk : j % k < k := Nat.mod_lt _ hk0
    have hjd : j / k < len := Nat.div_lt_of_lt_mul (by rw [Nat.mul_comm]; exact hj)
    obtain ⟨v, h1, h2⟩ := hcell (j / k) hjd (j % k) hjk
    have h3 := flat_at (f := f) hk ((List.range len).map F) (j / k) (F (j / k)) (by simp [hjd]) (j % k) v h2
    have e : j / k * k + j % k = j := by rw [Nat.mul_comm]; exact Nat.div_add_mod j k
    rw [e] at h1 h3
    rw [hadd] at h1
    rw [h3] at hu
    rw [h1]; exact hu
theorem loop_cells (h : DataW.trod enc Try.prog w base spare held fuel 26 cs = some x) : ∃ (q : Loopy.Loop) (T S R : Value), cs = (lag q T S R).toList ∧ LRd w q T S R := by
  obtain ⟨xs, n, _, _, hl, hx, hf⟩ := DataW.trod_struct Try.underlying26 h
  rw [c5_loop] at hl
  match cs, hl with
  | [c0, c1, c2, c3, c4], _ =>
    match xs, hx with
    | [y0, y1, y2, y3, y4], _ =>
      have f0 : DataW.trod enc Try.prog w base spare held n 3 [c0] = some y0 := by have := hf 0 _ rfl; simpa [c1_int] using this
      have f1 : DataW.trod enc Try.prog w base spare held n 3 [c1] = some y1 := by have := hf 1 _ rfl; simpa [c1_int] using this
      have f2 : DataW.trod enc Try.prog w base spare held n 23 [c2] = some y2 := by have := hf 2 _ rfl; simpa [c1_jobs] using this
      have f3 : DataW.trod enc Try.prog w base spare held n 23 [c3] = some y3 := by have := hf 3 _ rfl; simpa [c1_jobs] using this
      have f4 : DataW.trod enc Try.prog w base spare held n 24 [c4] = some y4 := by have := hf 4 _ rfl; simpa [c1_timers] using this
      obtain ⟨a, e0, _, _⟩ := DataW.trod_int Try.underlying3 f0
      obtain ⟨b, e1, _, _⟩ := DataW.trod_int Try.underlying3 f1
      obtain ⟨l1, v1, e2, r1⟩ := open_rows (k := 7) (f := jc) Try.underlying23 c7_job (fun _ => rfl) (by decide) job_cells f2
      obtain ⟨l2, v2, e3, r2⟩ := open_rows (k := 7) (f := jc) Try.underlying23 c7_job (fun _ => rfl) (by decide) job_cells f3
      obtain ⟨l3, v3, e4, r3⟩ := open_rows (k := 5) (f := tc) Try.underlying24 c5_timer (fun _ => rfl) (by decide) timer_cells f4
      simp at e0 e1 e2 e3 e4
      subst e0 e1 e2 e3 e4
      exact ⟨⟨a, b, l1, l2, l3⟩, _, _, _, rfl, r1, r2, r3⟩
end
section
variable {H : Type} {enc : TypeId × Value → H} {w : World} {base : Nat} {spare : Nat → Bool} {held : Bool} {r : Reach} {b0 : Nat} {v : Value} {d : DataW H} {p : List MemPlace}
theorem open_loop (hv : Value.okWide Try.prog w r b0 26 v) (h : DataW.Trod enc Try.prog w base spare held 26 v d p) : ∃ (q : Loopy.Loop) (T S R : Value), v = .agg (lag q T S R) ∧ LRd w q T S R := by
  obtain ⟨cs, rfl, _⟩ := okWide_struct Try.underlying26 hv
  obtain ⟨fuel, hf⟩ := h
  obtain ⟨q, T, S, R, e, hR⟩ := loop_cells hf
  exact ⟨q, T, S, R, congrArg Value.agg (Array.toList_inj.1 e), hR⟩
theorem open_ask (hv : Value.okWide Try.prog w r b0 35 v) (h : DataW.Trod enc Try.prog w base spare held 35 v d p) : ∃ a : Loopy.Ask, v = aag a := by
  obtain ⟨cs, rfl, _⟩ := okWide_struct Try.underlying35 hv
  obtain ⟨fuel, hf⟩ := h
  obtain ⟨a, e⟩ := ask_cells hf
  exact ⟨a, congrArg Value.agg (Array.toList_inj.1 e)⟩
theorem open_asks (hv : Value.okWide Try.prog w r b0 22 v) (h : DataW.Trod enc Try.prog w base spare held 22 v d p) : ∃ l : List Loopy.Ask, ARd w l v := by
  obtain ⟨A, len, cap, rfl⟩ := okWide_slice Try.underlying22 hv
  obtain ⟨fuel, hf⟩ := h
  obtain ⟨l, v, e, hR⟩ := open_rows (k := 7) (f := ac) Try.underlying22 c7_ask (fun _ => rfl) (by decide) ask_cells hf
  have e2 : [Value.slice A len cap] = [v] := e
  rw [(List.cons.inj e2).1]
  exact ⟨l, hR⟩
end
end Go.Proofs.Ytpjbblbehbepbaa

namespace Go.Proofs.Ytpjbblbehbepbaa
set_option linter.unusedSimpArgs false
set_option linter.unusedVariables false
open Go.RowKit

theorem job_ext (a b : Loopy.Job) : (decide (a = b)) = (decide (a.id = b.id) && (decide (a.src = b.src) && (decide (a.small = b.small) && (decide ((byt a.call).toList = (byt b.call).toList) && decide (a.arg = b.arg))))) := by
  rw [byt_list, byt_list, Bool.eq_iff_iff]
  obtain ⟨a0, a1, a2, a3, a4⟩ := a
  obtain ⟨b0, b1, b2, b3, b4⟩ := b
  simp
theorem timer_ext (a b : Loopy.Timer) : (decide (a = b)) = (decide (a.id = b.id) && (decide (a.due = b.due) && (decide (a.every = b.every) && (decide (a.turn = b.turn) && decide ((byt a.call).toList = (byt b.call).toList))))) := by
  rw [byt_list, byt_list, Bool.eq_iff_iff]
  obtain ⟨a0, a1, a2, a3, a4⟩ := a
  obtain ⟨b0, b1, b2, b3, b4⟩ := b
  simp
theorem eql_job (a b : Loopy.Job) (w : World) : (binOp .eql 39 (jag a) (jag b)).run Try.prog w = .ok (.bool (decide (a = b))) w := by
  have u3 := Try.underlying3
  have a3 := Try.isAgg3
  have z3 := Try.sizeOf3
  have u4 := Try.underlying4
  have a4 := Try.isAgg4
  have z4 := Try.sizeOf4
  have u9 := Try.underlying9
  have a9 := Try.isAgg9
  have z9 := Try.sizeOf9
  have a5 := Try.isAgg33
  have z5 := Try.sizeOf33
  have hS : Try.prog.underlying 39 = some (.struct (Try.prog.fieldsOf 39)) := by kernel_rfl
  have hp : Try.prog.stoodInHeld 39 = false := by kernel_rfl
  rw [job_ext]
  rw [run_eql_struct, show (10000 : Nat) = 9999 + 1 from rfl, run_equalIn_agg w 9999 39 _ _ hS hp]
  simp only [Program.fieldsOf, Try.underlying39]
  go_simp
  by_cases h1 : a.id = b.id <;> by_cases h2 : a.src = b.src <;> by_cases h3 : a.small = b.small <;> by_cases h4 : (byt a.call).toList = (byt b.call).toList <;> simp [h1, h2, h3, h4]
  rw [v_ext]
  by_cases h5 : a.arg.k = b.arg.k <;> by_cases h6 : a.arg.n = b.arg.n <;> by_cases h7 : (byt a.arg.s).toList = (byt b.arg.s).toList <;> simp [h5, h6, h7]
theorem eql_timer (a b : Loopy.Timer) (w : World) : (binOp .eql 49 (tag a) (tag b)).run Try.prog w = .ok (.bool (decide (a = b))) w := by
  have u3 := Try.underlying3
  have a3 := Try.isAgg3
  have z3 := Try.sizeOf3
  have u9 := Try.underlying9
  have a9 := Try.isAgg9
  have z9 := Try.sizeOf9
  have hS : Try.prog.underlying 49 = some (.struct (Try.prog.fieldsOf 49)) := by kernel_rfl
  have hp : Try.prog.stoodInHeld 49 = false := by kernel_rfl
  rw [timer_ext]
  rw [run_eql_struct, show (10000 : Nat) = 9999 + 1 from rfl, run_equalIn_agg w 9999 49 _ _ hS hp]
  simp only [Program.fieldsOf, Try.underlying49]
  go_simp
  by_cases h1 : a.id = b.id <;> by_cases h2 : a.due = b.due <;> by_cases h3 : a.every = b.every <;> by_cases h4 : a.turn = b.turn <;> by_cases h5 : (byt a.call).toList = (byt b.call).toList <;> simp [h1, h2, h3, h4, h5]
theorem neq_of_eql {t : TypeId} {x y : Array Value} {b : Bool} {w : World} (h : (binOp .eql t (.agg x) (.agg y)).run Try.prog w = .ok (.bool b) w) : (binOp .neq t (.agg x) (.agg y)).run Try.prog w = .ok (.bool (!b)) w := by
  rw [run_eql_struct] at h
  rw [run_neq_struct]
  cases hr : (Op.equalIn 10000 t (.agg x) (.agg y)).run Try.prog w with
  | ok x w1 =>
    rw [hr] at h
    simp only [Result.andThen_ok] at h ⊢
    injection h with h1 h2
    injection h1 with h1
    rw [h1, h2]
  | halt x w1 => rw [hr] at h; simp [Result.andThen] at h
theorem neq_job (a b : Loopy.Job) (w : World) : (binOp .neq 39 (jag a) (jag b)).run Try.prog w = .ok (.bool (!decide (a = b))) w := neq_of_eql (eql_job a b w)
theorem neq_timer (a b : Loopy.Timer) (w : World) : (binOp .neq 49 (tag a) (tag b)).run Try.prog w = .ok (.bool (!decide (a = b))) w := neq_of_eql (eql_timer a b w)
end Go.Proofs.Ytpjbblbehbepbaa

namespace Go.Proofs.Ytpjbblbehbepbaa
set_option linter.unusedSimpArgs false
set_option linter.unusedVariables false
open Go.RowKit

theorem take_ne {α : Type} {l m : List α} {k : Nat} {x y : α} (hx : l[k]? = some x) (hy : m[k]? = some y) (h : x ≠ y) : l ≠ m := fun e => h (by rw [e, hy] at hx; injection hx with hx; exact hx.symm)
theorem take_all {α : Type} {l m : List α} (hl : l.length = m.length) (h : ∀ (j : Nat) (x y : α), j < l.length → l[j]? = some x → m[j]? = some y → x = y) : l = m := by
  apply List.ext_getElem hl
  intro i h1 h2
  exact h i _ _ h1 (List.getElem?_eq_getElem h1) (List.getElem?_eq_getElem h2)

set_option maxRecDepth 100000 in
set_option maxHeartbeats 2000000 in
theorem equal_job (l m : List Loopy.Job) (v u : Value) (w : World) (hv : RdL w 7 jc l v) (hu : RdL w 7 jc m u) (hl : l.length ≤ 1000000) (hm : m.length ≤ 1000000) :
    Calls Try.prog 22 #[v, u] w fun e w' => e = .returned (.bool (decide (l = m))) ∧ Below w.heap.size w w' := by
  obtain ⟨A, cap, rfl, hcap1, hcap2, hrow⟩ := hv
  obtain ⟨A2, cap2, rfl, hcap3, hcap4, hrow2⟩ := hu
  have HR := Lib.hid hrow
  have HR2 := Lib.hid hrow2
  clear hrow hrow2
  go_enter Try.func22, Try.ntmps22
  by_cases hlm : l.length = m.length
  · have hne : ((l.length : Int) != (m.length : Int)) = false := by simp [hlm]
    have HLM := Lib.hid hlm
    clear hlm
    go_wp2
    go_loopg [5, 13] l.length (fun gg _ s13 wr => ∃ kk : Nat, kk ≤ l.length ∧ l.length - kk ≤ gg ∧ s13 = .int .i64 (kk : Int) ∧ Hid (Below w.heap.size w wr) ∧ Hid (∀ (j : Nat) (x y : Loopy.Job), j < kk → l[j]? = some x → m[j]? = some y → x = y))
    case atStart => exact ⟨0, Nat.zero_le _, by omega, rfl, Below.refl _ w, fun j x y hj => absurd hj (Nat.not_lt_zero _)⟩
    case round =>
      obtain ⟨kk, hkk, hg, rfl, BW, AA⟩ := hrel
      by_cases hlt : kk < l.length
      · have hltz : (kk : Int) < (l.length : Int) := by omega
        have hltz2 : (kk : Int) < (m.length : Int) := by have := HLM.out; omega
        obtain ⟨x, hx⟩ : ∃ x, l[kk]? = some x := ⟨_, List.getElem?_eq_getElem hlt⟩
        obtain ⟨y, hy⟩ : ∃ y, m[kk]? = some y := ⟨_, List.getElem?_eq_getElem (by have := HLM.out; omega)⟩
        obtain ⟨g0, o0, rfl, hg0, hrg⟩ := HR.out (by omega)
        obtain ⟨g1, o1, rfl, hg1, hrg1⟩ := HR2.out (by have := HLM.out; omega)
        have hr0 : Hid (wr.rangeAt g0 (o0 + kk * 7) (jc x).toList) := fun i u hu => by
          rw [BW.out.cell (p := ⟨g0, o0 + kk * 7 + i, none⟩) hg0]
          exact RdL.elem (f := jc) (fun _ => rfl) hrg hx i u hu
        have hr1 : Hid (wr.rangeAt g1 (o1 + kk * 7) (jc y).toList) := fun i u hu => by
          rw [BW.out.cell (p := ⟨g1, o1 + kk * 7 + i, none⟩) hg1]
          exact RdL.elem (f := jc) (fun _ => rfl) hrg1 hy i u hu
        have HX := Lib.hid hx
        have HY := Lib.hid hy
        clear hx hy hrg hrg1
        obtain ⟨b, hb⟩ : ∃ b, decide (x = y) = b := ⟨_, rfl⟩
        have hnq := fun w => neq_job x y w
        rw [hb] at hnq
        have HB := Lib.hid hb
        clear hb
        cases b with
        | false =>
          go_upto_region 6 with (fail)
          refine wp_region_held_drew (S := fun w' => w'.rangeAt g0 (o0 + kk * 7) (jc x).toList ∧ w'.rangeAt g1 (o1 + kk * 7) (jc y).toList) (by kernel_rfl) ⟨hr0.out, hr1.out⟩ (fun hHeld => ?_)
          refine wpAnyH_take (i := 0) (v := ?_) rfl (by kernel_rfl) (by kernel_rfl) (by kernel_rfl) (fun _ _ _ h => h) (Or.inl ⟨by kernel_rfl, ?_⟩) (by assumption) ?_
          rotate_left
          · intro w hSw
            (try dsimp only at hSw)
            go_simp
            try (with_reducible rfl)
          (try simp only [Act.put, List.getElem_toArray, List.getElem_cons_zero, List.setIfInBounds_toArray, List.set_cons_zero, List.set_cons_succ])
          refine wpAnyH_take (i := 1) (v := ?_) rfl (by kernel_rfl) (by kernel_rfl) (by kernel_rfl) (fun _ _ _ h => h) (Or.inl ⟨by kernel_rfl, ?_⟩) (by assumption) ?_
          rotate_left
          · intro w hSw
            (try dsimp only at hSw)
            go_simp
            try (with_reducible rfl)
          (try simp only [Act.put, List.getElem_toArray, List.getElem_cons_succ, List.getElem_cons_zero, List.setIfInBounds_toArray, List.set_cons_zero, List.set_cons_succ])
          refine wpAnyH_take (i := 2) (v := ?_) rfl (by kernel_rfl) (by kernel_rfl) (by kernel_rfl) (fun _ _ _ h => h) (Or.inl ⟨by kernel_rfl, ?_⟩) (by assumption) ?_
          rotate_left
          · intro w hSw
            (try dsimp only at hSw)
            go_simp
            try (with_reducible rfl)
          (try simp only [Act.put, List.getElem_toArray, List.getElem_cons_succ, List.getElem_cons_zero, List.setIfInBounds_toArray, List.set_cons_zero, List.set_cons_succ])
          refine wpAnyH_take (i := 3) (v := _) rfl (by kernel_rfl) (by kernel_rfl) (by kernel_rfl) (fun _ _ _ h => h) (yieldsIf_load_mid (by kernel_rfl) 39 (.tmp 18) rfl (g0) (o0 + kk * 7) rfl ((jc x).toList) _ (fun _ h => h.1) Try.underlying39 rfl info_job) (by assumption) ?_
          (try simp only [Act.put, List.getElem_toArray, List.getElem_cons_succ, List.getElem_cons_zero, List.setIfInBounds_toArray, List.set_cons_zero, List.set_cons_succ])
          refine wpAnyH_take (i := 4) (v := ?_) rfl (by kernel_rfl) (by kernel_rfl) (by kernel_rfl) (fun _ _ _ h => h) (Or.inl ⟨by kernel_rfl, ?_⟩) (by assumption) ?_
          rotate_left
          · intro w hSw
            (try dsimp only at hSw)
            go_simp
            try (with_reducible rfl)
          (try simp only [Act.put, List.getElem_toArray, List.getElem_cons_succ, List.getElem_cons_zero, List.setIfInBounds_toArray, List.set_cons_zero, List.set_cons_succ])
          refine wpAnyH_take (i := 5) (v := ?_) rfl (by kernel_rfl) (by kernel_rfl) (by kernel_rfl) (fun _ _ _ h => h) (Or.inl ⟨by kernel_rfl, ?_⟩) (by assumption) ?_
          rotate_left
          · intro w hSw
            (try dsimp only at hSw)
            go_simp
            try (with_reducible rfl)
          (try simp only [Act.put, List.getElem_toArray, List.getElem_cons_succ, List.getElem_cons_zero, List.setIfInBounds_toArray, List.set_cons_zero, List.set_cons_succ])
          refine wpAnyH_take (i := 6) (v := ?_) rfl (by kernel_rfl) (by kernel_rfl) (by kernel_rfl) (fun _ _ _ h => h) (Or.inl ⟨by kernel_rfl, ?_⟩) (by assumption) ?_
          rotate_left
          · intro w hSw
            (try dsimp only at hSw)
            go_simp
            try (with_reducible rfl)
          (try simp only [Act.put, List.getElem_toArray, List.getElem_cons_succ, List.getElem_cons_zero, List.setIfInBounds_toArray, List.set_cons_zero, List.set_cons_succ])
          refine wpAnyH_take (i := 7) (v := _) rfl (by kernel_rfl) (by kernel_rfl) (by kernel_rfl) (fun _ _ _ h => h) (yieldsIf_load_mid (by kernel_rfl) 39 (.tmp 22) rfl (g1) (o1 + kk * 7) rfl ((jc y).toList) _ (fun _ h => h.2) Try.underlying39 rfl info_job) (by assumption) ?_
          (try simp only [Act.put, List.getElem_toArray, List.getElem_cons_succ, List.getElem_cons_zero, List.setIfInBounds_toArray, List.set_cons_zero, List.set_cons_succ])
          refine wpAnyH_take (i := 8) (v := ?_) rfl (by kernel_rfl) (by kernel_rfl) (by kernel_rfl) (fun _ _ _ h => h) (Or.inl ⟨by kernel_rfl, ?_⟩) (by assumption) ?_
          rotate_left
          · intro w hSw
            (try dsimp only at hSw)
            go_simp
            try (with_reducible rfl)
          (try simp only [Act.put, List.getElem_toArray, List.getElem_cons_succ, List.getElem_cons_zero, List.setIfInBounds_toArray, List.set_cons_zero, List.set_cons_succ])
          refine wpAnyH_done (by kernel_rfl) ?_ _
          go_wp2
          go_ret
          refine ⟨?_, BW.out.drew⟩
          rw [decide_eq_false (take_ne HX.out HY.out (of_decide_eq_false HB.out))]; rfl
        | true =>
          go_upto_region 6 with (fail)
          refine wp_region_held_drew (S := fun w' => w'.rangeAt g0 (o0 + kk * 7) (jc x).toList ∧ w'.rangeAt g1 (o1 + kk * 7) (jc y).toList) (by kernel_rfl) ⟨hr0.out, hr1.out⟩ (fun hHeld => ?_)
          refine wpAnyH_take (i := 0) (v := ?_) rfl (by kernel_rfl) (by kernel_rfl) (by kernel_rfl) (fun _ _ _ h => h) (Or.inl ⟨by kernel_rfl, ?_⟩) (by assumption) ?_
          rotate_left
          · intro w hSw
            (try dsimp only at hSw)
            go_simp
            try (with_reducible rfl)
          (try simp only [Act.put, List.getElem_toArray, List.getElem_cons_zero, List.setIfInBounds_toArray, List.set_cons_zero, List.set_cons_succ])
          refine wpAnyH_take (i := 1) (v := ?_) rfl (by kernel_rfl) (by kernel_rfl) (by kernel_rfl) (fun _ _ _ h => h) (Or.inl ⟨by kernel_rfl, ?_⟩) (by assumption) ?_
          rotate_left
          · intro w hSw
            (try dsimp only at hSw)
            go_simp
            try (with_reducible rfl)
          (try simp only [Act.put, List.getElem_toArray, List.getElem_cons_succ, List.getElem_cons_zero, List.setIfInBounds_toArray, List.set_cons_zero, List.set_cons_succ])
          refine wpAnyH_take (i := 2) (v := ?_) rfl (by kernel_rfl) (by kernel_rfl) (by kernel_rfl) (fun _ _ _ h => h) (Or.inl ⟨by kernel_rfl, ?_⟩) (by assumption) ?_
          rotate_left
          · intro w hSw
            (try dsimp only at hSw)
            go_simp
            try (with_reducible rfl)
          (try simp only [Act.put, List.getElem_toArray, List.getElem_cons_succ, List.getElem_cons_zero, List.setIfInBounds_toArray, List.set_cons_zero, List.set_cons_succ])
          refine wpAnyH_take (i := 3) (v := _) rfl (by kernel_rfl) (by kernel_rfl) (by kernel_rfl) (fun _ _ _ h => h) (yieldsIf_load_mid (by kernel_rfl) 39 (.tmp 18) rfl (g0) (o0 + kk * 7) rfl ((jc x).toList) _ (fun _ h => h.1) Try.underlying39 rfl info_job) (by assumption) ?_
          (try simp only [Act.put, List.getElem_toArray, List.getElem_cons_succ, List.getElem_cons_zero, List.setIfInBounds_toArray, List.set_cons_zero, List.set_cons_succ])
          refine wpAnyH_take (i := 4) (v := ?_) rfl (by kernel_rfl) (by kernel_rfl) (by kernel_rfl) (fun _ _ _ h => h) (Or.inl ⟨by kernel_rfl, ?_⟩) (by assumption) ?_
          rotate_left
          · intro w hSw
            (try dsimp only at hSw)
            go_simp
            try (with_reducible rfl)
          (try simp only [Act.put, List.getElem_toArray, List.getElem_cons_succ, List.getElem_cons_zero, List.setIfInBounds_toArray, List.set_cons_zero, List.set_cons_succ])
          refine wpAnyH_take (i := 5) (v := ?_) rfl (by kernel_rfl) (by kernel_rfl) (by kernel_rfl) (fun _ _ _ h => h) (Or.inl ⟨by kernel_rfl, ?_⟩) (by assumption) ?_
          rotate_left
          · intro w hSw
            (try dsimp only at hSw)
            go_simp
            try (with_reducible rfl)
          (try simp only [Act.put, List.getElem_toArray, List.getElem_cons_succ, List.getElem_cons_zero, List.setIfInBounds_toArray, List.set_cons_zero, List.set_cons_succ])
          refine wpAnyH_take (i := 6) (v := ?_) rfl (by kernel_rfl) (by kernel_rfl) (by kernel_rfl) (fun _ _ _ h => h) (Or.inl ⟨by kernel_rfl, ?_⟩) (by assumption) ?_
          rotate_left
          · intro w hSw
            (try dsimp only at hSw)
            go_simp
            try (with_reducible rfl)
          (try simp only [Act.put, List.getElem_toArray, List.getElem_cons_succ, List.getElem_cons_zero, List.setIfInBounds_toArray, List.set_cons_zero, List.set_cons_succ])
          refine wpAnyH_take (i := 7) (v := _) rfl (by kernel_rfl) (by kernel_rfl) (by kernel_rfl) (fun _ _ _ h => h) (yieldsIf_load_mid (by kernel_rfl) 39 (.tmp 22) rfl (g1) (o1 + kk * 7) rfl ((jc y).toList) _ (fun _ h => h.2) Try.underlying39 rfl info_job) (by assumption) ?_
          (try simp only [Act.put, List.getElem_toArray, List.getElem_cons_succ, List.getElem_cons_zero, List.setIfInBounds_toArray, List.set_cons_zero, List.set_cons_succ])
          refine wpAnyH_take (i := 8) (v := ?_) rfl (by kernel_rfl) (by kernel_rfl) (by kernel_rfl) (fun _ _ _ h => h) (Or.inl ⟨by kernel_rfl, ?_⟩) (by assumption) ?_
          rotate_left
          · intro w hSw
            (try dsimp only at hSw)
            go_simp
            try (with_reducible rfl)
          (try simp only [Act.put, List.getElem_toArray, List.getElem_cons_succ, List.getElem_cons_zero, List.setIfInBounds_toArray, List.set_cons_zero, List.set_cons_succ])
          refine wpAnyH_done (by kernel_rfl) ?_ _
          go_wp2
          go_roundg (l.length - (kk + 1))
          case measure => omega
          case rel =>
            refine ⟨kk + 1, by omega, by omega, by go_num, BW.out.drew, (show Hid _ from fun j x' y' hj hx' hy' => ?_)⟩
            by_cases e : j = kk
            · subst e
              have h1 := HX.out
              have h2 := HY.out
              rw [hx'] at h1
              rw [hy'] at h2
              injection h1 with h1
              injection h2 with h2
              rw [h1, h2]; exact of_decide_eq_true HB.out
            · exact AA.out j x' y' (by omega) hx' hy'
      · have hltz : ¬ (kk : Int) < (l.length : Int) := by omega
        go_wp2
        go_ret
        refine ⟨?_, BW.out⟩
        rw [decide_eq_true (take_all HLM.out (fun j x y hj h1 h2 => AA.out j x y (by omega) h1 h2))]; rfl
  · have hne : ((l.length : Int) != (m.length : Int)) = true := by simp; omega
    have HLM := Lib.hid hlm
    go_wp2
    go_ret
    refine ⟨?_, Below.refl _ w⟩
    rw [decide_eq_false (fun e => HLM.out (by rw [e]))]; rfl

set_option maxRecDepth 100000 in
set_option maxHeartbeats 2000000 in
theorem equal_timer (l m : List Loopy.Timer) (v u : Value) (w : World) (hv : RdL w 5 tc l v) (hu : RdL w 5 tc m u) (hl : l.length ≤ 1000000) (hm : m.length ≤ 1000000) :
    Calls Try.prog 34 #[v, u] w fun e w' => e = .returned (.bool (decide (l = m))) ∧ Below w.heap.size w w' := by
  obtain ⟨A, cap, rfl, hcap1, hcap2, hrow⟩ := hv
  obtain ⟨A2, cap2, rfl, hcap3, hcap4, hrow2⟩ := hu
  have HR := Lib.hid hrow
  have HR2 := Lib.hid hrow2
  clear hrow hrow2
  go_enter Try.func34, Try.ntmps34
  by_cases hlm : l.length = m.length
  · have hne : ((l.length : Int) != (m.length : Int)) = false := by simp [hlm]
    have HLM := Lib.hid hlm
    clear hlm
    go_wp2
    go_loopg [5, 13] l.length (fun gg _ s13 wr => ∃ kk : Nat, kk ≤ l.length ∧ l.length - kk ≤ gg ∧ s13 = .int .i64 (kk : Int) ∧ Hid (Below w.heap.size w wr) ∧ Hid (∀ (j : Nat) (x y : Loopy.Timer), j < kk → l[j]? = some x → m[j]? = some y → x = y))
    case atStart => exact ⟨0, Nat.zero_le _, by omega, rfl, Below.refl _ w, fun j x y hj => absurd hj (Nat.not_lt_zero _)⟩
    case round =>
      obtain ⟨kk, hkk, hg, rfl, BW, AA⟩ := hrel
      by_cases hlt : kk < l.length
      · have hltz : (kk : Int) < (l.length : Int) := by omega
        have hltz2 : (kk : Int) < (m.length : Int) := by have := HLM.out; omega
        obtain ⟨x, hx⟩ : ∃ x, l[kk]? = some x := ⟨_, List.getElem?_eq_getElem hlt⟩
        obtain ⟨y, hy⟩ : ∃ y, m[kk]? = some y := ⟨_, List.getElem?_eq_getElem (by have := HLM.out; omega)⟩
        obtain ⟨g0, o0, rfl, hg0, hrg⟩ := HR.out (by omega)
        obtain ⟨g1, o1, rfl, hg1, hrg1⟩ := HR2.out (by have := HLM.out; omega)
        have hr0 : Hid (wr.rangeAt g0 (o0 + kk * 5) (tc x).toList) := fun i u hu => by
          rw [BW.out.cell (p := ⟨g0, o0 + kk * 5 + i, none⟩) hg0]
          exact RdL.elem (f := tc) (fun _ => rfl) hrg hx i u hu
        have hr1 : Hid (wr.rangeAt g1 (o1 + kk * 5) (tc y).toList) := fun i u hu => by
          rw [BW.out.cell (p := ⟨g1, o1 + kk * 5 + i, none⟩) hg1]
          exact RdL.elem (f := tc) (fun _ => rfl) hrg1 hy i u hu
        have HX := Lib.hid hx
        have HY := Lib.hid hy
        clear hx hy hrg hrg1
        obtain ⟨b, hb⟩ : ∃ b, decide (x = y) = b := ⟨_, rfl⟩
        have hnq := fun w => neq_timer x y w
        rw [hb] at hnq
        have HB := Lib.hid hb
        clear hb
        cases b with
        | false =>
          go_upto_region 6 with (fail)
          refine wp_region_held_drew (S := fun w' => w'.rangeAt g0 (o0 + kk * 5) (tc x).toList ∧ w'.rangeAt g1 (o1 + kk * 5) (tc y).toList) (by kernel_rfl) ⟨hr0.out, hr1.out⟩ (fun hHeld => ?_)
          refine wpAnyH_take (i := 0) (v := ?_) rfl (by kernel_rfl) (by kernel_rfl) (by kernel_rfl) (fun _ _ _ h => h) (Or.inl ⟨by kernel_rfl, ?_⟩) (by assumption) ?_
          rotate_left
          · intro w hSw
            (try dsimp only at hSw)
            go_simp
            try (with_reducible rfl)
          (try simp only [Act.put, List.getElem_toArray, List.getElem_cons_zero, List.setIfInBounds_toArray, List.set_cons_zero, List.set_cons_succ])
          refine wpAnyH_take (i := 1) (v := ?_) rfl (by kernel_rfl) (by kernel_rfl) (by kernel_rfl) (fun _ _ _ h => h) (Or.inl ⟨by kernel_rfl, ?_⟩) (by assumption) ?_
          rotate_left
          · intro w hSw
            (try dsimp only at hSw)
            go_simp
            try (with_reducible rfl)
          (try simp only [Act.put, List.getElem_toArray, List.getElem_cons_succ, List.getElem_cons_zero, List.setIfInBounds_toArray, List.set_cons_zero, List.set_cons_succ])
          refine wpAnyH_take (i := 2) (v := ?_) rfl (by kernel_rfl) (by kernel_rfl) (by kernel_rfl) (fun _ _ _ h => h) (Or.inl ⟨by kernel_rfl, ?_⟩) (by assumption) ?_
          rotate_left
          · intro w hSw
            (try dsimp only at hSw)
            go_simp
            try (with_reducible rfl)
          (try simp only [Act.put, List.getElem_toArray, List.getElem_cons_succ, List.getElem_cons_zero, List.setIfInBounds_toArray, List.set_cons_zero, List.set_cons_succ])
          refine wpAnyH_take (i := 3) (v := _) rfl (by kernel_rfl) (by kernel_rfl) (by kernel_rfl) (fun _ _ _ h => h) (yieldsIf_load_mid (by kernel_rfl) 49 (.tmp 18) rfl (g0) (o0 + kk * 5) rfl ((tc x).toList) _ (fun _ h => h.1) Try.underlying49 rfl info_timer) (by assumption) ?_
          (try simp only [Act.put, List.getElem_toArray, List.getElem_cons_succ, List.getElem_cons_zero, List.setIfInBounds_toArray, List.set_cons_zero, List.set_cons_succ])
          refine wpAnyH_take (i := 4) (v := ?_) rfl (by kernel_rfl) (by kernel_rfl) (by kernel_rfl) (fun _ _ _ h => h) (Or.inl ⟨by kernel_rfl, ?_⟩) (by assumption) ?_
          rotate_left
          · intro w hSw
            (try dsimp only at hSw)
            go_simp
            try (with_reducible rfl)
          (try simp only [Act.put, List.getElem_toArray, List.getElem_cons_succ, List.getElem_cons_zero, List.setIfInBounds_toArray, List.set_cons_zero, List.set_cons_succ])
          refine wpAnyH_take (i := 5) (v := ?_) rfl (by kernel_rfl) (by kernel_rfl) (by kernel_rfl) (fun _ _ _ h => h) (Or.inl ⟨by kernel_rfl, ?_⟩) (by assumption) ?_
          rotate_left
          · intro w hSw
            (try dsimp only at hSw)
            go_simp
            try (with_reducible rfl)
          (try simp only [Act.put, List.getElem_toArray, List.getElem_cons_succ, List.getElem_cons_zero, List.setIfInBounds_toArray, List.set_cons_zero, List.set_cons_succ])
          refine wpAnyH_take (i := 6) (v := ?_) rfl (by kernel_rfl) (by kernel_rfl) (by kernel_rfl) (fun _ _ _ h => h) (Or.inl ⟨by kernel_rfl, ?_⟩) (by assumption) ?_
          rotate_left
          · intro w hSw
            (try dsimp only at hSw)
            go_simp
            try (with_reducible rfl)
          (try simp only [Act.put, List.getElem_toArray, List.getElem_cons_succ, List.getElem_cons_zero, List.setIfInBounds_toArray, List.set_cons_zero, List.set_cons_succ])
          refine wpAnyH_take (i := 7) (v := _) rfl (by kernel_rfl) (by kernel_rfl) (by kernel_rfl) (fun _ _ _ h => h) (yieldsIf_load_mid (by kernel_rfl) 49 (.tmp 22) rfl (g1) (o1 + kk * 5) rfl ((tc y).toList) _ (fun _ h => h.2) Try.underlying49 rfl info_timer) (by assumption) ?_
          (try simp only [Act.put, List.getElem_toArray, List.getElem_cons_succ, List.getElem_cons_zero, List.setIfInBounds_toArray, List.set_cons_zero, List.set_cons_succ])
          refine wpAnyH_take (i := 8) (v := ?_) rfl (by kernel_rfl) (by kernel_rfl) (by kernel_rfl) (fun _ _ _ h => h) (Or.inl ⟨by kernel_rfl, ?_⟩) (by assumption) ?_
          rotate_left
          · intro w hSw
            (try dsimp only at hSw)
            go_simp
            try (with_reducible rfl)
          (try simp only [Act.put, List.getElem_toArray, List.getElem_cons_succ, List.getElem_cons_zero, List.setIfInBounds_toArray, List.set_cons_zero, List.set_cons_succ])
          refine wpAnyH_done (by kernel_rfl) ?_ _
          go_wp2
          go_ret
          refine ⟨?_, BW.out.drew⟩
          rw [decide_eq_false (take_ne HX.out HY.out (of_decide_eq_false HB.out))]; rfl
        | true =>
          go_upto_region 6 with (fail)
          refine wp_region_held_drew (S := fun w' => w'.rangeAt g0 (o0 + kk * 5) (tc x).toList ∧ w'.rangeAt g1 (o1 + kk * 5) (tc y).toList) (by kernel_rfl) ⟨hr0.out, hr1.out⟩ (fun hHeld => ?_)
          refine wpAnyH_take (i := 0) (v := ?_) rfl (by kernel_rfl) (by kernel_rfl) (by kernel_rfl) (fun _ _ _ h => h) (Or.inl ⟨by kernel_rfl, ?_⟩) (by assumption) ?_
          rotate_left
          · intro w hSw
            (try dsimp only at hSw)
            go_simp
            try (with_reducible rfl)
          (try simp only [Act.put, List.getElem_toArray, List.getElem_cons_zero, List.setIfInBounds_toArray, List.set_cons_zero, List.set_cons_succ])
          refine wpAnyH_take (i := 1) (v := ?_) rfl (by kernel_rfl) (by kernel_rfl) (by kernel_rfl) (fun _ _ _ h => h) (Or.inl ⟨by kernel_rfl, ?_⟩) (by assumption) ?_
          rotate_left
          · intro w hSw
            (try dsimp only at hSw)
            go_simp
            try (with_reducible rfl)
          (try simp only [Act.put, List.getElem_toArray, List.getElem_cons_succ, List.getElem_cons_zero, List.setIfInBounds_toArray, List.set_cons_zero, List.set_cons_succ])
          refine wpAnyH_take (i := 2) (v := ?_) rfl (by kernel_rfl) (by kernel_rfl) (by kernel_rfl) (fun _ _ _ h => h) (Or.inl ⟨by kernel_rfl, ?_⟩) (by assumption) ?_
          rotate_left
          · intro w hSw
            (try dsimp only at hSw)
            go_simp
            try (with_reducible rfl)
          (try simp only [Act.put, List.getElem_toArray, List.getElem_cons_succ, List.getElem_cons_zero, List.setIfInBounds_toArray, List.set_cons_zero, List.set_cons_succ])
          refine wpAnyH_take (i := 3) (v := _) rfl (by kernel_rfl) (by kernel_rfl) (by kernel_rfl) (fun _ _ _ h => h) (yieldsIf_load_mid (by kernel_rfl) 49 (.tmp 18) rfl (g0) (o0 + kk * 5) rfl ((tc x).toList) _ (fun _ h => h.1) Try.underlying49 rfl info_timer) (by assumption) ?_
          (try simp only [Act.put, List.getElem_toArray, List.getElem_cons_succ, List.getElem_cons_zero, List.setIfInBounds_toArray, List.set_cons_zero, List.set_cons_succ])
          refine wpAnyH_take (i := 4) (v := ?_) rfl (by kernel_rfl) (by kernel_rfl) (by kernel_rfl) (fun _ _ _ h => h) (Or.inl ⟨by kernel_rfl, ?_⟩) (by assumption) ?_
          rotate_left
          · intro w hSw
            (try dsimp only at hSw)
            go_simp
            try (with_reducible rfl)
          (try simp only [Act.put, List.getElem_toArray, List.getElem_cons_succ, List.getElem_cons_zero, List.setIfInBounds_toArray, List.set_cons_zero, List.set_cons_succ])
          refine wpAnyH_take (i := 5) (v := ?_) rfl (by kernel_rfl) (by kernel_rfl) (by kernel_rfl) (fun _ _ _ h => h) (Or.inl ⟨by kernel_rfl, ?_⟩) (by assumption) ?_
          rotate_left
          · intro w hSw
            (try dsimp only at hSw)
            go_simp
            try (with_reducible rfl)
          (try simp only [Act.put, List.getElem_toArray, List.getElem_cons_succ, List.getElem_cons_zero, List.setIfInBounds_toArray, List.set_cons_zero, List.set_cons_succ])
          refine wpAnyH_take (i := 6) (v := ?_) rfl (by kernel_rfl) (by kernel_rfl) (by kernel_rfl) (fun _ _ _ h => h) (Or.inl ⟨by kernel_rfl, ?_⟩) (by assumption) ?_
          rotate_left
          · intro w hSw
            (try dsimp only at hSw)
            go_simp
            try (with_reducible rfl)
          (try simp only [Act.put, List.getElem_toArray, List.getElem_cons_succ, List.getElem_cons_zero, List.setIfInBounds_toArray, List.set_cons_zero, List.set_cons_succ])
          refine wpAnyH_take (i := 7) (v := _) rfl (by kernel_rfl) (by kernel_rfl) (by kernel_rfl) (fun _ _ _ h => h) (yieldsIf_load_mid (by kernel_rfl) 49 (.tmp 22) rfl (g1) (o1 + kk * 5) rfl ((tc y).toList) _ (fun _ h => h.2) Try.underlying49 rfl info_timer) (by assumption) ?_
          (try simp only [Act.put, List.getElem_toArray, List.getElem_cons_succ, List.getElem_cons_zero, List.setIfInBounds_toArray, List.set_cons_zero, List.set_cons_succ])
          refine wpAnyH_take (i := 8) (v := ?_) rfl (by kernel_rfl) (by kernel_rfl) (by kernel_rfl) (fun _ _ _ h => h) (Or.inl ⟨by kernel_rfl, ?_⟩) (by assumption) ?_
          rotate_left
          · intro w hSw
            (try dsimp only at hSw)
            go_simp
            try (with_reducible rfl)
          (try simp only [Act.put, List.getElem_toArray, List.getElem_cons_succ, List.getElem_cons_zero, List.setIfInBounds_toArray, List.set_cons_zero, List.set_cons_succ])
          refine wpAnyH_done (by kernel_rfl) ?_ _
          go_wp2
          go_roundg (l.length - (kk + 1))
          case measure => omega
          case rel =>
            refine ⟨kk + 1, by omega, by omega, by go_num, BW.out.drew, (show Hid _ from fun j x' y' hj hx' hy' => ?_)⟩
            by_cases e : j = kk
            · subst e
              have h1 := HX.out
              have h2 := HY.out
              rw [hx'] at h1
              rw [hy'] at h2
              injection h1 with h1
              injection h2 with h2
              rw [h1, h2]; exact of_decide_eq_true HB.out
            · exact AA.out j x' y' (by omega) hx' hy'
      · have hltz : ¬ (kk : Int) < (l.length : Int) := by omega
        go_wp2
        go_ret
        refine ⟨?_, BW.out⟩
        rw [decide_eq_true (take_all HLM.out (fun j x y hj h1 h2 => AA.out j x y (by omega) h1 h2))]; rfl
  · have hne : ((l.length : Int) != (m.length : Int)) = true := by simp; omega
    have HLM := Lib.hid hlm
    go_wp2
    go_ret
    refine ⟨?_, Below.refl _ w⟩
    rw [decide_eq_false (fun e => HLM.out (by rw [e]))]; rfl
end Go.Proofs.Ytpjbblbehbepbaa

namespace Go.Proofs.Ytpjbblbehbepbaa
set_option linter.unusedSimpArgs false
set_option linter.unusedVariables false
open Go.RowKit

set_option maxRecDepth 100000 in
set_option maxHeartbeats 2000000 in
theorem same_true (q : Loopy.Loop) (T S R T' S' R' : Value) (w : World) (h : LRd w q T S R) (h' : LRd w q T' S' R') (l1 : q.tasks.length ≤ 1000) (l2 : q.smalls.length ≤ 1000) (l3 : q.timers.length ≤ 1000) :
    Calls Try.prog 23 #[.agg (lag q T S R), .agg (lag q T' S' R')] w fun e w' => e = .returned (.bool true) ∧ Below w.heap.size w w' := by
  have E1 : Hid (∀ w v u, JRd w q.tasks v → JRd w q.tasks u → Calls Try.prog 22 #[v, u] w fun e w' => e = .returned (.bool true) ∧ Below w.heap.size w w') := fun w v u a b => by
    have := equal_job q.tasks q.tasks v u w a b (by omega) (by omega); simpa using this
  have E2 : Hid (∀ w v u, JRd w q.smalls v → JRd w q.smalls u → Calls Try.prog 22 #[v, u] w fun e w' => e = .returned (.bool true) ∧ Below w.heap.size w w') := fun w v u a b => by
    have := equal_job q.smalls q.smalls v u w a b (by omega) (by omega); simpa using this
  have E3 : Hid (∀ w v u, TRd w q.timers v → TRd w q.timers u → Calls Try.prog 34 #[v, u] w fun e w' => e = .returned (.bool true) ∧ Below w.heap.size w w') := fun w v u a b => by
    have := equal_timer q.timers q.timers v u w a b (by omega) (by omega); simpa using this
  have H := Lib.hid h
  have H' := Lib.hid h'
  obtain ⟨⟨AT, cT, rfl, _⟩, ⟨AS, cS, rfl, _⟩, ⟨AR, cR, rfl, _⟩⟩ := h
  obtain ⟨⟨AT', cT', rfl, _⟩, ⟨AS', cS', rfl, _⟩, ⟨AR', cR', rfl, _⟩⟩ := h'
  go_enter Try.func23, Try.ntmps23
  go_upto_region 1 with (fail)
  obtain ⟨c0, hc0⟩ : ∃ c, lag q (.slice AT q.tasks.length cT) (.slice AS q.smalls.length cS) (.slice AR q.timers.length cR) = c := ⟨_, rfl⟩
  obtain ⟨c1, hc1⟩ : ∃ c, lag q (.slice AT' q.tasks.length cT') (.slice AS' q.smalls.length cS') (.slice AR' q.timers.length cR') = c := ⟨_, rfl⟩
  rw [hc0, hc1]
  have hb0 : Box ((w.alloc (.cells c0 26)).alloc (.cells c1 26)) w.heap.size 26 c0 := (Box.new w _ _).alloc _
  have hb1 : Box ((w.alloc (.cells c0 26)).alloc (.cells c1 26)) (w.heap.size + 1) 26 c1 := by have := Box.new (w.alloc (.cells c0 26)) 26 c1; simpa using this
  have hU : Below w.heap.size w ((w.alloc (.cells c0 26)).alloc (.cells c1 26)) := (below1 w _).alloc (by simp) _
  generalize ((w.alloc (.cells c0 26)).alloc (.cells c1 26)) = W at *
  subst hc0 hc1
  have HW := Lib.hid (H.out.below hU)
  have HW' := Lib.hid (H'.out.below hU)
  have HB0 := Lib.hid hb0
  have HB1 := Lib.hid hb1
  have f0 := hb0.cell 0
  have f1 := hb0.cell 1
  have f2 := hb0.cell 2
  have f3 := hb1.cell 0
  have f4 := hb1.cell 1
  have f5 := hb1.cell 2
  simp at f0 f1 f2 f3 f4 f5
  clear hb0 hb1
  go_wp2_with (fail)
  refine (E1.out _ _ _ HW.out.t HW'.out.t).mono ?_
  rintro e w1 ⟨rfl, hb⟩
  have hb0 := Lib.hid (HB0.out.below hb HB0.out.lt)
  have hb1 := Lib.hid (HB1.out.below hb HB1.out.lt)
  have HV := Lib.hid (HW.out.below hb)
  have HV' := Lib.hid (HW'.out.below hb)
  have HU := Lib.hid (hU.trans (hb.mono hU.size))
  clear hb hU f0 f1 f2 f3 f4 f5
  have f0 := hb0.out.cell 3
  have f3 := hb1.out.cell 3
  simp at f0 f3
  go_wp2_with (fail)
  refine (E2.out _ _ _ HV.out.s HV'.out.s).mono ?_
  rintro e w2 ⟨rfl, hb⟩
  have hb20 := Lib.hid (hb0.out.below hb hb0.out.lt)
  have hb21 := Lib.hid (hb1.out.below hb hb1.out.lt)
  have HT := Lib.hid (HV.out.below hb)
  have HT' := Lib.hid (HV'.out.below hb)
  have HU2 := Lib.hid (HU.out.trans (hb.mono HU.out.size))
  clear hb f0 f3
  have f0 := hb20.out.cell 4
  have f3 := hb21.out.cell 4
  simp at f0 f3
  go_wp2_with (fail)
  refine (E3.out _ _ _ HT.out.r HT'.out.r).mono ?_
  rintro e w3 ⟨rfl, hb⟩
  go_wp2
  go_ret
  exact ⟨rfl, HU2.out.trans (hb.mono HU2.out.size)⟩
end Go.Proofs.Ytpjbblbehbepbaa

namespace Go.Proofs.Ytpjbblbehbepbaa
set_option linter.unusedSimpArgs false
set_option linter.unusedVariables false
open Go.RowKit

theorem egS : ∀ args w, (callFunc 17 args).run Try.prog w = .ok (.enter 17 args) w := Go.Proofs.enters_of Try.func17 (by kernel_rfl) rfl
theorem egT : ∀ args w, (callFunc 19 args).run Try.prog w = .ok (.enter 19 args) w := Go.Proofs.enters_of Try.func19 (by kernel_rfl) rfl
theorem egO : ∀ args w, (callFunc 12 args).run Try.prog w = .ok (.enter 12 args) w := Go.Proofs.enters_of Try.func12 (by kernel_rfl) rfl
set_option maxHeartbeats 1000000 in
theorem sameS (t : Loopy.Timer) (n : Int) (b : Nat) (w : World) (hc : w.cell? ⟨b, 0, none⟩ = some (.int .i64 n)) :
    Calls Try.prog 17 #[tag t, .pointer (some ⟨b, 0, none⟩)] w fun e w' => e = .returned (.bool (t.id == n)) ∧ Below w.heap.size w w' := by
  have hlt : b < w.heap.size := block_lt_of_cell hc
  have hc2 : (w.alloc (.cells (tc t) 49)).cell? ⟨b, 0, none⟩ = some (.int .i64 n) := ((below1 w _).cell (p := ⟨b, 0, none⟩) hlt).trans hc
  go_enter Try.func17, Try.ntmps17
  go_wp2
  go_ret
  exact ⟨rfl, below1 _ _⟩
set_option maxHeartbeats 1000000 in
theorem sameT (t : Loopy.Timer) (n : Int) (b : Nat) (w : World) (hc : w.cell? ⟨b, 0, none⟩ = some (.int .i64 n)) :
    Calls Try.prog 19 #[tag t, .pointer (some ⟨b, 0, none⟩)] w fun e w' => e = .returned (.bool (t.id == n)) ∧ Below w.heap.size w w' := by
  have hlt : b < w.heap.size := block_lt_of_cell hc
  have hc2 : (w.alloc (.cells (tc t) 49)).cell? ⟨b, 0, none⟩ = some (.int .i64 n) := ((below1 w _).cell (p := ⟨b, 0, none⟩) hlt).trans hc
  go_enter Try.func19, Try.ntmps19
  go_wp2
  go_ret
  exact ⟨rfl, below1 _ _⟩
set_option maxHeartbeats 1000000 in
theorem sameO (a : Loopy.Ask) (w : World) :
    Calls Try.prog 12 #[aag a] w fun e w' => e = .returned (.bool (a.what == 4)) ∧ Below w.heap.size w w' := by
  go_enter Try.func12, Try.ntmps12
  go_wp2
  go_ret
  exact ⟨rfl, below1 _ _⟩
/-- does a timer have the captured job's number? -/
theorem has_timer (l : List Loopy.Timer) (v : Value) (n : Int) (b : Nat) (w : World) (hR : TRd w l v) (hl : l.length ≤ 1000000) (hc : w.cell? ⟨b, 0, none⟩ = some (.int .i64 n)) :
    Calls Try.prog 16 #[v, .func (.func 17) #[] #[.pointer (some ⟨b, 0, none⟩)]] w fun e w' => e = .returned (.bool (l.any fun t => t.id == n)) ∧ Below w.heap.size w w' :=
  contains_timer l (fun t => t.id == n) _ #[.pointer (some ⟨b, 0, none⟩)] v w egS (fun t _ w1 hb1 => sameS t n b w1 ((hb1.cell (p := ⟨b, 0, none⟩) (block_lt_of_cell hc)).trans hc)) hR hl
theorem where_timer (l : List Loopy.Timer) (v : Value) (n : Int) (b : Nat) (w : World) (hR : TRd w l v) (hl : l.length ≤ 1000000) (hc : w.cell? ⟨b, 0, none⟩ = some (.int .i64 n)) :
    Calls Try.prog 18 #[v, .func (.func 19) #[] #[.pointer (some ⟨b, 0, none⟩)]] w fun e w' => e = .returned (.int .i64 (idx (fun t => t.id == n) l)) ∧ Below w.heap.size w w' :=
  index_timer l (fun t => t.id == n) _ #[.pointer (some ⟨b, 0, none⟩)] v w egT (fun t _ w1 hb1 => sameT t n b w1 ((hb1.cell (p := ⟨b, 0, none⟩) (block_lt_of_cell hc)).trans hc)) hR hl
theorem has_every (l : List Loopy.Ask) (v : Value) (w : World) (hR : ARd w l v) (hl : l.length ≤ 1000000) :
    Calls Try.prog 11 #[v, .func (.func 12) #[] #[]] w fun e w' => e = .returned (.bool (l.any fun a => a.what == 4)) ∧ Below w.heap.size w w' :=
  contains_ask l (fun a => a.what == 4) _ #[] v w egO (fun a _ w1 _ => by rw [show (#[Value.agg (ac a)] ++ #[] : Array Value) = #[aag a] from by simp]; exact sameO a w1) hR hl
set_option maxHeartbeats 1000000 in
theorem ok_yes (A : Option Addr) (cap : Nat) (w : World) (g : Nat) (hA : A = some ⟨g, 0, none⟩) (h0 : w.cell? ⟨g, 0, none⟩ = some (.int .i64 0)) (h1 : w.cell? ⟨g, 1, none⟩ = some (.int .i64 0)) :
    Calls Try.prog 21 #[.slice A 2 cap] w fun e w' => e = .returned (.bool true) ∧ w' = w := by
  subst hA
  go_enter Try.func21, Try.ntmps21
  go_wp2
  go_loopg [4, 7] 2 (fun gg _ s7 wr => ∃ kk : Nat, kk ≤ 2 ∧ 2 - kk ≤ gg ∧ s7 = .int .i64 (kk : Int) ∧ wr = w)
  case atStart => exact ⟨0, by omega, by omega, rfl, rfl⟩
  case round =>
    obtain ⟨kk, hkk, hg, rfl, rfl⟩ := hrel
    have hk : kk = 0 ∨ kk = 1 ∨ kk = 2 := by omega
    rcases hk with rfl | rfl | rfl
    · go_wp2
      go_roundg 1
      case measure => omega
      case rel => exact ⟨1, by omega, by omega, rfl, rfl⟩
    · go_wp2
      go_roundg 0
      case measure => omega
      case rel => exact ⟨2, by omega, by omega, rfl, rfl⟩
    · go_wp2
      go_ret
      exact ⟨rfl, rfl⟩
set_option maxHeartbeats 1000000 in
theorem ok_no (A : Option Addr) (cap : Nat) (w : World) (g : Nat) (x : Int) (hx : ¬ x = 0) (hA : A = some ⟨g, 0, none⟩) (h0 : w.cell? ⟨g, 0, none⟩ = some (.int .i64 x)) :
    Calls Try.prog 21 #[.slice A 2 cap] w fun e w' => e = .returned (.bool false) ∧ w' = w := by
  subst hA
  have g1 : (x == 0) = false := by simpa using hx
  have g2 : (x != 0) = true := by simpa using hx
  go_enter Try.func21, Try.ntmps21
  go_wp2
  go_loopg [4, 7] 2 (fun gg _ s7 wr => ∃ kk : Nat, kk = 0 ∧ 2 - kk ≤ gg ∧ s7 = .int .i64 (kk : Int) ∧ wr = w)
  case atStart => exact ⟨0, by omega, by omega, rfl, rfl⟩
  case round =>
    obtain ⟨kk, rfl, hg, rfl, rfl⟩ := hrel
    go_wp2
    go_ret
    exact ⟨rfl, rfl⟩
end Go.Proofs.Ytpjbblbehbepbaa
