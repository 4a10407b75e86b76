/-
  Rows of structs in memory: a slice value that reads as a list of elements of k cells each. Conditions: none.
-/
import Derived.Test.YtpjbblbehbepbaaJval
import Derived.Test.YtpjbblbehbepbaaLoopB
import Derived.Deep.MidRow
import Derived.Deep.RegionHeld3
import Derived.Deep.AppendLies
namespace Go.Proofs.Ytpjbblbehbepbaa
set_option linter.unusedSimpArgs false
set_option linter.unusedVariables false
open Go.RowKit

abbrev jc (j : Loopy.Job) : Array Value := #[.int .i64 j.id, .int .i64 j.src, .bool j.small, .string (byt j.call), .int .i64 j.arg.k, .int .i64 j.arg.n, .string (byt j.arg.s)]
abbrev tc (t : Loopy.Timer) : Array Value := #[.int .i64 t.id, .int .i64 t.due, .int .i64 t.every, .int .i64 t.turn, .string (byt t.call)]
abbrev ac (a : Loopy.Ask) : Array Value := #[.int .i64 a.what, .int .i64 a.src, .int .i64 a.n, .string (byt a.call), .int .i64 a.arg.k, .int .i64 a.arg.n, .string (byt a.arg.s)]
abbrev jag (j : Loopy.Job) : Value := .agg (jc j)
abbrev tag (t : Loopy.Timer) : Value := .agg (tc t)
abbrev aag (a : Loopy.Ask) : Value := .agg (ac a)
/-- the cells of a list. -/
def flat {α : Type} (f : α → Array Value) (l : List α) : List Value := l.flatMap fun x => (f x).toList
theorem jc_one (j : Loopy.Job) : (jc j).all (·.oneCell') = true := by simp [Value.oneCell']
theorem tc_one (t : Loopy.Timer) : (tc t).all (·.oneCell') = true := by simp [Value.oneCell']
theorem ac_one (a : Loopy.Ask) : (ac a).all (·.oneCell') = true := by simp [Value.oneCell']
theorem info_job : (Try.prog.info? 39).map (fun j => j.size) = some 7 := by kernel_rfl
theorem info_timer : (Try.prog.info? 49).map (fun j => j.size) = some 5 := by kernel_rfl
theorem info_ask : (Try.prog.info? 35).map (fun j => j.size) = some 7 := by kernel_rfl
theorem info_loop : (Try.prog.info? 26).map (fun j => j.size) = some 5 := by kernel_rfl

section
variable {α : Type} {f : α → Array Value} {k : Nat}
theorem flat_nil : flat f [] = [] := rfl
theorem flat_cons (x : α) (l : List α) : flat f (x :: l) = (f x).toList ++ flat f l := rfl
theorem flat_append (a b : List α) : flat f (a ++ b) = flat f a ++ flat f b := by simp [flat]
theorem flat_len (hk : ∀ x, (f x).size = k) : ∀ l : List α, (flat f l).length = l.length * k
  | [] => by simp [flat]
  | x :: l => by rw [flat_cons, List.length_append, flat_len hk l, List.length_cons, Nat.add_mul]; simp [hk]; omega
theorem flat_at (hk : ∀ x, (f x).size = k) : ∀ (l : List α) (j : Nat) (x : α), l[j]? = some x → ∀ i v, (f x).toList[i]? = some v → (flat f l)[j * k + i]? = some v
  | [], _, _, h, _, _, _ => by simp at h
  | y :: l, 0, x, h, i, v, hv => by
    simp at h; subst h
    have hi : i < (f y).toList.length := (List.getElem?_eq_some_iff.1 hv).1
    rw [flat_cons, Nat.zero_mul, Nat.zero_add, List.getElem?_append_left hi]; exact hv
  | y :: l, j + 1, x, h, i, v, hv => by
    have h5 : (f y).toList.length = k := by simp [hk]
    rw [flat_cons, List.getElem?_append_right (by rw [h5, Nat.add_mul]; omega), h5, show (j + 1) * k + i - k = j * k + i by rw [Nat.add_mul]; omega]
    exact flat_at hk l j x (by simpa using h) i v hv
theorem flat_one (h1 : ∀ x, (f x).all (·.oneCell') = true) (l : List α) : ∀ u ∈ flat f l, u.oneCell' = true := by
  intro u hu
  simp only [flat, List.mem_flatMap] at hu
  obtain ⟨x, _, hx⟩ := hu
  have := h1 x
  rw [Array.all_eq_true'] at this
  exact this u (by simpa using hx)
end

/-- the slice value v reads, in w, as n elements of k cells: xs. -/
def Rd (w : World) (_k : Nat) (xs : List Value) (n : Nat) (v : Value) : Prop :=
  ∃ A cap, v = .slice A n cap ∧ n ≤ cap ∧ cap ≤ 9223372036854775807 ∧ (0 < n → ∃ g o, A = some ⟨g, o, none⟩ ∧ g < w.heap.size ∧ w.rangeAt g o xs)
/-- it reads as a list. -/
abbrev RdL {α : Type} (w : World) (k : Nat) (f : α → Array Value) (l : List α) (v : Value) : Prop := Rd w k (flat f l) l.length v
section
variable {w w1 : World} {k n : Nat} {xs : List Value} {v : Value}
theorem Rd.keep (h : Rd w k xs n v) (hb : ∀ p : Addr, p.block < w.heap.size → w1.cell? p = w.cell? p) (hz : w.heap.size ≤ w1.heap.size) : Rd w1 k xs n v := by
  obtain ⟨A, cap, e, h1, h2, h3⟩ := h
  refine ⟨A, cap, e, h1, h2, fun hn => ?_⟩
  obtain ⟨g, o, e2, h4, h5⟩ := h3 hn
  exact ⟨g, o, e2, by omega, fun j u hu => by rw [hb _ h4]; exact h5 j u hu⟩
theorem Rd.below (h : Rd w k xs n v) (hb : Below w.heap.size w w1) : Rd w1 k xs n v := h.keep (fun _ hp => hb.cell hp) hb.size
theorem Rd.nil (w : World) (k : Nat) : Rd w k [] 0 (.slice none 0 0) := ⟨none, 0, rfl, Nat.le_refl _, by omega, by omega⟩
theorem Rd.own {base : Nat} {e : TypeId} (h : w.ownsRow base e k v n xs) : Rd w k xs n v := by
  rcases h.2 with ⟨rfl, rfl⟩ | ⟨g, cap, cur, rfl, hb, hg, hn, hc, hs, ht⟩
  · exact ⟨none, 0, rfl, Nat.le_refl _, by omega, by omega⟩
  · unfold maxLen at hc
    refine ⟨_, cap, rfl, hn, by omega, fun _ => ⟨g, 0, rfl, (Array.getElem?_eq_some_iff.1 hg).1, fun j u hu => ?_⟩⟩
    have hj : j < n * k := by rw [← h.1]; exact (List.getElem?_eq_some_iff.1 hu).1
    rw [Nat.zero_add, h.cellAt j hj]; exact hu
end
/-- element j of a row that reads as a list. -/
theorem RdL.elem {α : Type} {w : World} {k : Nat} {f : α → Array Value} {l : List α} {g o j : Nat} {x : α} (hk : ∀ x, (f x).size = k)
    (h : w.rangeAt g o (flat f l)) (hx : l[j]? = some x) : w.rangeAt g (o + j * k) (f x).toList := fun i v hv => by
  have := flat_at hk l j x hx i v hv
  have h2 := h _ _ this
  rw [← Nat.add_assoc] at h2; exact h2

abbrev JRd (w : World) (l : List Loopy.Job) (v : Value) : Prop := RdL w 7 jc l v
abbrev TRd (w : World) (l : List Loopy.Timer) (v : Value) : Prop := RdL w 5 tc l v
abbrev ARd (w : World) (l : List Loopy.Ask) (v : Value) : Prop := RdL w 7 ac l v
end Go.Proofs.Ytpjbblbehbepbaa
