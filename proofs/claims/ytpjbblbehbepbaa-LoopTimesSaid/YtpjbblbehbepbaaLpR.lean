/-
  What is asked, in memory; full. Conditions: as each says.
-/
import Derived.Test.YtpjbblbehbepbaaLpQ
import Derived.Test.YtpjbblbehbepbaaLoopF
namespace Go.Proofs.Ytpjbblbehbepbaa
set_option linter.unusedSimpArgs false
set_option linter.unusedVariables false
open Go.RowKit

/-- what is asked of a loop, as a value. -/
abbrev qac (q : Loopy.Loop) (T S R : Value) (a : Loopy.Ask) : Array Value := #[.int .i64 q.now, .int .i64 q.next, T, S, R, .int .i64 a.what, .int .i64 a.src, .int .i64 a.n, .string (byt a.call), .int .i64 a.arg.k, .int .i64 a.arg.n, .string (byt a.arg.s)]
theorem info_asked : (Try.prog.info? 64).map (fun j => j.size) = some 12 := by kernel_rfl
/-- the answer: a loop, a number, an error. -/
def AskOut (w : World) (B : Nat) (T S R : Value) (r : Loopy.Loop × Int × Nat) (e : Ending) (w' : World) : Prop :=
  ∃ T' S' R', e = .returned (.tuple #[.agg (lag r.1 T' S' R'), .int .i64 r.2.1, .int .i64 (r.2.2 : Int)]) ∧ Own w' B r.1 T' S' R' ∧ Step w w' T S R T' S' R'
theorem Step.same {w w' : World} {T S R : Value} (h : Below w.heap.size w w') : Step w w' T S R T S R := Step.of_below h fun _ a => .inl a
theorem asked_range {w : World} {b : Nat} {q : Loopy.Loop} {T S R : Value} {a : Loopy.Ask} (h : Box w b 64 (qac q T S R a)) : w.rangeAt b 0 (lag q T S R).toList := fun j v hv => by
  rw [Nat.zero_add, h.cell]
  have hj : j < 5 := by have := (List.getElem?_eq_some_iff.1 hv).1; simpa using this
  match j, hj with
  | 0, _ => simpa using hv
  | 1, _ => simpa using hv
  | 2, _ => simpa using hv
  | 3, _ => simpa using hv
  | 4, _ => simpa using hv
/-- nothing that was has turned, but what m tells. -/
structure Kp (w w' : World) (m : Nat → Prop) : Prop where
  os : w'.os = w.os
  tape : w'.tape = w.tape
  output : w'.output = w.output
  size : w.heap.size ≤ w'.heap.size
  block : ∀ k, k < w.heap.size → ¬ m k → w'.heap[k]? = w.heap[k]?
theorem Kp.below {w w1 : World} {m : Nat → Prop} (h : Below w.heap.size w w1) : Kp w w1 m := ⟨h.os, h.tape, h.output, h.size, fun k hk _ => h.block k hk⟩
theorem Kp.grown {w w1 w2 : World} {m : Nat → Prop} {row : Option Nat} (h : Kp w w1 m) (hg : w1.grownBy w2 row) (hr : ∀ k, row = some k → m k ∨ w.heap.size ≤ k) : Kp w w2 m :=
  ⟨hg.os.trans h.os, hg.tape.trans h.tape, hg.output.trans h.output, Nat.le_trans h.size hg.size, fun k hk hn => (hg.block k (Nat.lt_of_lt_of_le hk h.size) (fun e => by
    rcases hr k e.symm with a | a
    · exact hn a
    · omega)).trans (h.block k hk hn)⟩
theorem Kp.upd {w w1 w2 : World} {m : Nat → Prop} {g : Nat} (h : Kp w w1 m) (hg : Upd w1 w2 g) (hr : m g ∨ w.heap.size ≤ g) : Kp w w2 m := h.grown hg fun k e => by injection e with e; exact e ▸ hr
theorem Kp.alloc {w w1 : World} {m : Nat → Prop} (h : Kp w w1 m) (o : Obj) : Kp w (w1.alloc o) m := h.grown (World.grownBy_alloc w1 o none) fun _ e => by cases e
theorem Kp.drew {w w1 : World} {m : Nat → Prop} (h : Kp w w1 m) : Kp w w1.drew m := ⟨h.os, h.tape, h.output, h.size, h.block⟩
theorem Kp.set {w w1 : World} {m : Nat → Prop} (h : Kp w w1 m) {p : Addr} (hp : m p.block ∨ w.heap.size ≤ p.block) (u : Value) : Kp w (w1.setCell p u) m := h.upd (g := p.block) ((Upd.refl w1 p.block).set (.inl rfl) u) hp
theorem Step.of_kp {w w' : World} {T S R T' S' R' : Value} (h : Kp w w' (mine T S R)) (hf : ∀ k, mine T' S' R' k → mine T S R k ∨ w.heap.size ≤ k) : Step w w' T S R T' S' R' := ⟨h.os, h.tape, h.output, h.size, h.block, hf⟩
set_option maxHeartbeats 1000000 in
theorem full_any (n : Nat) (q : Loopy.Loop) (T S R : Value) (a : Loopy.Ask) (w : World) :
    Calls Try.prog 47 #[.agg (qac q T S R a), .int .i64 (n : Int)] w fun e w' => e = .returned (.bool (Loopy.full n q)) ∧ Below w.heap.size w w' := by
  by_cases h : 100 ≤ n
  · have h1 : (100 : Int) ≤ (n : Int) := by omega
    go_enter Try.func47, Try.ntmps47
    go_wp2
    go_ret
    exact ⟨ret_bool (by simp [Loopy.full, h]), below1 _ _⟩
  · have h1 : ¬ (100 : Int) ≤ (n : Int) := by omega
    go_enter Try.func47, Try.ntmps47
    go_wp2
    go_ret
    exact ⟨ret_bool (by have e : Loopy.full n q = decide (q.next = 1000000000) := by { unfold Loopy.full Loopy.most; rw [decide_eq_false h]; rfl }; rw [e, ← beq_dec]), below1 _ _⟩
end Go.Proofs.Ytpjbblbehbepbaa
