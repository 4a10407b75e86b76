/-
  The state of a play, in memory; how it is carried on. Conditions: as each says.
-/
import Derived.Test.YtpjbblbehbepbaaLpW
import Derived.Test.YtpjbblbehbepbaaLoopG
namespace Go.Proofs.Ytpjbblbehbepbaa
set_option linter.unusedSimpArgs false
set_option linter.unusedVariables false
open Go.RowKit

/-- a play's state: the answer's block, the loop's block, its rows, the jobs that came. -/
structure PS (w wr : World) (b3 b7 : Nat) (q : Loopy.Loop) (out : List Loopy.Job) (O T S R : Value) : Prop where
  h3 : Box wr b3 26 #[.int .i64 0, .int .i64 0, .slice none 0 0, .slice none 0 0, .slice none 0 0]
  h7 : Box wr b7 26 (lag q T S R)
  own : Own wr (b7 + 1) q T S R
  out : wr.ownsRow (b7 + 1) 39 7 O out.length (flat jc out)
  ap : ∀ k, O.ownBlock = some k → ¬ mine T S R k
  bel : Below w.heap.size w wr
  lo : w.heap.size ≤ b3
  lt : b3 < b7
variable {w wr w4 w5 w6 w7 w1 : World} {b3 b7 B : Nat} {q q' : Loopy.Loop} {out : List Loopy.Job} {O T S R T' S' R' : Value}
theorem Own.mine_lo (ho : Own w B q T S R) {k : Nat} (hm : mine T S R k) : B ≤ k := by
  rcases hm with a | a | a
  · exact (ho.t.lt k a).1
  · exact (ho.s.lt k a).1
  · exact (ho.r.lt k a).1
theorem PS.size (h : PS w wr b3 b7 q out O T S R) : b7 < wr.heap.size := h.h7.lt
theorem PS.below (h : PS w wr b3 b7 q out O T S R) (hb : Below wr.heap.size wr w1) : PS w w1 b3 b7 q out O T S R :=
  ⟨h.h3.below hb h.h3.lt, h.h7.below hb h.h7.lt, h.own.below hb, own_below h.out hb, h.ap, h.bel.trans (hb.mono h.bel.size), h.lo, h.lt⟩
theorem PS.ask (h : PS w w4 b3 b7 q out O T S R) (hO : Own w5 w4.heap.size q' T' S' R') (hb : Below w4.heap.size w4 w5) (hb6 : Below w5.heap.size w5 w6) (hu : Upd w6 w7 b7) (hx : Box w7 b7 26 (lag q' T' S' R')) : PS w w7 b3 b7 q' out O T' S' R' := by
  have h6 := (h.below hb).below hb6
  have hz := h.size
  have hO7 : Own w7 w4.heap.size q' T' S' R' := (hO.below hb6).far hu hz
  refine ⟨h6.h3.grown hu (by have := h.lt; intro e; injection e with e; omega), hx, hO7.base hz, own_far h6.out hu (by omega), fun k hk hm => ?_, h6.bel.trans (Upd.own hu (by have := h.lo; have := h.lt; omega) h6.bel.size), h.lo, h.lt⟩
  have h1 := (h.out.lt k hk).2
  have h2 := hO.mine_lo hm
  omega
theorem PS.next (h : PS w w4 b3 b7 q out O T S R) (hO : Own w5 (b7 + 1) q' T' S' R') (hS : Step w4 w5 T S R T' S' R') (hu : Upd w5 w6 b7) (hx : Box w6 b7 26 (lag q' T' S' R')) : PS w w6 b3 b7 q' out O T' S' R' := by
  have hz := h.size
  have hlo := fun k (hm : mine T S R k) => h.own.mine_lo hm
  have h35 : Box w5 b3 26 _ := hS.box h.h3 (fun hm => by have := hlo _ hm; have := h.lt; omega)
  have hB : Below (b7 + 1) w4 w5 := hS.below h.own hz
  have hou : w5.ownsRow (b7 + 1) 39 7 O out.length (flat jc out) := own_same h.out fun g hg => hS.block g (h.out.lt g hg).2 (h.ap g hg)
  refine ⟨h35.grown hu (by have := h.lt; intro e; injection e with e; omega), hx, hO.far hu (by omega), own_far hou hu (by omega), fun k hk hm => ?_, (h.bel.trans (hB.mono (by have := h.lo; have := h.lt; omega))).trans (Upd.own hu (by have := h.lo; have := h.lt; omega) (Nat.le_trans h.bel.size hS.size)), h.lo, h.lt⟩
  rcases hS.fresh k hm with a | a
  · exact h.ap k hk a
  · have := (h.out.lt k hk).2; omega
theorem PS.app {out' : List Loopy.Job} {A : Option Addr} {g cap n : Nat} (h : PS w w6 b3 b7 q out O T S R) (hg : w6.grownBy w7 O.ownBlock) (hown : w7.ownsRow (b7 + 1) 39 7 (.slice (some ⟨g, 0, none⟩) n cap) out'.length (flat jc out'))
    (hor : O.ownBlock = some g ∨ w6.heap.size ≤ g) : PS w w7 b3 b7 q out' (.slice (some ⟨g, 0, none⟩) n cap) T S R := by
  have hlo := fun k (hk : O.ownBlock = some k) => (h.out.lt k hk).1
  have hz := h.size
  have hlt := h.lt
  have hne : ∀ v : Value, (∀ k, v.ownBlock = some k → mine T S R k) → v.ownBlock = none ∨ v.ownBlock ≠ O.ownBlock := fun v hv => by
    rcases e : v.ownBlock with _ | k
    · exact .inl rfl
    · exact .inr fun h2 => h.ap k h2.symm (hv k e)
  refine ⟨h.h3.grown hg (fun e => ?_), h.h7.grown hg (fun e => ?_), ⟨own_grown h.own.t hg (hne T fun k e => .inl e), own_grown h.own.s hg (hne S fun k e => .inr (.inl e)), own_grown h.own.r hg (hne R fun k e => .inr (.inr e)), h.own.ts, h.own.tr, h.own.sr⟩, hown, fun k hk hm => ?_, h.bel.trans (below_grown hg h.bel.size (fun j hj => by have := hlo j hj; have := h.lo; omega)), h.lo, h.lt⟩
  · have := hlo _ e.symm; omega
  · have := hlo _ e.symm; omega
  · simp [Value.ownBlock] at hk
    subst hk
    rcases hor with a | a
    · exact h.ap _ a hm
    · have := h.own.mine_lt hm; omega
theorem PS.past {g : Nat} (h : PS w w6 b3 b7 q out O T S R) (hu : Upd w6 w7 g) (h1 : b7 < g) (h3 : ¬ mine T S R g) (h4 : O.ownBlock ≠ some g) : PS w w7 b3 b7 q out O T S R :=
  ⟨h.h3.grown hu (by have := h.lt; intro e; injection e with e; omega), h.h7.grown hu (by intro e; injection e with e; omega), h.own.past hu h3, own_grown h.out hu (.inr h4), h.ap, h.bel.trans (Upd.own hu (by have := h.lo; have := h.lt; omega) h.bel.size), h.lo, h.lt⟩
def PlayOut (w : World) (r : List Loopy.Job × Loopy.Loop × Nat) (e : Ending) (w' : World) : Prop :=
  ∃ O T S R, e = .returned (.tuple #[O, .agg (lag r.2.1 T S R), .int .i64 (r.2.2 : Int)]) ∧ Own w' w.heap.size r.2.1 T S R ∧ w'.ownsRow w.heap.size 39 7 O r.1.length (flat jc r.1) ∧ (∀ k, O.ownBlock = some k → ¬ mine T S R k) ∧ Below w.heap.size w w'
end Go.Proofs.Ytpjbblbehbepbaa
