/-
  A loop with memory of its own; copied. Conditions: as each says.
-/
import Derived.Test.YtpjbblbehbepbaaLpL
import Derived.Deep.RegionWith
namespace Go.Proofs.Ytpjbblbehbepbaa
set_option linter.unusedSimpArgs false
set_option linter.unusedVariables false
open Go.RowKit

/-- two slices that do not lie in one block. -/
def Apart (u v : Value) : Prop := ∀ g, u.ownBlock = some g → v.ownBlock ≠ some g
theorem Apart.symm {u v : Value} (h : Apart u v) : Apart v u := fun g hv hu => h g hu hv
theorem Apart.ne {u v : Value} (h : Apart u v) : u.ownBlock = none ∨ u.ownBlock ≠ v.ownBlock := by
  cases hu : u.ownBlock with
  | none => exact .inl rfl
  | some g => exact .inr (fun e => h g hu e.symm)
theorem Apart.nil (v : Value) (n c : Nat) : Apart (.slice none n c) v := fun g h => by simp [Value.ownBlock] at h
/-- a loop whose three rows are its own, from block B on. -/
structure Own (w : World) (B : Nat) (q : Loopy.Loop) (T S R : Value) : Prop where
  t : w.ownsRow B 39 7 T q.tasks.length (flat jc q.tasks)
  s : w.ownsRow B 39 7 S q.smalls.length (flat jc q.smalls)
  r : w.ownsRow B 49 5 R q.timers.length (flat tc q.timers)
  ts : Apart T S
  tr : Apart T R
  sr : Apart S R
theorem Own.rd {w : World} {B : Nat} {q : Loopy.Loop} {T S R : Value} (h : Own w B q T S R) : LRd w q T S R := ⟨Rd.own h.t, Rd.own h.s, Rd.own h.r⟩
theorem Own.below {w w1 : World} {B : Nat} {q : Loopy.Loop} {T S R : Value} (h : Own w B q T S R) (hb : Below w.heap.size w w1) : Own w1 B q T S R :=
  ⟨own_below h.t hb, own_below h.s hb, own_below h.r hb, h.ts, h.tr, h.sr⟩
theorem Own.base {w : World} {B B' : Nat} {q : Loopy.Loop} {T S R : Value} (h : Own w B q T S R) (hb : B' ≤ B) : Own w B' q T S R :=
  ⟨own_base h.t hb, own_base h.s hb, own_base h.r hb, h.ts, h.tr, h.sr⟩
theorem own_far {w w1 : World} {base g : Nat} {e : TypeId} {k n : Nat} {v : Value} {xs : List Value} (h : w.ownsRow base e k v n xs) (hu : Upd w w1 g) (hg : g < base) : w1.ownsRow base e k v n xs :=
  own_grown h hu (by
    cases hv : v.ownBlock with
    | none => exact .inl rfl
    | some b => exact .inr (fun e => by injection e with e; have := (h.lt b hv).1; omega))
theorem Own.far {w w1 : World} {B g : Nat} {q : Loopy.Loop} {T S R : Value} (h : Own w B q T S R) (hu : Upd w w1 g) (hg : g < B) : Own w1 B q T S R :=
  ⟨own_far h.t hu hg, own_far h.s hu hg, own_far h.r hu hg, h.ts, h.tr, h.sr⟩
theorem apart_new {u v : Value} {w : World} {base e k n e' k' n' base' : Nat} {xs xs' : List Value} {w' : World} (h : w.ownsRow base e k u n xs) (h' : w'.ownsRow base' e' k' v n' xs') (hb : w.heap.size ≤ base') : Apart u v := fun g hu hv => by
  have h1 := (h.lt g hu).2
  have h2 := (h'.lt g hv).1
  omega
/-- the blocks that are the loop's own. -/
def mine (T S R : Value) (k : Nat) : Prop := T.ownBlock = some k ∨ S.ownBlock = some k ∨ R.ownBlock = some k
/-- what a step may turn: the loop's own rows, and what is new; its rows then are among these. -/
structure Step (w w' : World) (T S R T' S' R' : Value) : Prop where
  os : w'.os = w.os
  tape : w'.tape = w.tape
  output : w'.output = w.output
  size : w.heap.size ≤ w'.heap.size
  block : ∀ k, k < w.heap.size → ¬ mine T S R k → w'.heap[k]? = w.heap[k]?
  fresh : ∀ k, mine T' S' R' k → mine T S R k ∨ w.heap.size ≤ k
theorem Step.of_upd {w w' : World} {T S R T' S' R' : Value} {g : Nat} (hg : mine T S R g) (h : Upd w w' g) (hf : ∀ k, mine T' S' R' k → mine T S R k ∨ w.heap.size ≤ k) : Step w w' T S R T' S' R' :=
  ⟨h.os, h.tape, h.output, h.size, fun k hk hn => h.block k hk (fun e => hn (by injection e with e; exact e ▸ hg)), hf⟩
theorem Step.of_below {w w' : World} {T S R T' S' R' : Value} (h : Below w.heap.size w w') (hf : ∀ k, mine T' S' R' k → mine T S R k ∨ w.heap.size ≤ k) : Step w w' T S R T' S' R' :=
  ⟨h.os, h.tape, h.output, h.size, fun k hk _ => h.block k hk, hf⟩
theorem Step.trans {w w1 w2 : World} {T S R T1 S1 R1 T2 S2 R2 : Value} (h : Step w w1 T S R T1 S1 R1) (h' : Step w1 w2 T1 S1 R1 T2 S2 R2) : Step w w2 T S R T2 S2 R2 :=
  ⟨h'.os.trans h.os, h'.tape.trans h.tape, h'.output.trans h.output, Nat.le_trans h.size h'.size, fun k hk hn => (h'.block k (Nat.lt_of_lt_of_le hk h.size) (fun hm => by
    rcases h.fresh k hm with a | a
    · exact hn a
    · omega)).trans (h.block k hk hn), fun k hm => by
      rcases h'.fresh k hm with a | a
      · exact h.fresh k a
      · exact .inr (Nat.le_trans h.size a)⟩
theorem Step.below {w w' : World} {B : Nat} {q : Loopy.Loop} {T S R T' S' R' : Value} (h : Step w w' T S R T' S' R') (ho : Own w B q T S R) (hB : B ≤ w.heap.size) : Below B w w' :=
  ⟨h.os, h.tape, h.output, h.size, fun k hk => h.block k (by omega) (by
    rintro (a | a | a)
    · have := (ho.t.lt k a).1; omega
    · have := (ho.s.lt k a).1; omega
    · have := (ho.r.lt k a).1; omega)⟩
theorem Step.box {w w' : World} {T S R T' S' R' : Value} {b : Nat} {t : TypeId} {cs : Array Value} (h : Step w w' T S R T' S' R') (hb : Box w b t cs) (hn : ¬ mine T S R b) : Box w' b t cs := (h.block b hb.lt hn).trans hb
theorem Own.mine_lt {w : World} {B : Nat} {q : Loopy.Loop} {T S R : Value} (ho : Own w B q T S R) {k : Nat} (hm : mine T S R k) : k < w.heap.size := by
  rcases hm with a | a | a
  · exact (ho.t.lt k a).2
  · exact (ho.s.lt k a).2
  · exact (ho.r.lt k a).2
def OwnLoop (w : World) (B : Nat) (q : Loopy.Loop) (e : Ending) (w' : World) : Prop := ∃ T S R, e = .returned (.agg (lag q T S R)) ∧ Own w' B q T S R ∧ Below w.heap.size w w'
theorem own_slice {w : World} {B e k n : Nat} {v : Value} {xs : List Value} (h : w.ownsRow B e k v n xs) : ∃ A cap, v = .slice A n cap := by
  rcases h.2 with ⟨rfl, rfl⟩ | ⟨_, _, _, rfl, _⟩
  · exact ⟨_, _, rfl⟩
  · exact ⟨_, _, rfl⟩
theorem own_one {w : World} {B e k n : Nat} {v : Value} {xs : List Value} (h : w.ownsRow B e k v n xs) : v.oneCell' = true := by
  rcases h.2 with ⟨rfl, _⟩ | ⟨_, _, _, rfl, _⟩ <;> rfl
theorem Own.one {w : World} {B : Nat} {q : Loopy.Loop} {T S R : Value} (h : Own w B q T S R) : (lag q T S R).all (·.oneCell') = true := by
  rw [Array.all_eq_true']
  intro x hx
  simp at hx
  rcases hx with rfl | rfl | rfl | rfl | rfl
  · rfl
  · rfl
  · exact own_one h.t
  · exact own_one h.s
  · exact own_one h.r
set_option maxHeartbeats 4000000 in
theorem copied_any (q : Loopy.Loop) (T S R : Value) (w : World) (hq : LRd w q T S R) (l1 : q.tasks.length ≤ 1000) (l2 : q.smalls.length ≤ 1000) (l3 : q.timers.length ≤ 1000) :
    Calls Try.prog 27 #[.agg (lag q T S R)] w fun e w' => OwnLoop w w.heap.size q e w' := by
  have HQ := Lib.hid hq
  obtain ⟨⟨AT, cT, rfl, hT1, hT2, hT3⟩, ⟨AS, cS, rfl, hS1, hS2, hS3⟩, ⟨AR, cR, rfl, hR1, hR2, hR3⟩⟩ := hq
  clear hT3 hS3 hR3
  go_enter Try.func27, Try.ntmps27
  go_wp2_with (fail)
  have hb0 := (below1 w (.cells (lag q (.slice AT q.tasks.length cT) (.slice AS q.smalls.length cS) (.slice AR q.timers.length cR)) 26)).alloc (by simp) (.cells #[.int .i64 0, .int .i64 0, .slice none 0 0, .slice none 0 0, .slice none 0 0] 26)
  have hq0 : Box ((w.alloc (.cells (lag q (.slice AT q.tasks.length cT) (.slice AS q.smalls.length cS) (.slice AR q.timers.length cR)) 26)).alloc (.cells #[.int .i64 0, .int .i64 0, .slice none 0 0, .slice none 0 0, .slice none 0 0] 26)) w.heap.size 26 (lag q (.slice AT q.tasks.length cT) (.slice AS q.smalls.length cS) (.slice AR q.timers.length cR)) := (Box.new w _ _).alloc _
  have hr0 := new2 w (.cells (lag q (.slice AT q.tasks.length cT) (.slice AS q.smalls.length cS) (.slice AR q.timers.length cR)) 26) 26 #[.int .i64 0, .int .i64 0, .slice none 0 0, .slice none 0 0, .slice none 0 0]
  generalize ((w.alloc (.cells (lag q (.slice AT q.tasks.length cT) (.slice AS q.smalls.length cS) (.slice AR q.timers.length cR)) 26)).alloc (.cells #[.int .i64 0, .int .i64 0, .slice none 0 0, .slice none 0 0, .slice none 0 0] 26)) = W at *
  have HW := Lib.hid (HQ.out.below hb0)
  have hzW := hr0.lt
  have d0 := Below.drew (Below.refl W.heap.size W)
  have C1 := Lib.hid (clone_job q.tasks _ _ (HW.out.below d0).t (by omega))
  have C2 := Lib.hid (fun w1 (h : Below W.heap.size W w1) => clone_job q.smalls _ w1 (HW.out.below h).s (by omega))
  have C3 := Lib.hid (fun w1 (h : Below W.heap.size W w1) => clone_timer q.timers _ w1 (HW.out.below h).r (by omega))
  have D0 := Lib.hid d0
  clear d0 HQ
  have r2 := hq0.cell 2
  have r3 := hq0.cell 3
  have r4 := hq0.cell 4
  have f2 := hq0.frozen 2
  have f3 := hq0.frozen 3
  have f4 := hq0.frozen 4
  simp at r2 r3 r4
  go_region_with (first | (go_at_call 37; first | ((with_reducible refine (C1.out).mono ?_); rintro e w1 ⟨T', rfl, ho1, hb1⟩; obtain ⟨A1, k1, rfl⟩ := own_slice ho1; have e1 := Lib.hid (D0.out.trans hb1); have r3' := (e1.out.cell (p := ⟨w.heap.size, 3, none⟩) hq0.lt).trans r3; have r4' := (e1.out.cell (p := ⟨w.heap.size, 4, none⟩) hq0.lt).trans r4; clear hb1) | ((with_reducible refine (C2.out _ e1.out).mono ?_); rintro e w2 ⟨S', rfl, ho2, hb2⟩; obtain ⟨A2, k2, rfl⟩ := own_slice ho2; have e2 := Lib.hid (e1.out.trans (hb2.mono e1.out.size)); have r4'' := (e2.out.cell (p := ⟨w.heap.size, 4, none⟩) hq0.lt).trans r4)) | (go_at_call 38; ((with_reducible refine (C3.out _ e2.out).mono ?_); rintro e w3 ⟨R', rfl, ho3, hb3⟩; obtain ⟨A3, k3, rfl⟩ := own_slice ho3; have e3 := Lib.hid (e2.out.trans (hb3.mono e2.out.size)); have hq3 := hq0.below e3.out hq0.lt; have s2 := hq3.cell 2; have s3 := hq3.cell 3; have s4 := hq3.cell 4; have g2 := hq3.frozen 2; have g3 := hq3.frozen 3; have g4 := hq3.frozen 4; simp at s2 s3 s4)))
  all_goals
    have hz3 := e3.out.size
    have hq4 := ((hq3.set 2 (.slice A1 q.tasks.length k1)).set 3 (.slice A2 q.smalls.length k2)).set 4 (.slice A3 q.timers.length k3)
    have hr3 := (((hr0.below e3.out hzW).far (p := ⟨w.heap.size, 2, none⟩) (by simp) (.slice A1 q.tasks.length k1)).far (p := ⟨w.heap.size, 3, none⟩) (by simp) (.slice A2 q.smalls.length k2)).far (p := ⟨w.heap.size, 4, none⟩) (by simp) (.slice A3 q.timers.length k3)
    have hu4 := (((Upd.refl w3 w.heap.size).set (p := ⟨w.heap.size, 2, none⟩) (.inl rfl) (.slice A1 q.tasks.length k1)).set (p := ⟨w.heap.size, 3, none⟩) (.inl rfl) (.slice A2 q.smalls.length k2)).set (p := ⟨w.heap.size, 4, none⟩) (.inl rfl) (.slice A3 q.timers.length k3)
    generalize (((w3.setCell ⟨w.heap.size, 2, none⟩ (.slice A1 q.tasks.length k1)).setCell ⟨w.heap.size, 3, none⟩ (.slice A2 q.smalls.length k2)).setCell ⟨w.heap.size, 4, none⟩ (.slice A3 q.timers.length k3)) = w4 at *
    change Box w4 w.heap.size 26 (lag q (.slice A1 q.tasks.length k1) (.slice A2 q.smalls.length k2) (.slice A3 q.timers.length k3)) at hq4
    have hOw : Hid (Own w4 W.heap.size q (.slice A1 q.tasks.length k1) (.slice A2 q.smalls.length k2) (.slice A3 q.timers.length k3)) := by
      have h1 := own_below (own_below ho1 hb2) hb3
      have h2 := own_below ho2 hb3
      have z1 := e1.out.size
      have z2 := e2.out.size
      have z3 := hb2.size
      have h3 : Own w3 W.heap.size q (.slice A1 q.tasks.length k1) (.slice A2 q.smalls.length k2) (.slice A3 q.timers.length k3) := ⟨own_base h1 (Nat.le_refl _), own_base h2 z1, own_base ho3 z2, apart_new ho1 ho2 (Nat.le_refl _), apart_new ho1 ho3 z3, apart_new ho2 ho3 (Nat.le_refl _)⟩
      exact h3.far hu4 (by omega)
    have hb34 : Hid (Below w.heap.size w w4) := (hb0.trans (e3.out.mono hb0.size)).trans (Upd.own (B := w.heap.size) hu4 (Nat.le_refl _) (by have := hb0.size; omega))
    have hone := hOw.out.one
    clear s2 s3 s4 g2 g3 g4 r2 r3 r4 f2 f3 f4 ho1 ho2 ho3 hb2 hb3
    go_wp2_with (first | (refine wpList_load_row rfl 26 (.tmp 1) rfl w.heap.size rfl _ (lag q (.slice A1 q.tasks.length k1) (.slice A2 q.smalls.length k2) (.slice A3 q.timers.length k3)) (0, 0) _ hq4 Try.underlying26 rfl info_loop ?_) | (refine wpList_store_box rfl 26 (.tmp 2) (.tmp 15) rfl (w.heap.size + 1) (lag q (.slice A1 q.tasks.length k1) (.slice A2 q.smalls.length k2) (.slice A3 q.timers.length k3)) rfl rfl 26 _ hr3 info_loop rfl hone ?_; intro w5 hx5 hu5 hz5))
    refine bodyPost_ret (results_box rfl _ _ (w.heap.size + 1) 26 _ _ rfl hx5 Try.underlying26 rfl info_loop) rfl ?_
    exact ⟨_, _, _, rfl, (hOw.out.far hu5 (by omega)).base (by omega), hb34.out.trans (Upd.own (B := w.heap.size) hu5 (by omega) hb34.out.size)⟩
end Go.Proofs.Ytpjbblbehbepbaa
