/-
  One more has heard it. Conditions: the sending lies in its blocks.
-/
import Derived.Test.YtdommcjlpibpeaaDoorEvK
import Derived.StillTailTactics
namespace Go.Proofs.YtdommcjlpibpeaaDoor
set_option linter.unusedSimpArgs false
set_option linter.unusedVariables false
open Go.RowKit Go.Maps

theorem parts_hrd : (Tryd.prog.info? 46).map (fun i => (i.zero, i.size, i.bytes)) = some (some (.agg #[.int .i64 0, .int .i64 0, .int .i64 0]), 3, 24) := by kernel_rfl
theorem info_sng : (Tryd.prog.info? 62).map (fun j => j.size) = some 13 := by kernel_rfl
/-- a sending's cells. -/
abbrev sg (L : Value) (e : Evy.Ev) (H : Value) (m : Nat) (s : Evy.St) : Array Value := #[L, .string (byt e.typ), .int .i64 e.target, .int .i64 e.x, .int .i64 e.y, .string (byt e.key), .bool e.bubbles, .bool e.cancels, H, .map (some m), .bool s.stops, .bool s.all, .bool s.no]
/-- all but the blocks of m are as they were. -/
structure Kp (w w' : World) (m : Nat → Prop) : Prop where
  os : w'.os = w.os
  tape : w'.tape = w.tape
  output : w'.output = w.output
  size : w.heap.size ≤ w'.heap.size
  block : ∀ k, k < w.heap.size → ¬ m k → w'.heap[k]? = w.heap[k]?
section
variable {w w1 w2 : World} {m : Nat → Prop}
theorem Kp.refl (w : World) (m : Nat → Prop) : Kp w w m := ⟨rfl, rfl, rfl, Nat.le_refl _, fun _ _ _ => rfl⟩
theorem Kp.of_below (h : Below w.heap.size w w1) : Kp w w1 m := ⟨h.os, h.tape, h.output, h.size, fun k hk _ => h.block k hk⟩
theorem Kp.trans {m2 : Nat → Prop} (h : Kp w w1 m) (k : Kp w1 w2 m2) (hm : ∀ i, m2 i → m i ∨ w.heap.size ≤ i) : Kp w w2 m :=
  ⟨k.os.trans h.os, k.tape.trans h.tape, k.output.trans h.output, Nat.le_trans h.size k.size, fun i hi hn => (k.block i (Nat.lt_of_lt_of_le hi h.size) (fun h2 => (hm i h2).elim hn (fun a => absurd hi (by omega)))).trans (h.block i hi hn)⟩
theorem Kp.upd {g : Nat} (h : Kp w w1 m) (hu : Upd w1 w2 g) (hg : m g ∨ w.heap.size ≤ g) : Kp w w2 m :=
  h.trans (m2 := fun i => i = g) ⟨hu.os, hu.tape, hu.output, hu.size, fun i hi hn => hu.block i hi (fun e => hn (by injection e))⟩ (fun i hi => hi ▸ hg)
theorem Kp.grown {row : Option Nat} (h : Kp w w1 m) (hg : w1.grownBy w2 row) (hr : ∀ k, row = some k → m k ∨ w.heap.size ≤ k) : Kp w w2 m :=
  h.trans (m2 := fun i => row = some i) ⟨hg.os, hg.tape, hg.output, hg.size, fun i hi hn => hg.block i hi (fun e => hn e.symm)⟩ (fun i hi => hr i hi)
theorem Kp.drew (h : Kp w w1 m) : Kp w w1.drew m := ⟨h.os, h.tape, h.output, h.size, h.block⟩
theorem Kp.box {b : Nat} {t : TypeId} {cs : Array Value} (h : Kp w w1 m) (hb : Box w b t cs) (hn : ¬ m b) : Box w1 b t cs := (h.block b hb.lt hn).trans hb
theorem Kp.below {B : Nat} (h : Kp w w1 m) (hm : ∀ i, m i → B ≤ i) (hB : B ≤ w.heap.size) : Below B w w1 := ⟨h.os, h.tape, h.output, h.size, fun i hi => h.block i (Nat.lt_of_lt_of_le hi hB) (fun h2 => by have := hm i h2; omega)⟩
end
/-- a sending, in memory: its struct in block b, the map in block m, what was heard in a row of its own. -/
structure SS (w : World) (B b m : Nat) (L : Value) (e : Evy.Ev) (s : Evy.St) (k : Nat) (H : Value) : Prop where
  box : Box w b 62 (sg L e H m s)
  own : w.ownsRow B 46 3 H s.heard.length (flat hc s.heard)
  map : w.ownsMap Tryd.prog 3 (plainElem (H := Unit) Tryd.prog 3) m k (Seeny.seen s.gone)
  bB : b < B
  mB : m < B
  bm : b ≠ m
/-- the blocks that a sending writes. -/
def sm (b m : Nat) (H : Value) (i : Nat) : Prop := i = b ∨ i = m ∨ H.ownBlock = some i
theorem map_kept {w w1 : World} {m k : Nat} {d : DataW Unit} {row : Option Nat} (h : w.ownsMap Tryd.prog 3 (plainElem (H := Unit) Tryd.prog 3) m k d) (hg : w.grownBy w1 row) (hr : some m ≠ row) : w1.ownsMap Tryd.prog 3 (plainElem (H := Unit) Tryd.prog 3) m k d := h.kept hg hr
theorem SS.below {w w1 : World} {B b m k : Nat} {L H : Value} {e : Evy.Ev} {s : Evy.St} (h : SS w B b m L e s k H) (hb : Below w.heap.size w w1) : SS w1 B b m L e s k H :=
  ⟨h.box.below hb h.box.lt, own_below h.own hb, map_kept (row := none) h.map ⟨hb.os, hb.tape, hb.output, hb.size, fun i hi _ => hb.block i hi⟩ (by simp), h.bB, h.mB, h.bm⟩
set_option maxRecDepth 100000 in
set_option maxHeartbeats 4000000 in
theorem hear_any (B b m k : Nat) (L H : Value) (e : Evy.Ev) (s : Evy.St) (x : Evy.Lis) (a : Evy.Stp) (w : World) (h : SS w B b m L e s k H) (hB : B ≤ w.heap.size) (hw : (Lit.int .i64 x.id).wf = true) (hk : k ≤ 100000) (hl : s.heard.length ≤ 100000) :
    Calls Tryd.prog 36 #[.pointer (some ⟨b, 0, none⟩), .agg (lc x), .agg (sc a)] w fun en w' =>
      en = .returned (.tuple #[]) ∧ ∃ H' k', SS w' B b m L e (Evy.hear e s x a) k' H' ∧ k' ≤ k + 1 ∧ Kp w w' (sm b m H) ∧ (∀ i, H'.ownBlock = some i → H.ownBlock = some i ∨ w.heap.size ≤ i) := by
  obtain ⟨i0, hi0, hz0, hz1, hz2⟩ := info_parts parts_hrd
  have HS := Lib.hid h
  obtain ⟨A, cap, rfl⟩ : ∃ A cap, H = .slice A s.heard.length cap := own_slice h.own
  have hbl := h.box.lt
  go_enter Tryd.func36, Tryd.ntmps36
  go_upto_region 1 with (fail)
  refine gen_world (F := fun W => Box W w.heap.size 43 (lc x) ∧ Box W (w.heap.size + 1) 66 (sc a) ∧ Below w.heap.size w W) ⟨(Box.new w _ _).alloc _, new2 w _ _ _, (below1 w _).alloc (by simp) _⟩ ?_
  rintro W ⟨bx, ba, hU⟩
  have hS1 := HS.out.below hU
  have hzW := ba.lt
  have c8 := hS1.box.cell 8
  have f8 := hS1.box.frozen 8
  have x0 := bx.cell 0
  have a0 := ba.cell 0
  have a1 := ba.cell 1
  simp at c8 x0 a0 a1
  have hBW : B ≤ W.heap.size := Nat.le_trans hB hU.size
  have hlts := Lib.hid hS1.own.lt
  have HO := Lib.hid hS1.own
  have HS1 := Lib.hid hS1
  clear h hS1
  have hlts0 : Hid (∀ g, (Value.slice A s.heard.length cap).ownBlock = some g → g < w.heap.size) := fun g hg => (HS.out.own.lt g hg).2
  have hj1 : Hid (∀ u ∈ (hc ⟨x.id, a.node, a.phase⟩).toList, u.oneCell' = true) := by intro u hu; exact flat_one (f := hc) hc_one [⟨x.id, a.node, a.phase⟩] u (by simpa [flat] using hu)
  have hne1 : Hid (∀ g, (Value.slice A s.heard.length cap).ownBlock = some g → g ≠ b ∧ g ≠ m ∧ g < W.heap.size) := fun g hg => by have := hlts.out g hg; have := HS1.out.bB; have := HS1.out.mB; omega
  have c8a : (W.alloc (.cells (hc ⟨x.id, a.node, a.phase⟩) 46)).cell? ⟨b, 8, none⟩ = some (.slice A s.heard.length cap) := ((below1 W _).cell (p := ⟨b, 8, none⟩) HS1.out.box.lt).trans c8
  refine wp_region_held_drew (S := fun w' => w'.cell? ⟨w.heap.size, 0, none⟩ = some (.int .i64 x.id) ∧ w'.cell? ⟨w.heap.size + 1, 0, none⟩ = some (.int .i64 a.node) ∧ w'.cell? ⟨w.heap.size + 1, 1, none⟩ = some (.int .i64 a.phase)) (by kernel_rfl) ⟨x0, a0, a1⟩ (fun hHeld => ?_)
  refine wpAnyH_take (i := 0) (v := ?_) rfl (by kernel_rfl) (by kernel_rfl) (by kernel_rfl) (fun _ _ _ h => h) (Or.inl ⟨by kernel_rfl, ?_⟩) (by assumption) ?_
  rotate_left
  · intro w hSw
    (try dsimp only at hSw)
    go_simp
    try (with_reducible rfl)
  (try simp only [Act.put, List.getElem_toArray, List.getElem_cons_zero, List.setIfInBounds_toArray, List.set_cons_zero, List.set_cons_succ])
  refine wpAnyH_take (i := 1) (v := ?_) rfl (by kernel_rfl) (by kernel_rfl) (by kernel_rfl) (fun _ _ _ h => h) (Or.inl ⟨by kernel_rfl, ?_⟩) (by assumption) ?_
  rotate_left
  · intro w hSw
    (try dsimp only at hSw)
    go_simp
    try (with_reducible rfl)
  (try simp only [Act.put, List.getElem_toArray, List.getElem_cons_succ, List.getElem_cons_zero, List.setIfInBounds_toArray, List.set_cons_zero, List.set_cons_succ])
  refine wpAnyH_take (i := 2) (v := ?_) rfl (by kernel_rfl) (by kernel_rfl) (by kernel_rfl) (fun _ _ _ h => h) (Or.inl ⟨by kernel_rfl, ?_⟩) (by assumption) ?_
  rotate_left
  · intro w hSw
    (try dsimp only at hSw)
    go_simp
    try (with_reducible rfl)
  (try simp only [Act.put, List.getElem_toArray, List.getElem_cons_succ, List.getElem_cons_zero, List.setIfInBounds_toArray, List.set_cons_zero, List.set_cons_succ])
  refine wpAnyH_take (i := 3) (v := ?_) rfl (by kernel_rfl) (by kernel_rfl) (by kernel_rfl) (fun _ _ _ h => h) (Or.inl ⟨by kernel_rfl, ?_⟩) (by assumption) ?_
  rotate_left
  · intro w hSw
    (try dsimp only at hSw)
    go_simp
    try (with_reducible rfl)
  (try simp only [Act.put, List.getElem_toArray, List.getElem_cons_succ, List.getElem_cons_zero, List.setIfInBounds_toArray, List.set_cons_zero, List.set_cons_succ])
  refine wpAnyH_take (i := 5) (v := ?_) rfl (by kernel_rfl) (by kernel_rfl) (by kernel_rfl) (fun _ _ _ h => h) (Or.inl ⟨by kernel_rfl, ?_⟩) (by assumption) ?_
  rotate_left
  · intro w hSw
    (try dsimp only at hSw)
    go_simp
    try (with_reducible rfl)
  (try simp only [Act.put, List.getElem_toArray, List.getElem_cons_succ, List.getElem_cons_zero, List.setIfInBounds_toArray, List.set_cons_zero, List.set_cons_succ])
  refine wpAnyH_take (i := 6) (v := ?_) rfl (by kernel_rfl) (by kernel_rfl) (by kernel_rfl) (fun _ _ _ h => h) (Or.inl ⟨by kernel_rfl, ?_⟩) (by assumption) ?_
  rotate_left
  · intro w hSw
    (try dsimp only at hSw)
    go_simp
    try (with_reducible rfl)
  (try simp only [Act.put, List.getElem_toArray, List.getElem_cons_succ, List.getElem_cons_zero, List.setIfInBounds_toArray, List.set_cons_zero, List.set_cons_succ])
  refine wpAnyH_take (i := 7) (v := ?_) rfl (by kernel_rfl) (by kernel_rfl) (by kernel_rfl) (fun _ _ _ h => h) (Or.inl ⟨by kernel_rfl, ?_⟩) (by assumption) ?_
  rotate_left
  · intro w hSw
    (try dsimp only at hSw)
    go_simp
    try (with_reducible rfl)
  (try simp only [Act.put, List.getElem_toArray, List.getElem_cons_succ, List.getElem_cons_zero, List.setIfInBounds_toArray, List.set_cons_zero, List.set_cons_succ])
  refine wpAnyH_take (i := 8) (v := ?_) rfl (by kernel_rfl) (by kernel_rfl) (by kernel_rfl) (fun _ _ _ h => h) (Or.inl ⟨by kernel_rfl, ?_⟩) (by assumption) ?_
  rotate_left
  · intro w hSw
    (try dsimp only at hSw)
    go_simp
    try (with_reducible rfl)
  (try simp only [Act.put, List.getElem_toArray, List.getElem_cons_succ, List.getElem_cons_zero, List.setIfInBounds_toArray, List.set_cons_zero, List.set_cons_succ])
  refine wpAnyH_take (i := 9) (v := ?_) rfl (by kernel_rfl) (by kernel_rfl) (by kernel_rfl) (fun _ _ _ h => h) (Or.inl ⟨by kernel_rfl, ?_⟩) (by assumption) ?_
  rotate_left
  · intro w hSw
    (try dsimp only at hSw)
    go_simp
    try (with_reducible rfl)
  (try simp only [Act.put, List.getElem_toArray, List.getElem_cons_succ, List.getElem_cons_zero, List.setIfInBounds_toArray, List.set_cons_zero, List.set_cons_succ])
  refine wpAnyH_take (i := 10) (v := ?_) rfl (by kernel_rfl) (by kernel_rfl) (by kernel_rfl) (fun _ _ _ h => h) (Or.inl ⟨by kernel_rfl, ?_⟩) (by assumption) ?_
  rotate_left
  · intro w hSw
    (try dsimp only at hSw)
    go_simp
    try (with_reducible rfl)
  (try simp only [Act.put, List.getElem_toArray, List.getElem_cons_succ, List.getElem_cons_zero, List.setIfInBounds_toArray, List.set_cons_zero, List.set_cons_succ])
  refine wpAnyH_take (i := 11) (v := ?_) rfl (by kernel_rfl) (by kernel_rfl) (by kernel_rfl) (fun _ _ _ h => h) (Or.inl ⟨by kernel_rfl, ?_⟩) (by assumption) ?_
  rotate_left
  · intro w hSw
    (try dsimp only at hSw)
    go_simp
    try (with_reducible rfl)
  (try simp only [Act.put, List.getElem_toArray, List.getElem_cons_succ, List.getElem_cons_zero, List.setIfInBounds_toArray, List.set_cons_zero, List.set_cons_succ])
  refine wpAnyH_ready (rs := [4, 12]) (by kernel_rfl) (by simp) ?_
  refine AllReadyH.cons rfl (fun K hK => ?_) (AllReadyH.cons rfl (fun K hK => ?_) AllReadyH.nil)
  · go_simp
    refine hK.out _ _ hHeld (fun hHeld => ?_)
    clear hK K
    (try simp only [Act.put, List.getElem_toArray, List.getElem_cons_succ, List.getElem_cons_zero, List.setIfInBounds_toArray, List.set_cons_zero, List.set_cons_succ])
    refine wpAnyH_ready (rs := [12]) (by kernel_rfl) (by simp) ?_
    refine AllReadyH.cons rfl (fun K hK => ?_) AllReadyH.nil
    go_simp
    refine hK.out _ _ ⟨((below1 W (.cells (hc ⟨x.id, a.node, a.phase⟩) 46)).cell (p := ⟨w.heap.size, 0, none⟩) bx.lt).trans x0, ((below1 W (.cells (hc ⟨x.id, a.node, a.phase⟩) 46)).cell (p := ⟨w.heap.size + 1, 0, none⟩) ba.lt).trans a0, ((below1 W (.cells (hc ⟨x.id, a.node, a.phase⟩) 46)).cell (p := ⟨w.heap.size + 1, 1, none⟩) ba.lt).trans a1⟩ (fun hHeld => ?_)
    clear hK K
    (try simp only [Act.put, List.getElem_toArray, List.getElem_cons_succ, List.getElem_cons_zero, List.setIfInBounds_toArray, List.set_cons_zero, List.set_cons_succ])
    refine wpAnyH_ready (rs := [13]) (by kernel_rfl) (by simp) ?_
    refine AllReadyH.cons rfl (fun K hK => ?_) AllReadyH.nil
    refine step_append_lies _ rfl (.tmp 10) (.tmp 18) 38 rfl B 46 i0 _ 3 24 Tryd.underlying38 hi0 hz0 hz1 hz2 rfl (by decide) (.slice A s.heard.length cap) s.heard.length (flat hc s.heard) (by simp [Act.eval, Act.put]) (by exact HO.out.alloc _) ⟨W.heap.size, 0, none⟩ 1 1 (hc ⟨x.id, a.node, a.phase⟩).toList (by simp [Act.eval, Act.put]) rfl (by exact World.news_of_block (Box.new W _ (hc ⟨x.id, a.node, a.phase⟩))) hj1.out (by omega) (by unfold maxLen; omega) (by omega) (by simp; omega) (W.heap.size + 1) (by simp) ?_
    intro g7 cap7 w7 hown7 hgr7 hor7 hlt7
    have hb7 : Box w7 b 62 (sg L e (.slice A s.heard.length cap) m s) := (Box.drew (HS1.out.box.alloc (.cells (hc ⟨x.id, a.node, a.phase⟩) 46))).grown hgr7 (fun h => (hne1.out b h.symm).1 rfl)
    have hx7 : Box w7 w.heap.size 43 (lc x) := (Box.drew (bx.alloc (.cells (hc ⟨x.id, a.node, a.phase⟩) 46))).grown hgr7 (fun h => by have := (hlts0.out _ h.symm); omega)
    have ha7 : Box w7 (w.heap.size + 1) 66 (sc a) := (Box.drew (ba.alloc (.cells (hc ⟨x.id, a.node, a.phase⟩) 46))).grown hgr7 (fun h => by have := (hlts0.out _ h.symm); omega)
    have r7 := hb7.cell 8
    have f7 := hb7.frozen 8
    simp at r7
    have n0 := hx7.cell 0
    have n1 := ha7.cell 0
    have n2 := ha7.cell 1
    simp at n0 n1 n2
    refine hK.out _ _ ⟨n0, n1, n2⟩ (fun hHeld => ?_)
    clear hK K
    (try simp only [Act.put, List.getElem_toArray, List.getElem_cons_succ, List.getElem_cons_zero, List.setIfInBounds_toArray, List.set_cons_zero, List.set_cons_succ])
    refine wpAnyH_take (i := 14) (v := ?_) rfl (by kernel_rfl) (by kernel_rfl) (by kernel_rfl) (fun _ _ _ h => h) (Or.inl ⟨by kernel_rfl, ?_⟩) (by assumption) ?_
    rotate_left
    · intro w hSw
      (try dsimp only at hSw)
      go_simp
      try (with_reducible rfl)
    (try simp only [Act.put, List.getElem_toArray, List.getElem_cons_succ, List.getElem_cons_zero, List.setIfInBounds_toArray, List.set_cons_zero, List.set_cons_succ])
    refine wpAnyH_take (i := 15) (v := ?_) rfl (by kernel_rfl) (by kernel_rfl) (by kernel_rfl) (fun _ _ _ h => h) (Or.inl ⟨by kernel_rfl, ?_⟩) (by assumption) ?_
    rotate_left
    · intro w hSw
      (try dsimp only at hSw)
      go_simp
      try (with_reducible rfl)
    (try simp only [Act.put, List.getElem_toArray, List.getElem_cons_succ, List.getElem_cons_zero, List.setIfInBounds_toArray, List.set_cons_zero, List.set_cons_succ])
    refine wpAnyH_ready (rs := [16]) (by kernel_rfl) (by simp) ?_
    refine AllReadyH.cons rfl (fun K hK => ?_) AllReadyH.nil
    go_simp
    have hu8 : Upd w7 (w7.setCell ⟨b, 8, none⟩ (.slice (some ⟨g7, 0, none⟩) (s.heard.length + 1) cap7)) b := (Upd.refl w7 b).set (p := ⟨b, 8, none⟩) (.inl rfl) _
    have hx8 := hx7.grown hu8 (by intro h; injection h with h; omega)
    have ha8 := ha7.grown hu8 (by intro h; injection h with h; omega)
    have k0 := hx8.cell 0
    have k1 := ha8.cell 0
    have k2 := ha8.cell 1
    simp at k0 k1 k2
    refine hK.out _ _ ⟨k0, k1, k2⟩ (fun hHeld => ?_)
    clear hK K
    (try simp only [Act.put, List.getElem_toArray, List.getElem_cons_succ, List.getElem_cons_zero, List.setIfInBounds_toArray, List.set_cons_zero, List.set_cons_succ])
    refine wpAnyH_done (by kernel_rfl) ?_ _
    have hb8 : Box (w7.setCell ⟨b, 8, none⟩ (.slice (some ⟨g7, 0, none⟩) (s.heard.length + 1) cap7)) b 62 (sg L e (.slice (some ⟨g7, 0, none⟩) (s.heard.length + 1) cap7) m s) := hb7.set 8 _
    have hgb : g7 ≠ b ∧ g7 ≠ m := hor7.elim (fun h => ⟨(hne1.out _ h).1, (hne1.out _ h).2.1⟩) (fun h => ⟨by omega, by have := HS1.out.mB; omega⟩)
    have hown8 := own_grown hown7 hu8 (.inr (by intro h; injection h with h; exact hgb.1 h))
    have hmap8 : (w7.setCell ⟨b, 8, none⟩ (.slice (some ⟨g7, 0, none⟩) (s.heard.length + 1) cap7)).ownsMap Tryd.prog 3 (plainElem (H := Unit) Tryd.prog 3) m k (Seeny.seen s.gone) := map_kept (map_kept (HS1.out.below (below1 W (.cells (hc ⟨x.id, a.node, a.phase⟩) 46)).drew).map hgr7 (fun h => (hne1.out m h.symm).2.1 rfl)) hu8 (fun h => by injection h with h; exact HS1.out.bm h.symm)
    have hkp8 : Kp w (w7.setCell ⟨b, 8, none⟩ (.slice (some ⟨g7, 0, none⟩) (s.heard.length + 1) cap7)) (sm b m (.slice A s.heard.length cap)) := (((Kp.of_below hU).trans (Kp.of_below (m := fun _ => False) (below1 W (.cells (hc ⟨x.id, a.node, a.phase⟩) 46))) (fun i h => h.elim)).drew.grown hgr7 (fun i h => .inl (.inr (.inr h)))).upd hu8 (.inl (.inl rfl))
    have hor8 : (Value.slice A s.heard.length cap).ownBlock = some g7 ∨ w.heap.size ≤ g7 := hor7.imp id (fun h => by have := hU.size; omega)
    generalize (w7.setCell ⟨b, 8, none⟩ (.slice (some ⟨g7, 0, none⟩) (s.heard.length + 1) cap7)) = W8 at *
    have hown9 : W8.ownsRow B 46 3 (.slice (some ⟨g7, 0, none⟩) (s.heard.length + 1) cap7) (s.heard ++ [(⟨x.id, a.node, a.phase⟩ : Evy.Hrd)]).length (flat hc (s.heard ++ [(⟨x.id, a.node, a.phase⟩ : Evy.Hrd)])) := by rw [List.length_append, flat_append]; simpa [flat] using hown8
    have HOWN := Lib.hid hown9
    have HMAP := Lib.hid hmap8
    have HKP := Lib.hid hkp8
    have HOR := Lib.hid hor8
    have HX8 := Lib.hid hx8
    have HB8 := Lib.hid hb8
    have hBB := HS1.out.bB
    have hMB := HS1.out.mB
    have hBM := Lib.hid HS1.out.bm
    clear r7 f7 n0 n1 n2 k0 k1 k2 hHeld hu8 hb7 hx7 ha7 ha8 hx8 hb8 hown7 hgr7 hor7 hown8 hown9 hmap8 hkp8 hor8 HS HS1 HO hlts hne1 hlts0 c8 f8 x0 a0 a1 bx ba
    obtain ⟨heard, gone, st, al, no⟩ := s
    obtain ⟨id, node, typ, capture, once, stops, all, prev⟩ := x
    have c10 := HB8.out.cell 10
    have f10 := HB8.out.frozen 10
    have c11 := HB8.out.cell 11
    have f11 := HB8.out.frozen 11
    have c12 := HB8.out.cell 12
    have f12 := HB8.out.frozen 12
    have x0 := HX8.out.cell 0
    have x4 := HX8.out.cell 4
    have x5 := HX8.out.cell 5
    have x6 := HX8.out.cell 6
    have x7 := HX8.out.cell 7
    have e7 := HB8.out.cell 7
    have e9 := HB8.out.cell 9
    simp at c10 c11 c12 x0 x4 x5 x6 x7 e7 e9
    have hkey := keyOf_int_mk (P := Tryd.prog) Tryd.underlying3 hw
    have HKEY := Lib.hid hkey
    clear hkey
    cases once with
    | false =>
      cases st with
      | false =>
        cases al with
        | false =>
          cases no with
          | false =>
            cases prev with
            | false =>
              go_upto_region 5 with (fail)
              refine gen_world (F := fun W9 => Box W9 b 62 (sg L e (.slice (some ⟨g7, 0, none⟩) (heard.length + 1) cap7) m (Evy.hear e ⟨heard, gone, false, false, false⟩ ⟨id, node, typ, capture, false, stops, all, false⟩ a)) ∧ Upd W8 W9 b) ⟨((HB8.out.set 10 _).set 11 _).set 12 _, (((Upd.refl W8 b).set (p := ⟨b, 10, none⟩) (.inl rfl) _).set (p := ⟨b, 11, none⟩) (.inl rfl) _).set (p := ⟨b, 12, none⟩) (.inl rfl) _⟩ ?_
              rintro W9 ⟨b9, hu9⟩
              have o9 := own_grown HOWN.out hu9 (.inr (fun h => hgb.1 (by simpa [Value.ownBlock] using h)))
              have m9 := map_kept HMAP.out hu9 (fun h => by injection h with h; exact hBM.out h.symm)
              have kp9 := HKP.out.upd hu9 (.inl (.inl rfl))
              have x4' := (HX8.out.grown hu9 (by intro h; injection h with h; omega)).cell 4
              simp at x4'
              go_wp2
              refine bodyPost_end (results_none rfl _ _ _) rfl ?_
              exact ⟨rfl, _, k, ⟨b9, o9, m9, hBB, hMB, hBM.out⟩, by omega, kp9, fun i hi => by simp [Value.ownBlock] at hi; subst hi; exact HOR.out⟩
            | true =>
              go_upto_region 5 with (fail)
              refine gen_world (F := fun W9 => Box W9 b 62 (sg L e (.slice (some ⟨g7, 0, none⟩) (heard.length + 1) cap7) m (Evy.hear e ⟨heard, gone, false, false, false⟩ ⟨id, node, typ, capture, false, stops, all, true⟩ a)) ∧ Upd W8 W9 b) ⟨((HB8.out.set 10 _).set 11 _).set 12 _, (((Upd.refl W8 b).set (p := ⟨b, 10, none⟩) (.inl rfl) _).set (p := ⟨b, 11, none⟩) (.inl rfl) _).set (p := ⟨b, 12, none⟩) (.inl rfl) _⟩ ?_
              rintro W9 ⟨b9, hu9⟩
              have o9 := own_grown HOWN.out hu9 (.inr (fun h => hgb.1 (by simpa [Value.ownBlock] using h)))
              have m9 := map_kept HMAP.out hu9 (fun h => by injection h with h; exact hBM.out h.symm)
              have kp9 := HKP.out.upd hu9 (.inl (.inl rfl))
              have x4' := (HX8.out.grown hu9 (by intro h; injection h with h; omega)).cell 4
              simp at x4'
              go_wp2
              refine bodyPost_end (results_none rfl _ _ _) rfl ?_
              exact ⟨rfl, _, k, ⟨b9, o9, m9, hBB, hMB, hBM.out⟩, by omega, kp9, fun i hi => by simp [Value.ownBlock] at hi; subst hi; exact HOR.out⟩
          | true =>
            go_upto_region 5 with (fail)
            refine gen_world (F := fun W9 => Box W9 b 62 (sg L e (.slice (some ⟨g7, 0, none⟩) (heard.length + 1) cap7) m (Evy.hear e ⟨heard, gone, false, false, true⟩ ⟨id, node, typ, capture, false, stops, all, prev⟩ a)) ∧ Upd W8 W9 b) ⟨((HB8.out.set 10 _).set 11 _).set 12 _, (((Upd.refl W8 b).set (p := ⟨b, 10, none⟩) (.inl rfl) _).set (p := ⟨b, 11, none⟩) (.inl rfl) _).set (p := ⟨b, 12, none⟩) (.inl rfl) _⟩ ?_
            rintro W9 ⟨b9, hu9⟩
            have o9 := own_grown HOWN.out hu9 (.inr (fun h => hgb.1 (by simpa [Value.ownBlock] using h)))
            have m9 := map_kept HMAP.out hu9 (fun h => by injection h with h; exact hBM.out h.symm)
            have kp9 := HKP.out.upd hu9 (.inl (.inl rfl))
            have x4' := (HX8.out.grown hu9 (by intro h; injection h with h; omega)).cell 4
            simp at x4'
            go_wp2
            refine bodyPost_end (results_none rfl _ _ _) rfl ?_
            exact ⟨rfl, _, k, ⟨b9, o9, m9, hBB, hMB, hBM.out⟩, by omega, kp9, fun i hi => by simp [Value.ownBlock] at hi; subst hi; exact HOR.out⟩
        | true =>
          cases no with
          | false =>
            cases prev with
            | false =>
              go_upto_region 5 with (fail)
              refine gen_world (F := fun W9 => Box W9 b 62 (sg L e (.slice (some ⟨g7, 0, none⟩) (heard.length + 1) cap7) m (Evy.hear e ⟨heard, gone, false, true, false⟩ ⟨id, node, typ, capture, false, stops, all, false⟩ a)) ∧ Upd W8 W9 b) ⟨((HB8.out.set 10 _).set 11 _).set 12 _, (((Upd.refl W8 b).set (p := ⟨b, 10, none⟩) (.inl rfl) _).set (p := ⟨b, 11, none⟩) (.inl rfl) _).set (p := ⟨b, 12, none⟩) (.inl rfl) _⟩ ?_
              rintro W9 ⟨b9, hu9⟩
              have o9 := own_grown HOWN.out hu9 (.inr (fun h => hgb.1 (by simpa [Value.ownBlock] using h)))
              have m9 := map_kept HMAP.out hu9 (fun h => by injection h with h; exact hBM.out h.symm)
              have kp9 := HKP.out.upd hu9 (.inl (.inl rfl))
              have x4' := (HX8.out.grown hu9 (by intro h; injection h with h; omega)).cell 4
              simp at x4'
              go_wp2
              refine bodyPost_end (results_none rfl _ _ _) rfl ?_
              exact ⟨rfl, _, k, ⟨b9, o9, m9, hBB, hMB, hBM.out⟩, by omega, kp9, fun i hi => by simp [Value.ownBlock] at hi; subst hi; exact HOR.out⟩
            | true =>
              go_upto_region 5 with (fail)
              refine gen_world (F := fun W9 => Box W9 b 62 (sg L e (.slice (some ⟨g7, 0, none⟩) (heard.length + 1) cap7) m (Evy.hear e ⟨heard, gone, false, true, false⟩ ⟨id, node, typ, capture, false, stops, all, true⟩ a)) ∧ Upd W8 W9 b) ⟨((HB8.out.set 10 _).set 11 _).set 12 _, (((Upd.refl W8 b).set (p := ⟨b, 10, none⟩) (.inl rfl) _).set (p := ⟨b, 11, none⟩) (.inl rfl) _).set (p := ⟨b, 12, none⟩) (.inl rfl) _⟩ ?_
              rintro W9 ⟨b9, hu9⟩
              have o9 := own_grown HOWN.out hu9 (.inr (fun h => hgb.1 (by simpa [Value.ownBlock] using h)))
              have m9 := map_kept HMAP.out hu9 (fun h => by injection h with h; exact hBM.out h.symm)
              have kp9 := HKP.out.upd hu9 (.inl (.inl rfl))
              have x4' := (HX8.out.grown hu9 (by intro h; injection h with h; omega)).cell 4
              simp at x4'
              go_wp2
              refine bodyPost_end (results_none rfl _ _ _) rfl ?_
              exact ⟨rfl, _, k, ⟨b9, o9, m9, hBB, hMB, hBM.out⟩, by omega, kp9, fun i hi => by simp [Value.ownBlock] at hi; subst hi; exact HOR.out⟩
          | true =>
            go_upto_region 5 with (fail)
            refine gen_world (F := fun W9 => Box W9 b 62 (sg L e (.slice (some ⟨g7, 0, none⟩) (heard.length + 1) cap7) m (Evy.hear e ⟨heard, gone, false, true, true⟩ ⟨id, node, typ, capture, false, stops, all, prev⟩ a)) ∧ Upd W8 W9 b) ⟨((HB8.out.set 10 _).set 11 _).set 12 _, (((Upd.refl W8 b).set (p := ⟨b, 10, none⟩) (.inl rfl) _).set (p := ⟨b, 11, none⟩) (.inl rfl) _).set (p := ⟨b, 12, none⟩) (.inl rfl) _⟩ ?_
            rintro W9 ⟨b9, hu9⟩
            have o9 := own_grown HOWN.out hu9 (.inr (fun h => hgb.1 (by simpa [Value.ownBlock] using h)))
            have m9 := map_kept HMAP.out hu9 (fun h => by injection h with h; exact hBM.out h.symm)
            have kp9 := HKP.out.upd hu9 (.inl (.inl rfl))
            have x4' := (HX8.out.grown hu9 (by intro h; injection h with h; omega)).cell 4
            simp at x4'
            go_wp2
            refine bodyPost_end (results_none rfl _ _ _) rfl ?_
            exact ⟨rfl, _, k, ⟨b9, o9, m9, hBB, hMB, hBM.out⟩, by omega, kp9, fun i hi => by simp [Value.ownBlock] at hi; subst hi; exact HOR.out⟩
      | true =>
        cases al with
        | false =>
          cases no with
          | false =>
            cases prev with
            | false =>
              go_upto_region 5 with (fail)
              refine gen_world (F := fun W9 => Box W9 b 62 (sg L e (.slice (some ⟨g7, 0, none⟩) (heard.length + 1) cap7) m (Evy.hear e ⟨heard, gone, true, false, false⟩ ⟨id, node, typ, capture, false, stops, all, false⟩ a)) ∧ Upd W8 W9 b) ⟨((HB8.out.set 10 _).set 11 _).set 12 _, (((Upd.refl W8 b).set (p := ⟨b, 10, none⟩) (.inl rfl) _).set (p := ⟨b, 11, none⟩) (.inl rfl) _).set (p := ⟨b, 12, none⟩) (.inl rfl) _⟩ ?_
              rintro W9 ⟨b9, hu9⟩
              have o9 := own_grown HOWN.out hu9 (.inr (fun h => hgb.1 (by simpa [Value.ownBlock] using h)))
              have m9 := map_kept HMAP.out hu9 (fun h => by injection h with h; exact hBM.out h.symm)
              have kp9 := HKP.out.upd hu9 (.inl (.inl rfl))
              have x4' := (HX8.out.grown hu9 (by intro h; injection h with h; omega)).cell 4
              simp at x4'
              go_wp2
              refine bodyPost_end (results_none rfl _ _ _) rfl ?_
              exact ⟨rfl, _, k, ⟨b9, o9, m9, hBB, hMB, hBM.out⟩, by omega, kp9, fun i hi => by simp [Value.ownBlock] at hi; subst hi; exact HOR.out⟩
            | true =>
              go_upto_region 5 with (fail)
              refine gen_world (F := fun W9 => Box W9 b 62 (sg L e (.slice (some ⟨g7, 0, none⟩) (heard.length + 1) cap7) m (Evy.hear e ⟨heard, gone, true, false, false⟩ ⟨id, node, typ, capture, false, stops, all, true⟩ a)) ∧ Upd W8 W9 b) ⟨((HB8.out.set 10 _).set 11 _).set 12 _, (((Upd.refl W8 b).set (p := ⟨b, 10, none⟩) (.inl rfl) _).set (p := ⟨b, 11, none⟩) (.inl rfl) _).set (p := ⟨b, 12, none⟩) (.inl rfl) _⟩ ?_
              rintro W9 ⟨b9, hu9⟩
              have o9 := own_grown HOWN.out hu9 (.inr (fun h => hgb.1 (by simpa [Value.ownBlock] using h)))
              have m9 := map_kept HMAP.out hu9 (fun h => by injection h with h; exact hBM.out h.symm)
              have kp9 := HKP.out.upd hu9 (.inl (.inl rfl))
              have x4' := (HX8.out.grown hu9 (by intro h; injection h with h; omega)).cell 4
              simp at x4'
              go_wp2
              refine bodyPost_end (results_none rfl _ _ _) rfl ?_
              exact ⟨rfl, _, k, ⟨b9, o9, m9, hBB, hMB, hBM.out⟩, by omega, kp9, fun i hi => by simp [Value.ownBlock] at hi; subst hi; exact HOR.out⟩
          | true =>
            go_upto_region 5 with (fail)
            refine gen_world (F := fun W9 => Box W9 b 62 (sg L e (.slice (some ⟨g7, 0, none⟩) (heard.length + 1) cap7) m (Evy.hear e ⟨heard, gone, true, false, true⟩ ⟨id, node, typ, capture, false, stops, all, prev⟩ a)) ∧ Upd W8 W9 b) ⟨((HB8.out.set 10 _).set 11 _).set 12 _, (((Upd.refl W8 b).set (p := ⟨b, 10, none⟩) (.inl rfl) _).set (p := ⟨b, 11, none⟩) (.inl rfl) _).set (p := ⟨b, 12, none⟩) (.inl rfl) _⟩ ?_
            rintro W9 ⟨b9, hu9⟩
            have o9 := own_grown HOWN.out hu9 (.inr (fun h => hgb.1 (by simpa [Value.ownBlock] using h)))
            have m9 := map_kept HMAP.out hu9 (fun h => by injection h with h; exact hBM.out h.symm)
            have kp9 := HKP.out.upd hu9 (.inl (.inl rfl))
            have x4' := (HX8.out.grown hu9 (by intro h; injection h with h; omega)).cell 4
            simp at x4'
            go_wp2
            refine bodyPost_end (results_none rfl _ _ _) rfl ?_
            exact ⟨rfl, _, k, ⟨b9, o9, m9, hBB, hMB, hBM.out⟩, by omega, kp9, fun i hi => by simp [Value.ownBlock] at hi; subst hi; exact HOR.out⟩
        | true =>
          cases no with
          | false =>
            cases prev with
            | false =>
              go_upto_region 5 with (fail)
              refine gen_world (F := fun W9 => Box W9 b 62 (sg L e (.slice (some ⟨g7, 0, none⟩) (heard.length + 1) cap7) m (Evy.hear e ⟨heard, gone, true, true, false⟩ ⟨id, node, typ, capture, false, stops, all, false⟩ a)) ∧ Upd W8 W9 b) ⟨((HB8.out.set 10 _).set 11 _).set 12 _, (((Upd.refl W8 b).set (p := ⟨b, 10, none⟩) (.inl rfl) _).set (p := ⟨b, 11, none⟩) (.inl rfl) _).set (p := ⟨b, 12, none⟩) (.inl rfl) _⟩ ?_
              rintro W9 ⟨b9, hu9⟩
              have o9 := own_grown HOWN.out hu9 (.inr (fun h => hgb.1 (by simpa [Value.ownBlock] using h)))
              have m9 := map_kept HMAP.out hu9 (fun h => by injection h with h; exact hBM.out h.symm)
              have kp9 := HKP.out.upd hu9 (.inl (.inl rfl))
              have x4' := (HX8.out.grown hu9 (by intro h; injection h with h; omega)).cell 4
              simp at x4'
              go_wp2
              refine bodyPost_end (results_none rfl _ _ _) rfl ?_
              exact ⟨rfl, _, k, ⟨b9, o9, m9, hBB, hMB, hBM.out⟩, by omega, kp9, fun i hi => by simp [Value.ownBlock] at hi; subst hi; exact HOR.out⟩
            | true =>
              go_upto_region 5 with (fail)
              refine gen_world (F := fun W9 => Box W9 b 62 (sg L e (.slice (some ⟨g7, 0, none⟩) (heard.length + 1) cap7) m (Evy.hear e ⟨heard, gone, true, true, false⟩ ⟨id, node, typ, capture, false, stops, all, true⟩ a)) ∧ Upd W8 W9 b) ⟨((HB8.out.set 10 _).set 11 _).set 12 _, (((Upd.refl W8 b).set (p := ⟨b, 10, none⟩) (.inl rfl) _).set (p := ⟨b, 11, none⟩) (.inl rfl) _).set (p := ⟨b, 12, none⟩) (.inl rfl) _⟩ ?_
              rintro W9 ⟨b9, hu9⟩
              have o9 := own_grown HOWN.out hu9 (.inr (fun h => hgb.1 (by simpa [Value.ownBlock] using h)))
              have m9 := map_kept HMAP.out hu9 (fun h => by injection h with h; exact hBM.out h.symm)
              have kp9 := HKP.out.upd hu9 (.inl (.inl rfl))
              have x4' := (HX8.out.grown hu9 (by intro h; injection h with h; omega)).cell 4
              simp at x4'
              go_wp2
              refine bodyPost_end (results_none rfl _ _ _) rfl ?_
              exact ⟨rfl, _, k, ⟨b9, o9, m9, hBB, hMB, hBM.out⟩, by omega, kp9, fun i hi => by simp [Value.ownBlock] at hi; subst hi; exact HOR.out⟩
          | true =>
            go_upto_region 5 with (fail)
            refine gen_world (F := fun W9 => Box W9 b 62 (sg L e (.slice (some ⟨g7, 0, none⟩) (heard.length + 1) cap7) m (Evy.hear e ⟨heard, gone, true, true, true⟩ ⟨id, node, typ, capture, false, stops, all, prev⟩ a)) ∧ Upd W8 W9 b) ⟨((HB8.out.set 10 _).set 11 _).set 12 _, (((Upd.refl W8 b).set (p := ⟨b, 10, none⟩) (.inl rfl) _).set (p := ⟨b, 11, none⟩) (.inl rfl) _).set (p := ⟨b, 12, none⟩) (.inl rfl) _⟩ ?_
            rintro W9 ⟨b9, hu9⟩
            have o9 := own_grown HOWN.out hu9 (.inr (fun h => hgb.1 (by simpa [Value.ownBlock] using h)))
            have m9 := map_kept HMAP.out hu9 (fun h => by injection h with h; exact hBM.out h.symm)
            have kp9 := HKP.out.upd hu9 (.inl (.inl rfl))
            have x4' := (HX8.out.grown hu9 (by intro h; injection h with h; omega)).cell 4
            simp at x4'
            go_wp2
            refine bodyPost_end (results_none rfl _ _ _) rfl ?_
            exact ⟨rfl, _, k, ⟨b9, o9, m9, hBB, hMB, hBM.out⟩, by omega, kp9, fun i hi => by simp [Value.ownBlock] at hi; subst hi; exact HOR.out⟩
    | true =>
      cases st with
      | false =>
        cases al with
        | false =>
          cases no with
          | false =>
            cases prev with
            | false =>
              go_upto_region 5 with (fail)
              refine gen_world (F := fun W9 => Box W9 b 62 (sg L e (.slice (some ⟨g7, 0, none⟩) (heard.length + 1) cap7) m (Evy.hear e ⟨heard, gone, false, false, false⟩ ⟨id, node, typ, capture, true, stops, all, false⟩ a)) ∧ Upd W8 W9 b) ⟨((HB8.out.set 10 _).set 11 _).set 12 _, (((Upd.refl W8 b).set (p := ⟨b, 10, none⟩) (.inl rfl) _).set (p := ⟨b, 11, none⟩) (.inl rfl) _).set (p := ⟨b, 12, none⟩) (.inl rfl) _⟩ ?_
              rintro W9 ⟨b9, hu9⟩
              have o9 := own_grown HOWN.out hu9 (.inr (fun h => hgb.1 (by simpa [Value.ownBlock] using h)))
              have m9 := map_kept HMAP.out hu9 (fun h => by injection h with h; exact hBM.out h.symm)
              have kp9 := HKP.out.upd hu9 (.inl (.inl rfl))
              have y9 := b9.cell 9
              have xb := HX8.out.grown hu9 (by intro h; injection h with h; omega)
              have x4' := xb.cell 4
              have x0' := xb.cell 0
              simp at y9 x0' x4'
              go_upto_region 6 with (fail)
              go_still_tail 6, (by kernel_rfl)
              change wpList _ _ _ _ _ W9.drew
              go_wp2_with (at_mapUpdate; refine wpList_mapUpdate_own _ rfl _ _ _ 53 rfl 3 3 intKey Tryd.underlying53 _ m k _ rfl (by exact m9) (by unfold maxLen; omega) _ _ _ rfl rfl HKEY.out _ [] (plainElem_int Tryd.underlying3 (by decide)) ?_; intro w10 hown10 hgrow10)
              refine bodyPost_end (results_none rfl _ _ _) rfl ?_
              exact ⟨rfl, _, k + 1, ⟨(Box.drew b9).grown hgrow10 (by intro h; injection h with h; exact hBM.out h), own_grown (w := W9.drew) o9 hgrow10 (.inr (fun h => hgb.2 (by simpa [Value.ownBlock] using h))), by rw [show (Evy.hear e ⟨heard, gone, false, false, false⟩ ⟨id, node, typ, capture, true, stops, all, false⟩ a).gone = gone ++ [id] from rfl, Seeny.seen_snoc]; exact hown10, hBB, hMB, hBM.out⟩, by omega, kp9.drew.grown hgrow10 (fun i hi => by injection hi with hi; exact .inl (.inr (.inl hi.symm))), fun i hi => by simp [Value.ownBlock] at hi; subst hi; exact HOR.out⟩
            | true =>
              go_upto_region 5 with (fail)
              refine gen_world (F := fun W9 => Box W9 b 62 (sg L e (.slice (some ⟨g7, 0, none⟩) (heard.length + 1) cap7) m (Evy.hear e ⟨heard, gone, false, false, false⟩ ⟨id, node, typ, capture, true, stops, all, true⟩ a)) ∧ Upd W8 W9 b) ⟨((HB8.out.set 10 _).set 11 _).set 12 _, (((Upd.refl W8 b).set (p := ⟨b, 10, none⟩) (.inl rfl) _).set (p := ⟨b, 11, none⟩) (.inl rfl) _).set (p := ⟨b, 12, none⟩) (.inl rfl) _⟩ ?_
              rintro W9 ⟨b9, hu9⟩
              have o9 := own_grown HOWN.out hu9 (.inr (fun h => hgb.1 (by simpa [Value.ownBlock] using h)))
              have m9 := map_kept HMAP.out hu9 (fun h => by injection h with h; exact hBM.out h.symm)
              have kp9 := HKP.out.upd hu9 (.inl (.inl rfl))
              have y9 := b9.cell 9
              have xb := HX8.out.grown hu9 (by intro h; injection h with h; omega)
              have x4' := xb.cell 4
              have x0' := xb.cell 0
              simp at y9 x0' x4'
              go_upto_region 6 with (fail)
              go_still_tail 6, (by kernel_rfl)
              change wpList _ _ _ _ _ W9.drew
              go_wp2_with (at_mapUpdate; refine wpList_mapUpdate_own _ rfl _ _ _ 53 rfl 3 3 intKey Tryd.underlying53 _ m k _ rfl (by exact m9) (by unfold maxLen; omega) _ _ _ rfl rfl HKEY.out _ [] (plainElem_int Tryd.underlying3 (by decide)) ?_; intro w10 hown10 hgrow10)
              refine bodyPost_end (results_none rfl _ _ _) rfl ?_
              exact ⟨rfl, _, k + 1, ⟨(Box.drew b9).grown hgrow10 (by intro h; injection h with h; exact hBM.out h), own_grown (w := W9.drew) o9 hgrow10 (.inr (fun h => hgb.2 (by simpa [Value.ownBlock] using h))), by rw [show (Evy.hear e ⟨heard, gone, false, false, false⟩ ⟨id, node, typ, capture, true, stops, all, true⟩ a).gone = gone ++ [id] from rfl, Seeny.seen_snoc]; exact hown10, hBB, hMB, hBM.out⟩, by omega, kp9.drew.grown hgrow10 (fun i hi => by injection hi with hi; exact .inl (.inr (.inl hi.symm))), fun i hi => by simp [Value.ownBlock] at hi; subst hi; exact HOR.out⟩
          | true =>
            go_upto_region 5 with (fail)
            refine gen_world (F := fun W9 => Box W9 b 62 (sg L e (.slice (some ⟨g7, 0, none⟩) (heard.length + 1) cap7) m (Evy.hear e ⟨heard, gone, false, false, true⟩ ⟨id, node, typ, capture, true, stops, all, prev⟩ a)) ∧ Upd W8 W9 b) ⟨((HB8.out.set 10 _).set 11 _).set 12 _, (((Upd.refl W8 b).set (p := ⟨b, 10, none⟩) (.inl rfl) _).set (p := ⟨b, 11, none⟩) (.inl rfl) _).set (p := ⟨b, 12, none⟩) (.inl rfl) _⟩ ?_
            rintro W9 ⟨b9, hu9⟩
            have o9 := own_grown HOWN.out hu9 (.inr (fun h => hgb.1 (by simpa [Value.ownBlock] using h)))
            have m9 := map_kept HMAP.out hu9 (fun h => by injection h with h; exact hBM.out h.symm)
            have kp9 := HKP.out.upd hu9 (.inl (.inl rfl))
            have y9 := b9.cell 9
            have xb := HX8.out.grown hu9 (by intro h; injection h with h; omega)
            have x4' := xb.cell 4
            have x0' := xb.cell 0
            simp at y9 x0' x4'
            go_upto_region 6 with (fail)
            go_still_tail 6, (by kernel_rfl)
            change wpList _ _ _ _ _ W9.drew
            go_wp2_with (at_mapUpdate; refine wpList_mapUpdate_own _ rfl _ _ _ 53 rfl 3 3 intKey Tryd.underlying53 _ m k _ rfl (by exact m9) (by unfold maxLen; omega) _ _ _ rfl rfl HKEY.out _ [] (plainElem_int Tryd.underlying3 (by decide)) ?_; intro w10 hown10 hgrow10)
            refine bodyPost_end (results_none rfl _ _ _) rfl ?_
            exact ⟨rfl, _, k + 1, ⟨(Box.drew b9).grown hgrow10 (by intro h; injection h with h; exact hBM.out h), own_grown (w := W9.drew) o9 hgrow10 (.inr (fun h => hgb.2 (by simpa [Value.ownBlock] using h))), by rw [show (Evy.hear e ⟨heard, gone, false, false, true⟩ ⟨id, node, typ, capture, true, stops, all, prev⟩ a).gone = gone ++ [id] from rfl, Seeny.seen_snoc]; exact hown10, hBB, hMB, hBM.out⟩, by omega, kp9.drew.grown hgrow10 (fun i hi => by injection hi with hi; exact .inl (.inr (.inl hi.symm))), fun i hi => by simp [Value.ownBlock] at hi; subst hi; exact HOR.out⟩
        | true =>
          cases no with
          | false =>
            cases prev with
            | false =>
              go_upto_region 5 with (fail)
              refine gen_world (F := fun W9 => Box W9 b 62 (sg L e (.slice (some ⟨g7, 0, none⟩) (heard.length + 1) cap7) m (Evy.hear e ⟨heard, gone, false, true, false⟩ ⟨id, node, typ, capture, true, stops, all, false⟩ a)) ∧ Upd W8 W9 b) ⟨((HB8.out.set 10 _).set 11 _).set 12 _, (((Upd.refl W8 b).set (p := ⟨b, 10, none⟩) (.inl rfl) _).set (p := ⟨b, 11, none⟩) (.inl rfl) _).set (p := ⟨b, 12, none⟩) (.inl rfl) _⟩ ?_
              rintro W9 ⟨b9, hu9⟩
              have o9 := own_grown HOWN.out hu9 (.inr (fun h => hgb.1 (by simpa [Value.ownBlock] using h)))
              have m9 := map_kept HMAP.out hu9 (fun h => by injection h with h; exact hBM.out h.symm)
              have kp9 := HKP.out.upd hu9 (.inl (.inl rfl))
              have y9 := b9.cell 9
              have xb := HX8.out.grown hu9 (by intro h; injection h with h; omega)
              have x4' := xb.cell 4
              have x0' := xb.cell 0
              simp at y9 x0' x4'
              go_upto_region 6 with (fail)
              go_still_tail 6, (by kernel_rfl)
              change wpList _ _ _ _ _ W9.drew
              go_wp2_with (at_mapUpdate; refine wpList_mapUpdate_own _ rfl _ _ _ 53 rfl 3 3 intKey Tryd.underlying53 _ m k _ rfl (by exact m9) (by unfold maxLen; omega) _ _ _ rfl rfl HKEY.out _ [] (plainElem_int Tryd.underlying3 (by decide)) ?_; intro w10 hown10 hgrow10)
              refine bodyPost_end (results_none rfl _ _ _) rfl ?_
              exact ⟨rfl, _, k + 1, ⟨(Box.drew b9).grown hgrow10 (by intro h; injection h with h; exact hBM.out h), own_grown (w := W9.drew) o9 hgrow10 (.inr (fun h => hgb.2 (by simpa [Value.ownBlock] using h))), by rw [show (Evy.hear e ⟨heard, gone, false, true, false⟩ ⟨id, node, typ, capture, true, stops, all, false⟩ a).gone = gone ++ [id] from rfl, Seeny.seen_snoc]; exact hown10, hBB, hMB, hBM.out⟩, by omega, kp9.drew.grown hgrow10 (fun i hi => by injection hi with hi; exact .inl (.inr (.inl hi.symm))), fun i hi => by simp [Value.ownBlock] at hi; subst hi; exact HOR.out⟩
            | true =>
              go_upto_region 5 with (fail)
              refine gen_world (F := fun W9 => Box W9 b 62 (sg L e (.slice (some ⟨g7, 0, none⟩) (heard.length + 1) cap7) m (Evy.hear e ⟨heard, gone, false, true, false⟩ ⟨id, node, typ, capture, true, stops, all, true⟩ a)) ∧ Upd W8 W9 b) ⟨((HB8.out.set 10 _).set 11 _).set 12 _, (((Upd.refl W8 b).set (p := ⟨b, 10, none⟩) (.inl rfl) _).set (p := ⟨b, 11, none⟩) (.inl rfl) _).set (p := ⟨b, 12, none⟩) (.inl rfl) _⟩ ?_
              rintro W9 ⟨b9, hu9⟩
              have o9 := own_grown HOWN.out hu9 (.inr (fun h => hgb.1 (by simpa [Value.ownBlock] using h)))
              have m9 := map_kept HMAP.out hu9 (fun h => by injection h with h; exact hBM.out h.symm)
              have kp9 := HKP.out.upd hu9 (.inl (.inl rfl))
              have y9 := b9.cell 9
              have xb := HX8.out.grown hu9 (by intro h; injection h with h; omega)
              have x4' := xb.cell 4
              have x0' := xb.cell 0
              simp at y9 x0' x4'
              go_upto_region 6 with (fail)
              go_still_tail 6, (by kernel_rfl)
              change wpList _ _ _ _ _ W9.drew
              go_wp2_with (at_mapUpdate; refine wpList_mapUpdate_own _ rfl _ _ _ 53 rfl 3 3 intKey Tryd.underlying53 _ m k _ rfl (by exact m9) (by unfold maxLen; omega) _ _ _ rfl rfl HKEY.out _ [] (plainElem_int Tryd.underlying3 (by decide)) ?_; intro w10 hown10 hgrow10)
              refine bodyPost_end (results_none rfl _ _ _) rfl ?_
              exact ⟨rfl, _, k + 1, ⟨(Box.drew b9).grown hgrow10 (by intro h; injection h with h; exact hBM.out h), own_grown (w := W9.drew) o9 hgrow10 (.inr (fun h => hgb.2 (by simpa [Value.ownBlock] using h))), by rw [show (Evy.hear e ⟨heard, gone, false, true, false⟩ ⟨id, node, typ, capture, true, stops, all, true⟩ a).gone = gone ++ [id] from rfl, Seeny.seen_snoc]; exact hown10, hBB, hMB, hBM.out⟩, by omega, kp9.drew.grown hgrow10 (fun i hi => by injection hi with hi; exact .inl (.inr (.inl hi.symm))), fun i hi => by simp [Value.ownBlock] at hi; subst hi; exact HOR.out⟩
          | true =>
            go_upto_region 5 with (fail)
            refine gen_world (F := fun W9 => Box W9 b 62 (sg L e (.slice (some ⟨g7, 0, none⟩) (heard.length + 1) cap7) m (Evy.hear e ⟨heard, gone, false, true, true⟩ ⟨id, node, typ, capture, true, stops, all, prev⟩ a)) ∧ Upd W8 W9 b) ⟨((HB8.out.set 10 _).set 11 _).set 12 _, (((Upd.refl W8 b).set (p := ⟨b, 10, none⟩) (.inl rfl) _).set (p := ⟨b, 11, none⟩) (.inl rfl) _).set (p := ⟨b, 12, none⟩) (.inl rfl) _⟩ ?_
            rintro W9 ⟨b9, hu9⟩
            have o9 := own_grown HOWN.out hu9 (.inr (fun h => hgb.1 (by simpa [Value.ownBlock] using h)))
            have m9 := map_kept HMAP.out hu9 (fun h => by injection h with h; exact hBM.out h.symm)
            have kp9 := HKP.out.upd hu9 (.inl (.inl rfl))
            have y9 := b9.cell 9
            have xb := HX8.out.grown hu9 (by intro h; injection h with h; omega)
            have x4' := xb.cell 4
            have x0' := xb.cell 0
            simp at y9 x0' x4'
            go_upto_region 6 with (fail)
            go_still_tail 6, (by kernel_rfl)
            change wpList _ _ _ _ _ W9.drew
            go_wp2_with (at_mapUpdate; refine wpList_mapUpdate_own _ rfl _ _ _ 53 rfl 3 3 intKey Tryd.underlying53 _ m k _ rfl (by exact m9) (by unfold maxLen; omega) _ _ _ rfl rfl HKEY.out _ [] (plainElem_int Tryd.underlying3 (by decide)) ?_; intro w10 hown10 hgrow10)
            refine bodyPost_end (results_none rfl _ _ _) rfl ?_
            exact ⟨rfl, _, k + 1, ⟨(Box.drew b9).grown hgrow10 (by intro h; injection h with h; exact hBM.out h), own_grown (w := W9.drew) o9 hgrow10 (.inr (fun h => hgb.2 (by simpa [Value.ownBlock] using h))), by rw [show (Evy.hear e ⟨heard, gone, false, true, true⟩ ⟨id, node, typ, capture, true, stops, all, prev⟩ a).gone = gone ++ [id] from rfl, Seeny.seen_snoc]; exact hown10, hBB, hMB, hBM.out⟩, by omega, kp9.drew.grown hgrow10 (fun i hi => by injection hi with hi; exact .inl (.inr (.inl hi.symm))), fun i hi => by simp [Value.ownBlock] at hi; subst hi; exact HOR.out⟩
      | true =>
        cases al with
        | false =>
          cases no with
          | false =>
            cases prev with
            | false =>
              go_upto_region 5 with (fail)
              refine gen_world (F := fun W9 => Box W9 b 62 (sg L e (.slice (some ⟨g7, 0, none⟩) (heard.length + 1) cap7) m (Evy.hear e ⟨heard, gone, true, false, false⟩ ⟨id, node, typ, capture, true, stops, all, false⟩ a)) ∧ Upd W8 W9 b) ⟨((HB8.out.set 10 _).set 11 _).set 12 _, (((Upd.refl W8 b).set (p := ⟨b, 10, none⟩) (.inl rfl) _).set (p := ⟨b, 11, none⟩) (.inl rfl) _).set (p := ⟨b, 12, none⟩) (.inl rfl) _⟩ ?_
              rintro W9 ⟨b9, hu9⟩
              have o9 := own_grown HOWN.out hu9 (.inr (fun h => hgb.1 (by simpa [Value.ownBlock] using h)))
              have m9 := map_kept HMAP.out hu9 (fun h => by injection h with h; exact hBM.out h.symm)
              have kp9 := HKP.out.upd hu9 (.inl (.inl rfl))
              have y9 := b9.cell 9
              have xb := HX8.out.grown hu9 (by intro h; injection h with h; omega)
              have x4' := xb.cell 4
              have x0' := xb.cell 0
              simp at y9 x0' x4'
              go_upto_region 6 with (fail)
              go_still_tail 6, (by kernel_rfl)
              change wpList _ _ _ _ _ W9.drew
              go_wp2_with (at_mapUpdate; refine wpList_mapUpdate_own _ rfl _ _ _ 53 rfl 3 3 intKey Tryd.underlying53 _ m k _ rfl (by exact m9) (by unfold maxLen; omega) _ _ _ rfl rfl HKEY.out _ [] (plainElem_int Tryd.underlying3 (by decide)) ?_; intro w10 hown10 hgrow10)
              refine bodyPost_end (results_none rfl _ _ _) rfl ?_
              exact ⟨rfl, _, k + 1, ⟨(Box.drew b9).grown hgrow10 (by intro h; injection h with h; exact hBM.out h), own_grown (w := W9.drew) o9 hgrow10 (.inr (fun h => hgb.2 (by simpa [Value.ownBlock] using h))), by rw [show (Evy.hear e ⟨heard, gone, true, false, false⟩ ⟨id, node, typ, capture, true, stops, all, false⟩ a).gone = gone ++ [id] from rfl, Seeny.seen_snoc]; exact hown10, hBB, hMB, hBM.out⟩, by omega, kp9.drew.grown hgrow10 (fun i hi => by injection hi with hi; exact .inl (.inr (.inl hi.symm))), fun i hi => by simp [Value.ownBlock] at hi; subst hi; exact HOR.out⟩
            | true =>
              go_upto_region 5 with (fail)
              refine gen_world (F := fun W9 => Box W9 b 62 (sg L e (.slice (some ⟨g7, 0, none⟩) (heard.length + 1) cap7) m (Evy.hear e ⟨heard, gone, true, false, false⟩ ⟨id, node, typ, capture, true, stops, all, true⟩ a)) ∧ Upd W8 W9 b) ⟨((HB8.out.set 10 _).set 11 _).set 12 _, (((Upd.refl W8 b).set (p := ⟨b, 10, none⟩) (.inl rfl) _).set (p := ⟨b, 11, none⟩) (.inl rfl) _).set (p := ⟨b, 12, none⟩) (.inl rfl) _⟩ ?_
              rintro W9 ⟨b9, hu9⟩
              have o9 := own_grown HOWN.out hu9 (.inr (fun h => hgb.1 (by simpa [Value.ownBlock] using h)))
              have m9 := map_kept HMAP.out hu9 (fun h => by injection h with h; exact hBM.out h.symm)
              have kp9 := HKP.out.upd hu9 (.inl (.inl rfl))
              have y9 := b9.cell 9
              have xb := HX8.out.grown hu9 (by intro h; injection h with h; omega)
              have x4' := xb.cell 4
              have x0' := xb.cell 0
              simp at y9 x0' x4'
              go_upto_region 6 with (fail)
              go_still_tail 6, (by kernel_rfl)
              change wpList _ _ _ _ _ W9.drew
              go_wp2_with (at_mapUpdate; refine wpList_mapUpdate_own _ rfl _ _ _ 53 rfl 3 3 intKey Tryd.underlying53 _ m k _ rfl (by exact m9) (by unfold maxLen; omega) _ _ _ rfl rfl HKEY.out _ [] (plainElem_int Tryd.underlying3 (by decide)) ?_; intro w10 hown10 hgrow10)
              refine bodyPost_end (results_none rfl _ _ _) rfl ?_
              exact ⟨rfl, _, k + 1, ⟨(Box.drew b9).grown hgrow10 (by intro h; injection h with h; exact hBM.out h), own_grown (w := W9.drew) o9 hgrow10 (.inr (fun h => hgb.2 (by simpa [Value.ownBlock] using h))), by rw [show (Evy.hear e ⟨heard, gone, true, false, false⟩ ⟨id, node, typ, capture, true, stops, all, true⟩ a).gone = gone ++ [id] from rfl, Seeny.seen_snoc]; exact hown10, hBB, hMB, hBM.out⟩, by omega, kp9.drew.grown hgrow10 (fun i hi => by injection hi with hi; exact .inl (.inr (.inl hi.symm))), fun i hi => by simp [Value.ownBlock] at hi; subst hi; exact HOR.out⟩
          | true =>
            go_upto_region 5 with (fail)
            refine gen_world (F := fun W9 => Box W9 b 62 (sg L e (.slice (some ⟨g7, 0, none⟩) (heard.length + 1) cap7) m (Evy.hear e ⟨heard, gone, true, false, true⟩ ⟨id, node, typ, capture, true, stops, all, prev⟩ a)) ∧ Upd W8 W9 b) ⟨((HB8.out.set 10 _).set 11 _).set 12 _, (((Upd.refl W8 b).set (p := ⟨b, 10, none⟩) (.inl rfl) _).set (p := ⟨b, 11, none⟩) (.inl rfl) _).set (p := ⟨b, 12, none⟩) (.inl rfl) _⟩ ?_
            rintro W9 ⟨b9, hu9⟩
            have o9 := own_grown HOWN.out hu9 (.inr (fun h => hgb.1 (by simpa [Value.ownBlock] using h)))
            have m9 := map_kept HMAP.out hu9 (fun h => by injection h with h; exact hBM.out h.symm)
            have kp9 := HKP.out.upd hu9 (.inl (.inl rfl))
            have y9 := b9.cell 9
            have xb := HX8.out.grown hu9 (by intro h; injection h with h; omega)
            have x4' := xb.cell 4
            have x0' := xb.cell 0
            simp at y9 x0' x4'
            go_upto_region 6 with (fail)
            go_still_tail 6, (by kernel_rfl)
            change wpList _ _ _ _ _ W9.drew
            go_wp2_with (at_mapUpdate; refine wpList_mapUpdate_own _ rfl _ _ _ 53 rfl 3 3 intKey Tryd.underlying53 _ m k _ rfl (by exact m9) (by unfold maxLen; omega) _ _ _ rfl rfl HKEY.out _ [] (plainElem_int Tryd.underlying3 (by decide)) ?_; intro w10 hown10 hgrow10)
            refine bodyPost_end (results_none rfl _ _ _) rfl ?_
            exact ⟨rfl, _, k + 1, ⟨(Box.drew b9).grown hgrow10 (by intro h; injection h with h; exact hBM.out h), own_grown (w := W9.drew) o9 hgrow10 (.inr (fun h => hgb.2 (by simpa [Value.ownBlock] using h))), by rw [show (Evy.hear e ⟨heard, gone, true, false, true⟩ ⟨id, node, typ, capture, true, stops, all, prev⟩ a).gone = gone ++ [id] from rfl, Seeny.seen_snoc]; exact hown10, hBB, hMB, hBM.out⟩, by omega, kp9.drew.grown hgrow10 (fun i hi => by injection hi with hi; exact .inl (.inr (.inl hi.symm))), fun i hi => by simp [Value.ownBlock] at hi; subst hi; exact HOR.out⟩
        | true =>
          cases no with
          | false =>
            cases prev with
            | false =>
              go_upto_region 5 with (fail)
              refine gen_world (F := fun W9 => Box W9 b 62 (sg L e (.slice (some ⟨g7, 0, none⟩) (heard.length + 1) cap7) m (Evy.hear e ⟨heard, gone, true, true, false⟩ ⟨id, node, typ, capture, true, stops, all, false⟩ a)) ∧ Upd W8 W9 b) ⟨((HB8.out.set 10 _).set 11 _).set 12 _, (((Upd.refl W8 b).set (p := ⟨b, 10, none⟩) (.inl rfl) _).set (p := ⟨b, 11, none⟩) (.inl rfl) _).set (p := ⟨b, 12, none⟩) (.inl rfl) _⟩ ?_
              rintro W9 ⟨b9, hu9⟩
              have o9 := own_grown HOWN.out hu9 (.inr (fun h => hgb.1 (by simpa [Value.ownBlock] using h)))
              have m9 := map_kept HMAP.out hu9 (fun h => by injection h with h; exact hBM.out h.symm)
              have kp9 := HKP.out.upd hu9 (.inl (.inl rfl))
              have y9 := b9.cell 9
              have xb := HX8.out.grown hu9 (by intro h; injection h with h; omega)
              have x4' := xb.cell 4
              have x0' := xb.cell 0
              simp at y9 x0' x4'
              go_upto_region 6 with (fail)
              go_still_tail 6, (by kernel_rfl)
              change wpList _ _ _ _ _ W9.drew
              go_wp2_with (at_mapUpdate; refine wpList_mapUpdate_own _ rfl _ _ _ 53 rfl 3 3 intKey Tryd.underlying53 _ m k _ rfl (by exact m9) (by unfold maxLen; omega) _ _ _ rfl rfl HKEY.out _ [] (plainElem_int Tryd.underlying3 (by decide)) ?_; intro w10 hown10 hgrow10)
              refine bodyPost_end (results_none rfl _ _ _) rfl ?_
              exact ⟨rfl, _, k + 1, ⟨(Box.drew b9).grown hgrow10 (by intro h; injection h with h; exact hBM.out h), own_grown (w := W9.drew) o9 hgrow10 (.inr (fun h => hgb.2 (by simpa [Value.ownBlock] using h))), by rw [show (Evy.hear e ⟨heard, gone, true, true, false⟩ ⟨id, node, typ, capture, true, stops, all, false⟩ a).gone = gone ++ [id] from rfl, Seeny.seen_snoc]; exact hown10, hBB, hMB, hBM.out⟩, by omega, kp9.drew.grown hgrow10 (fun i hi => by injection hi with hi; exact .inl (.inr (.inl hi.symm))), fun i hi => by simp [Value.ownBlock] at hi; subst hi; exact HOR.out⟩
            | true =>
              go_upto_region 5 with (fail)
              refine gen_world (F := fun W9 => Box W9 b 62 (sg L e (.slice (some ⟨g7, 0, none⟩) (heard.length + 1) cap7) m (Evy.hear e ⟨heard, gone, true, true, false⟩ ⟨id, node, typ, capture, true, stops, all, true⟩ a)) ∧ Upd W8 W9 b) ⟨((HB8.out.set 10 _).set 11 _).set 12 _, (((Upd.refl W8 b).set (p := ⟨b, 10, none⟩) (.inl rfl) _).set (p := ⟨b, 11, none⟩) (.inl rfl) _).set (p := ⟨b, 12, none⟩) (.inl rfl) _⟩ ?_
              rintro W9 ⟨b9, hu9⟩
              have o9 := own_grown HOWN.out hu9 (.inr (fun h => hgb.1 (by simpa [Value.ownBlock] using h)))
              have m9 := map_kept HMAP.out hu9 (fun h => by injection h with h; exact hBM.out h.symm)
              have kp9 := HKP.out.upd hu9 (.inl (.inl rfl))
              have y9 := b9.cell 9
              have xb := HX8.out.grown hu9 (by intro h; injection h with h; omega)
              have x4' := xb.cell 4
              have x0' := xb.cell 0
              simp at y9 x0' x4'
              go_upto_region 6 with (fail)
              go_still_tail 6, (by kernel_rfl)
              change wpList _ _ _ _ _ W9.drew
              go_wp2_with (at_mapUpdate; refine wpList_mapUpdate_own _ rfl _ _ _ 53 rfl 3 3 intKey Tryd.underlying53 _ m k _ rfl (by exact m9) (by unfold maxLen; omega) _ _ _ rfl rfl HKEY.out _ [] (plainElem_int Tryd.underlying3 (by decide)) ?_; intro w10 hown10 hgrow10)
              refine bodyPost_end (results_none rfl _ _ _) rfl ?_
              exact ⟨rfl, _, k + 1, ⟨(Box.drew b9).grown hgrow10 (by intro h; injection h with h; exact hBM.out h), own_grown (w := W9.drew) o9 hgrow10 (.inr (fun h => hgb.2 (by simpa [Value.ownBlock] using h))), by rw [show (Evy.hear e ⟨heard, gone, true, true, false⟩ ⟨id, node, typ, capture, true, stops, all, true⟩ a).gone = gone ++ [id] from rfl, Seeny.seen_snoc]; exact hown10, hBB, hMB, hBM.out⟩, by omega, kp9.drew.grown hgrow10 (fun i hi => by injection hi with hi; exact .inl (.inr (.inl hi.symm))), fun i hi => by simp [Value.ownBlock] at hi; subst hi; exact HOR.out⟩
          | true =>
            go_upto_region 5 with (fail)
            refine gen_world (F := fun W9 => Box W9 b 62 (sg L e (.slice (some ⟨g7, 0, none⟩) (heard.length + 1) cap7) m (Evy.hear e ⟨heard, gone, true, true, true⟩ ⟨id, node, typ, capture, true, stops, all, prev⟩ a)) ∧ Upd W8 W9 b) ⟨((HB8.out.set 10 _).set 11 _).set 12 _, (((Upd.refl W8 b).set (p := ⟨b, 10, none⟩) (.inl rfl) _).set (p := ⟨b, 11, none⟩) (.inl rfl) _).set (p := ⟨b, 12, none⟩) (.inl rfl) _⟩ ?_
            rintro W9 ⟨b9, hu9⟩
            have o9 := own_grown HOWN.out hu9 (.inr (fun h => hgb.1 (by simpa [Value.ownBlock] using h)))
            have m9 := map_kept HMAP.out hu9 (fun h => by injection h with h; exact hBM.out h.symm)
            have kp9 := HKP.out.upd hu9 (.inl (.inl rfl))
            have y9 := b9.cell 9
            have xb := HX8.out.grown hu9 (by intro h; injection h with h; omega)
            have x4' := xb.cell 4
            have x0' := xb.cell 0
            simp at y9 x0' x4'
            go_upto_region 6 with (fail)
            go_still_tail 6, (by kernel_rfl)
            change wpList _ _ _ _ _ W9.drew
            go_wp2_with (at_mapUpdate; refine wpList_mapUpdate_own _ rfl _ _ _ 53 rfl 3 3 intKey Tryd.underlying53 _ m k _ rfl (by exact m9) (by unfold maxLen; omega) _ _ _ rfl rfl HKEY.out _ [] (plainElem_int Tryd.underlying3 (by decide)) ?_; intro w10 hown10 hgrow10)
            refine bodyPost_end (results_none rfl _ _ _) rfl ?_
            exact ⟨rfl, _, k + 1, ⟨(Box.drew b9).grown hgrow10 (by intro h; injection h with h; exact hBM.out h), own_grown (w := W9.drew) o9 hgrow10 (.inr (fun h => hgb.2 (by simpa [Value.ownBlock] using h))), by rw [show (Evy.hear e ⟨heard, gone, true, true, true⟩ ⟨id, node, typ, capture, true, stops, all, prev⟩ a).gone = gone ++ [id] from rfl, Seeny.seen_snoc]; exact hown10, hBB, hMB, hBM.out⟩, by omega, kp9.drew.grown hgrow10 (fun i hi => by injection hi with hi; exact .inl (.inr (.inl hi.symm))), fun i hi => by simp [Value.ownBlock] at hi; subst hi; exact HOR.out⟩
  · go_simp
    refine hK.out _ _ ⟨((below1 W (.cells (hc ⟨x.id, a.node, a.phase⟩) 46)).cell (p := ⟨w.heap.size, 0, none⟩) bx.lt).trans x0, ((below1 W (.cells (hc ⟨x.id, a.node, a.phase⟩) 46)).cell (p := ⟨w.heap.size + 1, 0, none⟩) ba.lt).trans a0, ((below1 W (.cells (hc ⟨x.id, a.node, a.phase⟩) 46)).cell (p := ⟨w.heap.size + 1, 1, none⟩) ba.lt).trans a1⟩ (fun hHeld => ?_)
    clear hK K
    (try simp only [Act.put, List.getElem_toArray, List.getElem_cons_succ, List.getElem_cons_zero, List.setIfInBounds_toArray, List.set_cons_zero, List.set_cons_succ])
    refine wpAnyH_ready (rs := [4]) (by kernel_rfl) (by simp) ?_
    refine AllReadyH.cons rfl (fun K hK => ?_) AllReadyH.nil
    go_simp
    refine hK.out _ _ ⟨((below1 W (.cells (hc ⟨x.id, a.node, a.phase⟩) 46)).cell (p := ⟨w.heap.size, 0, none⟩) bx.lt).trans x0, ((below1 W (.cells (hc ⟨x.id, a.node, a.phase⟩) 46)).cell (p := ⟨w.heap.size + 1, 0, none⟩) ba.lt).trans a0, ((below1 W (.cells (hc ⟨x.id, a.node, a.phase⟩) 46)).cell (p := ⟨w.heap.size + 1, 1, none⟩) ba.lt).trans a1⟩ (fun hHeld => ?_)
    clear hK K
    (try simp only [Act.put, List.getElem_toArray, List.getElem_cons_succ, List.getElem_cons_zero, List.setIfInBounds_toArray, List.set_cons_zero, List.set_cons_succ])
    refine wpAnyH_ready (rs := [13]) (by kernel_rfl) (by simp) ?_
    refine AllReadyH.cons rfl (fun K hK => ?_) AllReadyH.nil
    refine step_append_lies _ rfl (.tmp 10) (.tmp 18) 38 rfl B 46 i0 _ 3 24 Tryd.underlying38 hi0 hz0 hz1 hz2 rfl (by decide) (.slice A s.heard.length cap) s.heard.length (flat hc s.heard) (by simp [Act.eval, Act.put]) (by exact HO.out.alloc _) ⟨W.heap.size, 0, none⟩ 1 1 (hc ⟨x.id, a.node, a.phase⟩).toList (by simp [Act.eval, Act.put]) rfl (by exact World.news_of_block (Box.new W _ (hc ⟨x.id, a.node, a.phase⟩))) hj1.out (by omega) (by unfold maxLen; omega) (by omega) (by simp; omega) (W.heap.size + 1) (by simp) ?_
    intro g7 cap7 w7 hown7 hgr7 hor7 hlt7
    have hb7 : Box w7 b 62 (sg L e (.slice A s.heard.length cap) m s) := (Box.drew (HS1.out.box.alloc (.cells (hc ⟨x.id, a.node, a.phase⟩) 46))).grown hgr7 (fun h => (hne1.out b h.symm).1 rfl)
    have hx7 : Box w7 w.heap.size 43 (lc x) := (Box.drew (bx.alloc (.cells (hc ⟨x.id, a.node, a.phase⟩) 46))).grown hgr7 (fun h => by have := (hlts0.out _ h.symm); omega)
    have ha7 : Box w7 (w.heap.size + 1) 66 (sc a) := (Box.drew (ba.alloc (.cells (hc ⟨x.id, a.node, a.phase⟩) 46))).grown hgr7 (fun h => by have := (hlts0.out _ h.symm); omega)
    have r7 := hb7.cell 8
    have f7 := hb7.frozen 8
    simp at r7
    have n0 := hx7.cell 0
    have n1 := ha7.cell 0
    have n2 := ha7.cell 1
    simp at n0 n1 n2
    refine hK.out _ _ ⟨n0, n1, n2⟩ (fun hHeld => ?_)
    clear hK K
    (try simp only [Act.put, List.getElem_toArray, List.getElem_cons_succ, List.getElem_cons_zero, List.setIfInBounds_toArray, List.set_cons_zero, List.set_cons_succ])
    refine wpAnyH_take (i := 14) (v := ?_) rfl (by kernel_rfl) (by kernel_rfl) (by kernel_rfl) (fun _ _ _ h => h) (Or.inl ⟨by kernel_rfl, ?_⟩) (by assumption) ?_
    rotate_left
    · intro w hSw
      (try dsimp only at hSw)
      go_simp
      try (with_reducible rfl)
    (try simp only [Act.put, List.getElem_toArray, List.getElem_cons_succ, List.getElem_cons_zero, List.setIfInBounds_toArray, List.set_cons_zero, List.set_cons_succ])
    refine wpAnyH_take (i := 15) (v := ?_) rfl (by kernel_rfl) (by kernel_rfl) (by kernel_rfl) (fun _ _ _ h => h) (Or.inl ⟨by kernel_rfl, ?_⟩) (by assumption) ?_
    rotate_left
    · intro w hSw
      (try dsimp only at hSw)
      go_simp
      try (with_reducible rfl)
    (try simp only [Act.put, List.getElem_toArray, List.getElem_cons_succ, List.getElem_cons_zero, List.setIfInBounds_toArray, List.set_cons_zero, List.set_cons_succ])
    refine wpAnyH_ready (rs := [16]) (by kernel_rfl) (by simp) ?_
    refine AllReadyH.cons rfl (fun K hK => ?_) AllReadyH.nil
    go_simp
    have hu8 : Upd w7 (w7.setCell ⟨b, 8, none⟩ (.slice (some ⟨g7, 0, none⟩) (s.heard.length + 1) cap7)) b := (Upd.refl w7 b).set (p := ⟨b, 8, none⟩) (.inl rfl) _
    have hx8 := hx7.grown hu8 (by intro h; injection h with h; omega)
    have ha8 := ha7.grown hu8 (by intro h; injection h with h; omega)
    have k0 := hx8.cell 0
    have k1 := ha8.cell 0
    have k2 := ha8.cell 1
    simp at k0 k1 k2
    refine hK.out _ _ ⟨k0, k1, k2⟩ (fun hHeld => ?_)
    clear hK K
    (try simp only [Act.put, List.getElem_toArray, List.getElem_cons_succ, List.getElem_cons_zero, List.setIfInBounds_toArray, List.set_cons_zero, List.set_cons_succ])
    refine wpAnyH_done (by kernel_rfl) ?_ _
    have hb8 : Box (w7.setCell ⟨b, 8, none⟩ (.slice (some ⟨g7, 0, none⟩) (s.heard.length + 1) cap7)) b 62 (sg L e (.slice (some ⟨g7, 0, none⟩) (s.heard.length + 1) cap7) m s) := hb7.set 8 _
    have hgb : g7 ≠ b ∧ g7 ≠ m := hor7.elim (fun h => ⟨(hne1.out _ h).1, (hne1.out _ h).2.1⟩) (fun h => ⟨by omega, by have := HS1.out.mB; omega⟩)
    have hown8 := own_grown hown7 hu8 (.inr (by intro h; injection h with h; exact hgb.1 h))
    have hmap8 : (w7.setCell ⟨b, 8, none⟩ (.slice (some ⟨g7, 0, none⟩) (s.heard.length + 1) cap7)).ownsMap Tryd.prog 3 (plainElem (H := Unit) Tryd.prog 3) m k (Seeny.seen s.gone) := map_kept (map_kept (HS1.out.below (below1 W (.cells (hc ⟨x.id, a.node, a.phase⟩) 46)).drew).map hgr7 (fun h => (hne1.out m h.symm).2.1 rfl)) hu8 (fun h => by injection h with h; exact HS1.out.bm h.symm)
    have hkp8 : Kp w (w7.setCell ⟨b, 8, none⟩ (.slice (some ⟨g7, 0, none⟩) (s.heard.length + 1) cap7)) (sm b m (.slice A s.heard.length cap)) := (((Kp.of_below hU).trans (Kp.of_below (m := fun _ => False) (below1 W (.cells (hc ⟨x.id, a.node, a.phase⟩) 46))) (fun i h => h.elim)).drew.grown hgr7 (fun i h => .inl (.inr (.inr h)))).upd hu8 (.inl (.inl rfl))
    have hor8 : (Value.slice A s.heard.length cap).ownBlock = some g7 ∨ w.heap.size ≤ g7 := hor7.imp id (fun h => by have := hU.size; omega)
    generalize (w7.setCell ⟨b, 8, none⟩ (.slice (some ⟨g7, 0, none⟩) (s.heard.length + 1) cap7)) = W8 at *
    have hown9 : W8.ownsRow B 46 3 (.slice (some ⟨g7, 0, none⟩) (s.heard.length + 1) cap7) (s.heard ++ [(⟨x.id, a.node, a.phase⟩ : Evy.Hrd)]).length (flat hc (s.heard ++ [(⟨x.id, a.node, a.phase⟩ : Evy.Hrd)])) := by rw [List.length_append, flat_append]; simpa [flat] using hown8
    have HOWN := Lib.hid hown9
    have HMAP := Lib.hid hmap8
    have HKP := Lib.hid hkp8
    have HOR := Lib.hid hor8
    have HX8 := Lib.hid hx8
    have HB8 := Lib.hid hb8
    have hBB := HS1.out.bB
    have hMB := HS1.out.mB
    have hBM := Lib.hid HS1.out.bm
    clear r7 f7 n0 n1 n2 k0 k1 k2 hHeld hu8 hb7 hx7 ha7 ha8 hx8 hb8 hown7 hgr7 hor7 hown8 hown9 hmap8 hkp8 hor8 HS HS1 HO hlts hne1 hlts0 c8 f8 x0 a0 a1 bx ba
    obtain ⟨heard, gone, st, al, no⟩ := s
    obtain ⟨id, node, typ, capture, once, stops, all, prev⟩ := x
    have c10 := HB8.out.cell 10
    have f10 := HB8.out.frozen 10
    have c11 := HB8.out.cell 11
    have f11 := HB8.out.frozen 11
    have c12 := HB8.out.cell 12
    have f12 := HB8.out.frozen 12
    have x0 := HX8.out.cell 0
    have x4 := HX8.out.cell 4
    have x5 := HX8.out.cell 5
    have x6 := HX8.out.cell 6
    have x7 := HX8.out.cell 7
    have e7 := HB8.out.cell 7
    have e9 := HB8.out.cell 9
    simp at c10 c11 c12 x0 x4 x5 x6 x7 e7 e9
    have hkey := keyOf_int_mk (P := Tryd.prog) Tryd.underlying3 hw
    have HKEY := Lib.hid hkey
    clear hkey
    cases once with
    | false =>
      cases st with
      | false =>
        cases al with
        | false =>
          cases no with
          | false =>
            cases prev with
            | false =>
              go_upto_region 5 with (fail)
              refine gen_world (F := fun W9 => Box W9 b 62 (sg L e (.slice (some ⟨g7, 0, none⟩) (heard.length + 1) cap7) m (Evy.hear e ⟨heard, gone, false, false, false⟩ ⟨id, node, typ, capture, false, stops, all, false⟩ a)) ∧ Upd W8 W9 b) ⟨((HB8.out.set 10 _).set 11 _).set 12 _, (((Upd.refl W8 b).set (p := ⟨b, 10, none⟩) (.inl rfl) _).set (p := ⟨b, 11, none⟩) (.inl rfl) _).set (p := ⟨b, 12, none⟩) (.inl rfl) _⟩ ?_
              rintro W9 ⟨b9, hu9⟩
              have o9 := own_grown HOWN.out hu9 (.inr (fun h => hgb.1 (by simpa [Value.ownBlock] using h)))
              have m9 := map_kept HMAP.out hu9 (fun h => by injection h with h; exact hBM.out h.symm)
              have kp9 := HKP.out.upd hu9 (.inl (.inl rfl))
              have x4' := (HX8.out.grown hu9 (by intro h; injection h with h; omega)).cell 4
              simp at x4'
              go_wp2
              refine bodyPost_end (results_none rfl _ _ _) rfl ?_
              exact ⟨rfl, _, k, ⟨b9, o9, m9, hBB, hMB, hBM.out⟩, by omega, kp9, fun i hi => by simp [Value.ownBlock] at hi; subst hi; exact HOR.out⟩
            | true =>
              go_upto_region 5 with (fail)
              refine gen_world (F := fun W9 => Box W9 b 62 (sg L e (.slice (some ⟨g7, 0, none⟩) (heard.length + 1) cap7) m (Evy.hear e ⟨heard, gone, false, false, false⟩ ⟨id, node, typ, capture, false, stops, all, true⟩ a)) ∧ Upd W8 W9 b) ⟨((HB8.out.set 10 _).set 11 _).set 12 _, (((Upd.refl W8 b).set (p := ⟨b, 10, none⟩) (.inl rfl) _).set (p := ⟨b, 11, none⟩) (.inl rfl) _).set (p := ⟨b, 12, none⟩) (.inl rfl) _⟩ ?_
              rintro W9 ⟨b9, hu9⟩
              have o9 := own_grown HOWN.out hu9 (.inr (fun h => hgb.1 (by simpa [Value.ownBlock] using h)))
              have m9 := map_kept HMAP.out hu9 (fun h => by injection h with h; exact hBM.out h.symm)
              have kp9 := HKP.out.upd hu9 (.inl (.inl rfl))
              have x4' := (HX8.out.grown hu9 (by intro h; injection h with h; omega)).cell 4
              simp at x4'
              go_wp2
              refine bodyPost_end (results_none rfl _ _ _) rfl ?_
              exact ⟨rfl, _, k, ⟨b9, o9, m9, hBB, hMB, hBM.out⟩, by omega, kp9, fun i hi => by simp [Value.ownBlock] at hi; subst hi; exact HOR.out⟩
          | true =>
            go_upto_region 5 with (fail)
            refine gen_world (F := fun W9 => Box W9 b 62 (sg L e (.slice (some ⟨g7, 0, none⟩) (heard.length + 1) cap7) m (Evy.hear e ⟨heard, gone, false, false, true⟩ ⟨id, node, typ, capture, false, stops, all, prev⟩ a)) ∧ Upd W8 W9 b) ⟨((HB8.out.set 10 _).set 11 _).set 12 _, (((Upd.refl W8 b).set (p := ⟨b, 10, none⟩) (.inl rfl) _).set (p := ⟨b, 11, none⟩) (.inl rfl) _).set (p := ⟨b, 12, none⟩) (.inl rfl) _⟩ ?_
            rintro W9 ⟨b9, hu9⟩
            have o9 := own_grown HOWN.out hu9 (.inr (fun h => hgb.1 (by simpa [Value.ownBlock] using h)))
            have m9 := map_kept HMAP.out hu9 (fun h => by injection h with h; exact hBM.out h.symm)
            have kp9 := HKP.out.upd hu9 (.inl (.inl rfl))
            have x4' := (HX8.out.grown hu9 (by intro h; injection h with h; omega)).cell 4
            simp at x4'
            go_wp2
            refine bodyPost_end (results_none rfl _ _ _) rfl ?_
            exact ⟨rfl, _, k, ⟨b9, o9, m9, hBB, hMB, hBM.out⟩, by omega, kp9, fun i hi => by simp [Value.ownBlock] at hi; subst hi; exact HOR.out⟩
        | true =>
          cases no with
          | false =>
            cases prev with
            | false =>
              go_upto_region 5 with (fail)
              refine gen_world (F := fun W9 => Box W9 b 62 (sg L e (.slice (some ⟨g7, 0, none⟩) (heard.length + 1) cap7) m (Evy.hear e ⟨heard, gone, false, true, false⟩ ⟨id, node, typ, capture, false, stops, all, false⟩ a)) ∧ Upd W8 W9 b) ⟨((HB8.out.set 10 _).set 11 _).set 12 _, (((Upd.refl W8 b).set (p := ⟨b, 10, none⟩) (.inl rfl) _).set (p := ⟨b, 11, none⟩) (.inl rfl) _).set (p := ⟨b, 12, none⟩) (.inl rfl) _⟩ ?_
              rintro W9 ⟨b9, hu9⟩
              have o9 := own_grown HOWN.out hu9 (.inr (fun h => hgb.1 (by simpa [Value.ownBlock] using h)))
              have m9 := map_kept HMAP.out hu9 (fun h => by injection h with h; exact hBM.out h.symm)
              have kp9 := HKP.out.upd hu9 (.inl (.inl rfl))
              have x4' := (HX8.out.grown hu9 (by intro h; injection h with h; omega)).cell 4
              simp at x4'
              go_wp2
              refine bodyPost_end (results_none rfl _ _ _) rfl ?_
              exact ⟨rfl, _, k, ⟨b9, o9, m9, hBB, hMB, hBM.out⟩, by omega, kp9, fun i hi => by simp [Value.ownBlock] at hi; subst hi; exact HOR.out⟩
            | true =>
              go_upto_region 5 with (fail)
              refine gen_world (F := fun W9 => Box W9 b 62 (sg L e (.slice (some ⟨g7, 0, none⟩) (heard.length + 1) cap7) m (Evy.hear e ⟨heard, gone, false, true, false⟩ ⟨id, node, typ, capture, false, stops, all, true⟩ a)) ∧ Upd W8 W9 b) ⟨((HB8.out.set 10 _).set 11 _).set 12 _, (((Upd.refl W8 b).set (p := ⟨b, 10, none⟩) (.inl rfl) _).set (p := ⟨b, 11, none⟩) (.inl rfl) _).set (p := ⟨b, 12, none⟩) (.inl rfl) _⟩ ?_
              rintro W9 ⟨b9, hu9⟩
              have o9 := own_grown HOWN.out hu9 (.inr (fun h => hgb.1 (by simpa [Value.ownBlock] using h)))
              have m9 := map_kept HMAP.out hu9 (fun h => by injection h with h; exact hBM.out h.symm)
              have kp9 := HKP.out.upd hu9 (.inl (.inl rfl))
              have x4' := (HX8.out.grown hu9 (by intro h; injection h with h; omega)).cell 4
              simp at x4'
              go_wp2
              refine bodyPost_end (results_none rfl _ _ _) rfl ?_
              exact ⟨rfl, _, k, ⟨b9, o9, m9, hBB, hMB, hBM.out⟩, by omega, kp9, fun i hi => by simp [Value.ownBlock] at hi; subst hi; exact HOR.out⟩
          | true =>
            go_upto_region 5 with (fail)
            refine gen_world (F := fun W9 => Box W9 b 62 (sg L e (.slice (some ⟨g7, 0, none⟩) (heard.length + 1) cap7) m (Evy.hear e ⟨heard, gone, false, true, true⟩ ⟨id, node, typ, capture, false, stops, all, prev⟩ a)) ∧ Upd W8 W9 b) ⟨((HB8.out.set 10 _).set 11 _).set 12 _, (((Upd.refl W8 b).set (p := ⟨b, 10, none⟩) (.inl rfl) _).set (p := ⟨b, 11, none⟩) (.inl rfl) _).set (p := ⟨b, 12, none⟩) (.inl rfl) _⟩ ?_
            rintro W9 ⟨b9, hu9⟩
            have o9 := own_grown HOWN.out hu9 (.inr (fun h => hgb.1 (by simpa [Value.ownBlock] using h)))
            have m9 := map_kept HMAP.out hu9 (fun h => by injection h with h; exact hBM.out h.symm)
            have kp9 := HKP.out.upd hu9 (.inl (.inl rfl))
            have x4' := (HX8.out.grown hu9 (by intro h; injection h with h; omega)).cell 4
            simp at x4'
            go_wp2
            refine bodyPost_end (results_none rfl _ _ _) rfl ?_
            exact ⟨rfl, _, k, ⟨b9, o9, m9, hBB, hMB, hBM.out⟩, by omega, kp9, fun i hi => by simp [Value.ownBlock] at hi; subst hi; exact HOR.out⟩
      | true =>
        cases al with
        | false =>
          cases no with
          | false =>
            cases prev with
            | false =>
              go_upto_region 5 with (fail)
              refine gen_world (F := fun W9 => Box W9 b 62 (sg L e (.slice (some ⟨g7, 0, none⟩) (heard.length + 1) cap7) m (Evy.hear e ⟨heard, gone, true, false, false⟩ ⟨id, node, typ, capture, false, stops, all, false⟩ a)) ∧ Upd W8 W9 b) ⟨((HB8.out.set 10 _).set 11 _).set 12 _, (((Upd.refl W8 b).set (p := ⟨b, 10, none⟩) (.inl rfl) _).set (p := ⟨b, 11, none⟩) (.inl rfl) _).set (p := ⟨b, 12, none⟩) (.inl rfl) _⟩ ?_
              rintro W9 ⟨b9, hu9⟩
              have o9 := own_grown HOWN.out hu9 (.inr (fun h => hgb.1 (by simpa [Value.ownBlock] using h)))
              have m9 := map_kept HMAP.out hu9 (fun h => by injection h with h; exact hBM.out h.symm)
              have kp9 := HKP.out.upd hu9 (.inl (.inl rfl))
              have x4' := (HX8.out.grown hu9 (by intro h; injection h with h; omega)).cell 4
              simp at x4'
              go_wp2
              refine bodyPost_end (results_none rfl _ _ _) rfl ?_
              exact ⟨rfl, _, k, ⟨b9, o9, m9, hBB, hMB, hBM.out⟩, by omega, kp9, fun i hi => by simp [Value.ownBlock] at hi; subst hi; exact HOR.out⟩
            | true =>
              go_upto_region 5 with (fail)
              refine gen_world (F := fun W9 => Box W9 b 62 (sg L e (.slice (some ⟨g7, 0, none⟩) (heard.length + 1) cap7) m (Evy.hear e ⟨heard, gone, true, false, false⟩ ⟨id, node, typ, capture, false, stops, all, true⟩ a)) ∧ Upd W8 W9 b) ⟨((HB8.out.set 10 _).set 11 _).set 12 _, (((Upd.refl W8 b).set (p := ⟨b, 10, none⟩) (.inl rfl) _).set (p := ⟨b, 11, none⟩) (.inl rfl) _).set (p := ⟨b, 12, none⟩) (.inl rfl) _⟩ ?_
              rintro W9 ⟨b9, hu9⟩
              have o9 := own_grown HOWN.out hu9 (.inr (fun h => hgb.1 (by simpa [Value.ownBlock] using h)))
              have m9 := map_kept HMAP.out hu9 (fun h => by injection h with h; exact hBM.out h.symm)
              have kp9 := HKP.out.upd hu9 (.inl (.inl rfl))
              have x4' := (HX8.out.grown hu9 (by intro h; injection h with h; omega)).cell 4
              simp at x4'
              go_wp2
              refine bodyPost_end (results_none rfl _ _ _) rfl ?_
              exact ⟨rfl, _, k, ⟨b9, o9, m9, hBB, hMB, hBM.out⟩, by omega, kp9, fun i hi => by simp [Value.ownBlock] at hi; subst hi; exact HOR.out⟩
          | true =>
            go_upto_region 5 with (fail)
            refine gen_world (F := fun W9 => Box W9 b 62 (sg L e (.slice (some ⟨g7, 0, none⟩) (heard.length + 1) cap7) m (Evy.hear e ⟨heard, gone, true, false, true⟩ ⟨id, node, typ, capture, false, stops, all, prev⟩ a)) ∧ Upd W8 W9 b) ⟨((HB8.out.set 10 _).set 11 _).set 12 _, (((Upd.refl W8 b).set (p := ⟨b, 10, none⟩) (.inl rfl) _).set (p := ⟨b, 11, none⟩) (.inl rfl) _).set (p := ⟨b, 12, none⟩) (.inl rfl) _⟩ ?_
            rintro W9 ⟨b9, hu9⟩
            have o9 := own_grown HOWN.out hu9 (.inr (fun h => hgb.1 (by simpa [Value.ownBlock] using h)))
            have m9 := map_kept HMAP.out hu9 (fun h => by injection h with h; exact hBM.out h.symm)
            have kp9 := HKP.out.upd hu9 (.inl (.inl rfl))
            have x4' := (HX8.out.grown hu9 (by intro h; injection h with h; omega)).cell 4
            simp at x4'
            go_wp2
            refine bodyPost_end (results_none rfl _ _ _) rfl ?_
            exact ⟨rfl, _, k, ⟨b9, o9, m9, hBB, hMB, hBM.out⟩, by omega, kp9, fun i hi => by simp [Value.ownBlock] at hi; subst hi; exact HOR.out⟩
        | true =>
          cases no with
          | false =>
            cases prev with
            | false =>
              go_upto_region 5 with (fail)
              refine gen_world (F := fun W9 => Box W9 b 62 (sg L e (.slice (some ⟨g7, 0, none⟩) (heard.length + 1) cap7) m (Evy.hear e ⟨heard, gone, true, true, false⟩ ⟨id, node, typ, capture, false, stops, all, false⟩ a)) ∧ Upd W8 W9 b) ⟨((HB8.out.set 10 _).set 11 _).set 12 _, (((Upd.refl W8 b).set (p := ⟨b, 10, none⟩) (.inl rfl) _).set (p := ⟨b, 11, none⟩) (.inl rfl) _).set (p := ⟨b, 12, none⟩) (.inl rfl) _⟩ ?_
              rintro W9 ⟨b9, hu9⟩
              have o9 := own_grown HOWN.out hu9 (.inr (fun h => hgb.1 (by simpa [Value.ownBlock] using h)))
              have m9 := map_kept HMAP.out hu9 (fun h => by injection h with h; exact hBM.out h.symm)
              have kp9 := HKP.out.upd hu9 (.inl (.inl rfl))
              have x4' := (HX8.out.grown hu9 (by intro h; injection h with h; omega)).cell 4
              simp at x4'
              go_wp2
              refine bodyPost_end (results_none rfl _ _ _) rfl ?_
              exact ⟨rfl, _, k, ⟨b9, o9, m9, hBB, hMB, hBM.out⟩, by omega, kp9, fun i hi => by simp [Value.ownBlock] at hi; subst hi; exact HOR.out⟩
            | true =>
              go_upto_region 5 with (fail)
              refine gen_world (F := fun W9 => Box W9 b 62 (sg L e (.slice (some ⟨g7, 0, none⟩) (heard.length + 1) cap7) m (Evy.hear e ⟨heard, gone, true, true, false⟩ ⟨id, node, typ, capture, false, stops, all, true⟩ a)) ∧ Upd W8 W9 b) ⟨((HB8.out.set 10 _).set 11 _).set 12 _, (((Upd.refl W8 b).set (p := ⟨b, 10, none⟩) (.inl rfl) _).set (p := ⟨b, 11, none⟩) (.inl rfl) _).set (p := ⟨b, 12, none⟩) (.inl rfl) _⟩ ?_
              rintro W9 ⟨b9, hu9⟩
              have o9 := own_grown HOWN.out hu9 (.inr (fun h => hgb.1 (by simpa [Value.ownBlock] using h)))
              have m9 := map_kept HMAP.out hu9 (fun h => by injection h with h; exact hBM.out h.symm)
              have kp9 := HKP.out.upd hu9 (.inl (.inl rfl))
              have x4' := (HX8.out.grown hu9 (by intro h; injection h with h; omega)).cell 4
              simp at x4'
              go_wp2
              refine bodyPost_end (results_none rfl _ _ _) rfl ?_
              exact ⟨rfl, _, k, ⟨b9, o9, m9, hBB, hMB, hBM.out⟩, by omega, kp9, fun i hi => by simp [Value.ownBlock] at hi; subst hi; exact HOR.out⟩
          | true =>
            go_upto_region 5 with (fail)
            refine gen_world (F := fun W9 => Box W9 b 62 (sg L e (.slice (some ⟨g7, 0, none⟩) (heard.length + 1) cap7) m (Evy.hear e ⟨heard, gone, true, true, true⟩ ⟨id, node, typ, capture, false, stops, all, prev⟩ a)) ∧ Upd W8 W9 b) ⟨((HB8.out.set 10 _).set 11 _).set 12 _, (((Upd.refl W8 b).set (p := ⟨b, 10, none⟩) (.inl rfl) _).set (p := ⟨b, 11, none⟩) (.inl rfl) _).set (p := ⟨b, 12, none⟩) (.inl rfl) _⟩ ?_
            rintro W9 ⟨b9, hu9⟩
            have o9 := own_grown HOWN.out hu9 (.inr (fun h => hgb.1 (by simpa [Value.ownBlock] using h)))
            have m9 := map_kept HMAP.out hu9 (fun h => by injection h with h; exact hBM.out h.symm)
            have kp9 := HKP.out.upd hu9 (.inl (.inl rfl))
            have x4' := (HX8.out.grown hu9 (by intro h; injection h with h; omega)).cell 4
            simp at x4'
            go_wp2
            refine bodyPost_end (results_none rfl _ _ _) rfl ?_
            exact ⟨rfl, _, k, ⟨b9, o9, m9, hBB, hMB, hBM.out⟩, by omega, kp9, fun i hi => by simp [Value.ownBlock] at hi; subst hi; exact HOR.out⟩
    | true =>
      cases st with
      | false =>
        cases al with
        | false =>
          cases no with
          | false =>
            cases prev with
            | false =>
              go_upto_region 5 with (fail)
              refine gen_world (F := fun W9 => Box W9 b 62 (sg L e (.slice (some ⟨g7, 0, none⟩) (heard.length + 1) cap7) m (Evy.hear e ⟨heard, gone, false, false, false⟩ ⟨id, node, typ, capture, true, stops, all, false⟩ a)) ∧ Upd W8 W9 b) ⟨((HB8.out.set 10 _).set 11 _).set 12 _, (((Upd.refl W8 b).set (p := ⟨b, 10, none⟩) (.inl rfl) _).set (p := ⟨b, 11, none⟩) (.inl rfl) _).set (p := ⟨b, 12, none⟩) (.inl rfl) _⟩ ?_
              rintro W9 ⟨b9, hu9⟩
              have o9 := own_grown HOWN.out hu9 (.inr (fun h => hgb.1 (by simpa [Value.ownBlock] using h)))
              have m9 := map_kept HMAP.out hu9 (fun h => by injection h with h; exact hBM.out h.symm)
              have kp9 := HKP.out.upd hu9 (.inl (.inl rfl))
              have y9 := b9.cell 9
              have xb := HX8.out.grown hu9 (by intro h; injection h with h; omega)
              have x4' := xb.cell 4
              have x0' := xb.cell 0
              simp at y9 x0' x4'
              go_upto_region 6 with (fail)
              go_still_tail 6, (by kernel_rfl)
              change wpList _ _ _ _ _ W9.drew
              go_wp2_with (at_mapUpdate; refine wpList_mapUpdate_own _ rfl _ _ _ 53 rfl 3 3 intKey Tryd.underlying53 _ m k _ rfl (by exact m9) (by unfold maxLen; omega) _ _ _ rfl rfl HKEY.out _ [] (plainElem_int Tryd.underlying3 (by decide)) ?_; intro w10 hown10 hgrow10)
              refine bodyPost_end (results_none rfl _ _ _) rfl ?_
              exact ⟨rfl, _, k + 1, ⟨(Box.drew b9).grown hgrow10 (by intro h; injection h with h; exact hBM.out h), own_grown (w := W9.drew) o9 hgrow10 (.inr (fun h => hgb.2 (by simpa [Value.ownBlock] using h))), by rw [show (Evy.hear e ⟨heard, gone, false, false, false⟩ ⟨id, node, typ, capture, true, stops, all, false⟩ a).gone = gone ++ [id] from rfl, Seeny.seen_snoc]; exact hown10, hBB, hMB, hBM.out⟩, by omega, kp9.drew.grown hgrow10 (fun i hi => by injection hi with hi; exact .inl (.inr (.inl hi.symm))), fun i hi => by simp [Value.ownBlock] at hi; subst hi; exact HOR.out⟩
            | true =>
              go_upto_region 5 with (fail)
              refine gen_world (F := fun W9 => Box W9 b 62 (sg L e (.slice (some ⟨g7, 0, none⟩) (heard.length + 1) cap7) m (Evy.hear e ⟨heard, gone, false, false, false⟩ ⟨id, node, typ, capture, true, stops, all, true⟩ a)) ∧ Upd W8 W9 b) ⟨((HB8.out.set 10 _).set 11 _).set 12 _, (((Upd.refl W8 b).set (p := ⟨b, 10, none⟩) (.inl rfl) _).set (p := ⟨b, 11, none⟩) (.inl rfl) _).set (p := ⟨b, 12, none⟩) (.inl rfl) _⟩ ?_
              rintro W9 ⟨b9, hu9⟩
              have o9 := own_grown HOWN.out hu9 (.inr (fun h => hgb.1 (by simpa [Value.ownBlock] using h)))
              have m9 := map_kept HMAP.out hu9 (fun h => by injection h with h; exact hBM.out h.symm)
              have kp9 := HKP.out.upd hu9 (.inl (.inl rfl))
              have y9 := b9.cell 9
              have xb := HX8.out.grown hu9 (by intro h; injection h with h; omega)
              have x4' := xb.cell 4
              have x0' := xb.cell 0
              simp at y9 x0' x4'
              go_upto_region 6 with (fail)
              go_still_tail 6, (by kernel_rfl)
              change wpList _ _ _ _ _ W9.drew
              go_wp2_with (at_mapUpdate; refine wpList_mapUpdate_own _ rfl _ _ _ 53 rfl 3 3 intKey Tryd.underlying53 _ m k _ rfl (by exact m9) (by unfold maxLen; omega) _ _ _ rfl rfl HKEY.out _ [] (plainElem_int Tryd.underlying3 (by decide)) ?_; intro w10 hown10 hgrow10)
              refine bodyPost_end (results_none rfl _ _ _) rfl ?_
              exact ⟨rfl, _, k + 1, ⟨(Box.drew b9).grown hgrow10 (by intro h; injection h with h; exact hBM.out h), own_grown (w := W9.drew) o9 hgrow10 (.inr (fun h => hgb.2 (by simpa [Value.ownBlock] using h))), by rw [show (Evy.hear e ⟨heard, gone, false, false, false⟩ ⟨id, node, typ, capture, true, stops, all, true⟩ a).gone = gone ++ [id] from rfl, Seeny.seen_snoc]; exact hown10, hBB, hMB, hBM.out⟩, by omega, kp9.drew.grown hgrow10 (fun i hi => by injection hi with hi; exact .inl (.inr (.inl hi.symm))), fun i hi => by simp [Value.ownBlock] at hi; subst hi; exact HOR.out⟩
          | true =>
            go_upto_region 5 with (fail)
            refine gen_world (F := fun W9 => Box W9 b 62 (sg L e (.slice (some ⟨g7, 0, none⟩) (heard.length + 1) cap7) m (Evy.hear e ⟨heard, gone, false, false, true⟩ ⟨id, node, typ, capture, true, stops, all, prev⟩ a)) ∧ Upd W8 W9 b) ⟨((HB8.out.set 10 _).set 11 _).set 12 _, (((Upd.refl W8 b).set (p := ⟨b, 10, none⟩) (.inl rfl) _).set (p := ⟨b, 11, none⟩) (.inl rfl) _).set (p := ⟨b, 12, none⟩) (.inl rfl) _⟩ ?_
            rintro W9 ⟨b9, hu9⟩
            have o9 := own_grown HOWN.out hu9 (.inr (fun h => hgb.1 (by simpa [Value.ownBlock] using h)))
            have m9 := map_kept HMAP.out hu9 (fun h => by injection h with h; exact hBM.out h.symm)
            have kp9 := HKP.out.upd hu9 (.inl (.inl rfl))
            have y9 := b9.cell 9
            have xb := HX8.out.grown hu9 (by intro h; injection h with h; omega)
            have x4' := xb.cell 4
            have x0' := xb.cell 0
            simp at y9 x0' x4'
            go_upto_region 6 with (fail)
            go_still_tail 6, (by kernel_rfl)
            change wpList _ _ _ _ _ W9.drew
            go_wp2_with (at_mapUpdate; refine wpList_mapUpdate_own _ rfl _ _ _ 53 rfl 3 3 intKey Tryd.underlying53 _ m k _ rfl (by exact m9) (by unfold maxLen; omega) _ _ _ rfl rfl HKEY.out _ [] (plainElem_int Tryd.underlying3 (by decide)) ?_; intro w10 hown10 hgrow10)
            refine bodyPost_end (results_none rfl _ _ _) rfl ?_
            exact ⟨rfl, _, k + 1, ⟨(Box.drew b9).grown hgrow10 (by intro h; injection h with h; exact hBM.out h), own_grown (w := W9.drew) o9 hgrow10 (.inr (fun h => hgb.2 (by simpa [Value.ownBlock] using h))), by rw [show (Evy.hear e ⟨heard, gone, false, false, true⟩ ⟨id, node, typ, capture, true, stops, all, prev⟩ a).gone = gone ++ [id] from rfl, Seeny.seen_snoc]; exact hown10, hBB, hMB, hBM.out⟩, by omega, kp9.drew.grown hgrow10 (fun i hi => by injection hi with hi; exact .inl (.inr (.inl hi.symm))), fun i hi => by simp [Value.ownBlock] at hi; subst hi; exact HOR.out⟩
        | true =>
          cases no with
          | false =>
            cases prev with
            | false =>
              go_upto_region 5 with (fail)
              refine gen_world (F := fun W9 => Box W9 b 62 (sg L e (.slice (some ⟨g7, 0, none⟩) (heard.length + 1) cap7) m (Evy.hear e ⟨heard, gone, false, true, false⟩ ⟨id, node, typ, capture, true, stops, all, false⟩ a)) ∧ Upd W8 W9 b) ⟨((HB8.out.set 10 _).set 11 _).set 12 _, (((Upd.refl W8 b).set (p := ⟨b, 10, none⟩) (.inl rfl) _).set (p := ⟨b, 11, none⟩) (.inl rfl) _).set (p := ⟨b, 12, none⟩) (.inl rfl) _⟩ ?_
              rintro W9 ⟨b9, hu9⟩
              have o9 := own_grown HOWN.out hu9 (.inr (fun h => hgb.1 (by simpa [Value.ownBlock] using h)))
              have m9 := map_kept HMAP.out hu9 (fun h => by injection h with h; exact hBM.out h.symm)
              have kp9 := HKP.out.upd hu9 (.inl (.inl rfl))
              have y9 := b9.cell 9
              have xb := HX8.out.grown hu9 (by intro h; injection h with h; omega)
              have x4' := xb.cell 4
              have x0' := xb.cell 0
              simp at y9 x0' x4'
              go_upto_region 6 with (fail)
              go_still_tail 6, (by kernel_rfl)
              change wpList _ _ _ _ _ W9.drew
              go_wp2_with (at_mapUpdate; refine wpList_mapUpdate_own _ rfl _ _ _ 53 rfl 3 3 intKey Tryd.underlying53 _ m k _ rfl (by exact m9) (by unfold maxLen; omega) _ _ _ rfl rfl HKEY.out _ [] (plainElem_int Tryd.underlying3 (by decide)) ?_; intro w10 hown10 hgrow10)
              refine bodyPost_end (results_none rfl _ _ _) rfl ?_
              exact ⟨rfl, _, k + 1, ⟨(Box.drew b9).grown hgrow10 (by intro h; injection h with h; exact hBM.out h), own_grown (w := W9.drew) o9 hgrow10 (.inr (fun h => hgb.2 (by simpa [Value.ownBlock] using h))), by rw [show (Evy.hear e ⟨heard, gone, false, true, false⟩ ⟨id, node, typ, capture, true, stops, all, false⟩ a).gone = gone ++ [id] from rfl, Seeny.seen_snoc]; exact hown10, hBB, hMB, hBM.out⟩, by omega, kp9.drew.grown hgrow10 (fun i hi => by injection hi with hi; exact .inl (.inr (.inl hi.symm))), fun i hi => by simp [Value.ownBlock] at hi; subst hi; exact HOR.out⟩
            | true =>
              go_upto_region 5 with (fail)
              refine gen_world (F := fun W9 => Box W9 b 62 (sg L e (.slice (some ⟨g7, 0, none⟩) (heard.length + 1) cap7) m (Evy.hear e ⟨heard, gone, false, true, false⟩ ⟨id, node, typ, capture, true, stops, all, true⟩ a)) ∧ Upd W8 W9 b) ⟨((HB8.out.set 10 _).set 11 _).set 12 _, (((Upd.refl W8 b).set (p := ⟨b, 10, none⟩) (.inl rfl) _).set (p := ⟨b, 11, none⟩) (.inl rfl) _).set (p := ⟨b, 12, none⟩) (.inl rfl) _⟩ ?_
              rintro W9 ⟨b9, hu9⟩
              have o9 := own_grown HOWN.out hu9 (.inr (fun h => hgb.1 (by simpa [Value.ownBlock] using h)))
              have m9 := map_kept HMAP.out hu9 (fun h => by injection h with h; exact hBM.out h.symm)
              have kp9 := HKP.out.upd hu9 (.inl (.inl rfl))
              have y9 := b9.cell 9
              have xb := HX8.out.grown hu9 (by intro h; injection h with h; omega)
              have x4' := xb.cell 4
              have x0' := xb.cell 0
              simp at y9 x0' x4'
              go_upto_region 6 with (fail)
              go_still_tail 6, (by kernel_rfl)
              change wpList _ _ _ _ _ W9.drew
              go_wp2_with (at_mapUpdate; refine wpList_mapUpdate_own _ rfl _ _ _ 53 rfl 3 3 intKey Tryd.underlying53 _ m k _ rfl (by exact m9) (by unfold maxLen; omega) _ _ _ rfl rfl HKEY.out _ [] (plainElem_int Tryd.underlying3 (by decide)) ?_; intro w10 hown10 hgrow10)
              refine bodyPost_end (results_none rfl _ _ _) rfl ?_
              exact ⟨rfl, _, k + 1, ⟨(Box.drew b9).grown hgrow10 (by intro h; injection h with h; exact hBM.out h), own_grown (w := W9.drew) o9 hgrow10 (.inr (fun h => hgb.2 (by simpa [Value.ownBlock] using h))), by rw [show (Evy.hear e ⟨heard, gone, false, true, false⟩ ⟨id, node, typ, capture, true, stops, all, true⟩ a).gone = gone ++ [id] from rfl, Seeny.seen_snoc]; exact hown10, hBB, hMB, hBM.out⟩, by omega, kp9.drew.grown hgrow10 (fun i hi => by injection hi with hi; exact .inl (.inr (.inl hi.symm))), fun i hi => by simp [Value.ownBlock] at hi; subst hi; exact HOR.out⟩
          | true =>
            go_upto_region 5 with (fail)
            refine gen_world (F := fun W9 => Box W9 b 62 (sg L e (.slice (some ⟨g7, 0, none⟩) (heard.length + 1) cap7) m (Evy.hear e ⟨heard, gone, false, true, true⟩ ⟨id, node, typ, capture, true, stops, all, prev⟩ a)) ∧ Upd W8 W9 b) ⟨((HB8.out.set 10 _).set 11 _).set 12 _, (((Upd.refl W8 b).set (p := ⟨b, 10, none⟩) (.inl rfl) _).set (p := ⟨b, 11, none⟩) (.inl rfl) _).set (p := ⟨b, 12, none⟩) (.inl rfl) _⟩ ?_
            rintro W9 ⟨b9, hu9⟩
            have o9 := own_grown HOWN.out hu9 (.inr (fun h => hgb.1 (by simpa [Value.ownBlock] using h)))
            have m9 := map_kept HMAP.out hu9 (fun h => by injection h with h; exact hBM.out h.symm)
            have kp9 := HKP.out.upd hu9 (.inl (.inl rfl))
            have y9 := b9.cell 9
            have xb := HX8.out.grown hu9 (by intro h; injection h with h; omega)
            have x4' := xb.cell 4
            have x0' := xb.cell 0
            simp at y9 x0' x4'
            go_upto_region 6 with (fail)
            go_still_tail 6, (by kernel_rfl)
            change wpList _ _ _ _ _ W9.drew
            go_wp2_with (at_mapUpdate; refine wpList_mapUpdate_own _ rfl _ _ _ 53 rfl 3 3 intKey Tryd.underlying53 _ m k _ rfl (by exact m9) (by unfold maxLen; omega) _ _ _ rfl rfl HKEY.out _ [] (plainElem_int Tryd.underlying3 (by decide)) ?_; intro w10 hown10 hgrow10)
            refine bodyPost_end (results_none rfl _ _ _) rfl ?_
            exact ⟨rfl, _, k + 1, ⟨(Box.drew b9).grown hgrow10 (by intro h; injection h with h; exact hBM.out h), own_grown (w := W9.drew) o9 hgrow10 (.inr (fun h => hgb.2 (by simpa [Value.ownBlock] using h))), by rw [show (Evy.hear e ⟨heard, gone, false, true, true⟩ ⟨id, node, typ, capture, true, stops, all, prev⟩ a).gone = gone ++ [id] from rfl, Seeny.seen_snoc]; exact hown10, hBB, hMB, hBM.out⟩, by omega, kp9.drew.grown hgrow10 (fun i hi => by injection hi with hi; exact .inl (.inr (.inl hi.symm))), fun i hi => by simp [Value.ownBlock] at hi; subst hi; exact HOR.out⟩
      | true =>
        cases al with
        | false =>
          cases no with
          | false =>
            cases prev with
            | false =>
              go_upto_region 5 with (fail)
              refine gen_world (F := fun W9 => Box W9 b 62 (sg L e (.slice (some ⟨g7, 0, none⟩) (heard.length + 1) cap7) m (Evy.hear e ⟨heard, gone, true, false, false⟩ ⟨id, node, typ, capture, true, stops, all, false⟩ a)) ∧ Upd W8 W9 b) ⟨((HB8.out.set 10 _).set 11 _).set 12 _, (((Upd.refl W8 b).set (p := ⟨b, 10, none⟩) (.inl rfl) _).set (p := ⟨b, 11, none⟩) (.inl rfl) _).set (p := ⟨b, 12, none⟩) (.inl rfl) _⟩ ?_
              rintro W9 ⟨b9, hu9⟩
              have o9 := own_grown HOWN.out hu9 (.inr (fun h => hgb.1 (by simpa [Value.ownBlock] using h)))
              have m9 := map_kept HMAP.out hu9 (fun h => by injection h with h; exact hBM.out h.symm)
              have kp9 := HKP.out.upd hu9 (.inl (.inl rfl))
              have y9 := b9.cell 9
              have xb := HX8.out.grown hu9 (by intro h; injection h with h; omega)
              have x4' := xb.cell 4
              have x0' := xb.cell 0
              simp at y9 x0' x4'
              go_upto_region 6 with (fail)
              go_still_tail 6, (by kernel_rfl)
              change wpList _ _ _ _ _ W9.drew
              go_wp2_with (at_mapUpdate; refine wpList_mapUpdate_own _ rfl _ _ _ 53 rfl 3 3 intKey Tryd.underlying53 _ m k _ rfl (by exact m9) (by unfold maxLen; omega) _ _ _ rfl rfl HKEY.out _ [] (plainElem_int Tryd.underlying3 (by decide)) ?_; intro w10 hown10 hgrow10)
              refine bodyPost_end (results_none rfl _ _ _) rfl ?_
              exact ⟨rfl, _, k + 1, ⟨(Box.drew b9).grown hgrow10 (by intro h; injection h with h; exact hBM.out h), own_grown (w := W9.drew) o9 hgrow10 (.inr (fun h => hgb.2 (by simpa [Value.ownBlock] using h))), by rw [show (Evy.hear e ⟨heard, gone, true, false, false⟩ ⟨id, node, typ, capture, true, stops, all, false⟩ a).gone = gone ++ [id] from rfl, Seeny.seen_snoc]; exact hown10, hBB, hMB, hBM.out⟩, by omega, kp9.drew.grown hgrow10 (fun i hi => by injection hi with hi; exact .inl (.inr (.inl hi.symm))), fun i hi => by simp [Value.ownBlock] at hi; subst hi; exact HOR.out⟩
            | true =>
              go_upto_region 5 with (fail)
              refine gen_world (F := fun W9 => Box W9 b 62 (sg L e (.slice (some ⟨g7, 0, none⟩) (heard.length + 1) cap7) m (Evy.hear e ⟨heard, gone, true, false, false⟩ ⟨id, node, typ, capture, true, stops, all, true⟩ a)) ∧ Upd W8 W9 b) ⟨((HB8.out.set 10 _).set 11 _).set 12 _, (((Upd.refl W8 b).set (p := ⟨b, 10, none⟩) (.inl rfl) _).set (p := ⟨b, 11, none⟩) (.inl rfl) _).set (p := ⟨b, 12, none⟩) (.inl rfl) _⟩ ?_
              rintro W9 ⟨b9, hu9⟩
              have o9 := own_grown HOWN.out hu9 (.inr (fun h => hgb.1 (by simpa [Value.ownBlock] using h)))
              have m9 := map_kept HMAP.out hu9 (fun h => by injection h with h; exact hBM.out h.symm)
              have kp9 := HKP.out.upd hu9 (.inl (.inl rfl))
              have y9 := b9.cell 9
              have xb := HX8.out.grown hu9 (by intro h; injection h with h; omega)
              have x4' := xb.cell 4
              have x0' := xb.cell 0
              simp at y9 x0' x4'
              go_upto_region 6 with (fail)
              go_still_tail 6, (by kernel_rfl)
              change wpList _ _ _ _ _ W9.drew
              go_wp2_with (at_mapUpdate; refine wpList_mapUpdate_own _ rfl _ _ _ 53 rfl 3 3 intKey Tryd.underlying53 _ m k _ rfl (by exact m9) (by unfold maxLen; omega) _ _ _ rfl rfl HKEY.out _ [] (plainElem_int Tryd.underlying3 (by decide)) ?_; intro w10 hown10 hgrow10)
              refine bodyPost_end (results_none rfl _ _ _) rfl ?_
              exact ⟨rfl, _, k + 1, ⟨(Box.drew b9).grown hgrow10 (by intro h; injection h with h; exact hBM.out h), own_grown (w := W9.drew) o9 hgrow10 (.inr (fun h => hgb.2 (by simpa [Value.ownBlock] using h))), by rw [show (Evy.hear e ⟨heard, gone, true, false, false⟩ ⟨id, node, typ, capture, true, stops, all, true⟩ a).gone = gone ++ [id] from rfl, Seeny.seen_snoc]; exact hown10, hBB, hMB, hBM.out⟩, by omega, kp9.drew.grown hgrow10 (fun i hi => by injection hi with hi; exact .inl (.inr (.inl hi.symm))), fun i hi => by simp [Value.ownBlock] at hi; subst hi; exact HOR.out⟩
          | true =>
            go_upto_region 5 with (fail)
            refine gen_world (F := fun W9 => Box W9 b 62 (sg L e (.slice (some ⟨g7, 0, none⟩) (heard.length + 1) cap7) m (Evy.hear e ⟨heard, gone, true, false, true⟩ ⟨id, node, typ, capture, true, stops, all, prev⟩ a)) ∧ Upd W8 W9 b) ⟨((HB8.out.set 10 _).set 11 _).set 12 _, (((Upd.refl W8 b).set (p := ⟨b, 10, none⟩) (.inl rfl) _).set (p := ⟨b, 11, none⟩) (.inl rfl) _).set (p := ⟨b, 12, none⟩) (.inl rfl) _⟩ ?_
            rintro W9 ⟨b9, hu9⟩
            have o9 := own_grown HOWN.out hu9 (.inr (fun h => hgb.1 (by simpa [Value.ownBlock] using h)))
            have m9 := map_kept HMAP.out hu9 (fun h => by injection h with h; exact hBM.out h.symm)
            have kp9 := HKP.out.upd hu9 (.inl (.inl rfl))
            have y9 := b9.cell 9
            have xb := HX8.out.grown hu9 (by intro h; injection h with h; omega)
            have x4' := xb.cell 4
            have x0' := xb.cell 0
            simp at y9 x0' x4'
            go_upto_region 6 with (fail)
            go_still_tail 6, (by kernel_rfl)
            change wpList _ _ _ _ _ W9.drew
            go_wp2_with (at_mapUpdate; refine wpList_mapUpdate_own _ rfl _ _ _ 53 rfl 3 3 intKey Tryd.underlying53 _ m k _ rfl (by exact m9) (by unfold maxLen; omega) _ _ _ rfl rfl HKEY.out _ [] (plainElem_int Tryd.underlying3 (by decide)) ?_; intro w10 hown10 hgrow10)
            refine bodyPost_end (results_none rfl _ _ _) rfl ?_
            exact ⟨rfl, _, k + 1, ⟨(Box.drew b9).grown hgrow10 (by intro h; injection h with h; exact hBM.out h), own_grown (w := W9.drew) o9 hgrow10 (.inr (fun h => hgb.2 (by simpa [Value.ownBlock] using h))), by rw [show (Evy.hear e ⟨heard, gone, true, false, true⟩ ⟨id, node, typ, capture, true, stops, all, prev⟩ a).gone = gone ++ [id] from rfl, Seeny.seen_snoc]; exact hown10, hBB, hMB, hBM.out⟩, by omega, kp9.drew.grown hgrow10 (fun i hi => by injection hi with hi; exact .inl (.inr (.inl hi.symm))), fun i hi => by simp [Value.ownBlock] at hi; subst hi; exact HOR.out⟩
        | true =>
          cases no with
          | false =>
            cases prev with
            | false =>
              go_upto_region 5 with (fail)
              refine gen_world (F := fun W9 => Box W9 b 62 (sg L e (.slice (some ⟨g7, 0, none⟩) (heard.length + 1) cap7) m (Evy.hear e ⟨heard, gone, true, true, false⟩ ⟨id, node, typ, capture, true, stops, all, false⟩ a)) ∧ Upd W8 W9 b) ⟨((HB8.out.set 10 _).set 11 _).set 12 _, (((Upd.refl W8 b).set (p := ⟨b, 10, none⟩) (.inl rfl) _).set (p := ⟨b, 11, none⟩) (.inl rfl) _).set (p := ⟨b, 12, none⟩) (.inl rfl) _⟩ ?_
              rintro W9 ⟨b9, hu9⟩
              have o9 := own_grown HOWN.out hu9 (.inr (fun h => hgb.1 (by simpa [Value.ownBlock] using h)))
              have m9 := map_kept HMAP.out hu9 (fun h => by injection h with h; exact hBM.out h.symm)
              have kp9 := HKP.out.upd hu9 (.inl (.inl rfl))
              have y9 := b9.cell 9
              have xb := HX8.out.grown hu9 (by intro h; injection h with h; omega)
              have x4' := xb.cell 4
              have x0' := xb.cell 0
              simp at y9 x0' x4'
              go_upto_region 6 with (fail)
              go_still_tail 6, (by kernel_rfl)
              change wpList _ _ _ _ _ W9.drew
              go_wp2_with (at_mapUpdate; refine wpList_mapUpdate_own _ rfl _ _ _ 53 rfl 3 3 intKey Tryd.underlying53 _ m k _ rfl (by exact m9) (by unfold maxLen; omega) _ _ _ rfl rfl HKEY.out _ [] (plainElem_int Tryd.underlying3 (by decide)) ?_; intro w10 hown10 hgrow10)
              refine bodyPost_end (results_none rfl _ _ _) rfl ?_
              exact ⟨rfl, _, k + 1, ⟨(Box.drew b9).grown hgrow10 (by intro h; injection h with h; exact hBM.out h), own_grown (w := W9.drew) o9 hgrow10 (.inr (fun h => hgb.2 (by simpa [Value.ownBlock] using h))), by rw [show (Evy.hear e ⟨heard, gone, true, true, false⟩ ⟨id, node, typ, capture, true, stops, all, false⟩ a).gone = gone ++ [id] from rfl, Seeny.seen_snoc]; exact hown10, hBB, hMB, hBM.out⟩, by omega, kp9.drew.grown hgrow10 (fun i hi => by injection hi with hi; exact .inl (.inr (.inl hi.symm))), fun i hi => by simp [Value.ownBlock] at hi; subst hi; exact HOR.out⟩
            | true =>
              go_upto_region 5 with (fail)
              refine gen_world (F := fun W9 => Box W9 b 62 (sg L e (.slice (some ⟨g7, 0, none⟩) (heard.length + 1) cap7) m (Evy.hear e ⟨heard, gone, true, true, false⟩ ⟨id, node, typ, capture, true, stops, all, true⟩ a)) ∧ Upd W8 W9 b) ⟨((HB8.out.set 10 _).set 11 _).set 12 _, (((Upd.refl W8 b).set (p := ⟨b, 10, none⟩) (.inl rfl) _).set (p := ⟨b, 11, none⟩) (.inl rfl) _).set (p := ⟨b, 12, none⟩) (.inl rfl) _⟩ ?_
              rintro W9 ⟨b9, hu9⟩
              have o9 := own_grown HOWN.out hu9 (.inr (fun h => hgb.1 (by simpa [Value.ownBlock] using h)))
              have m9 := map_kept HMAP.out hu9 (fun h => by injection h with h; exact hBM.out h.symm)
              have kp9 := HKP.out.upd hu9 (.inl (.inl rfl))
              have y9 := b9.cell 9
              have xb := HX8.out.grown hu9 (by intro h; injection h with h; omega)
              have x4' := xb.cell 4
              have x0' := xb.cell 0
              simp at y9 x0' x4'
              go_upto_region 6 with (fail)
              go_still_tail 6, (by kernel_rfl)
              change wpList _ _ _ _ _ W9.drew
              go_wp2_with (at_mapUpdate; refine wpList_mapUpdate_own _ rfl _ _ _ 53 rfl 3 3 intKey Tryd.underlying53 _ m k _ rfl (by exact m9) (by unfold maxLen; omega) _ _ _ rfl rfl HKEY.out _ [] (plainElem_int Tryd.underlying3 (by decide)) ?_; intro w10 hown10 hgrow10)
              refine bodyPost_end (results_none rfl _ _ _) rfl ?_
              exact ⟨rfl, _, k + 1, ⟨(Box.drew b9).grown hgrow10 (by intro h; injection h with h; exact hBM.out h), own_grown (w := W9.drew) o9 hgrow10 (.inr (fun h => hgb.2 (by simpa [Value.ownBlock] using h))), by rw [show (Evy.hear e ⟨heard, gone, true, true, false⟩ ⟨id, node, typ, capture, true, stops, all, true⟩ a).gone = gone ++ [id] from rfl, Seeny.seen_snoc]; exact hown10, hBB, hMB, hBM.out⟩, by omega, kp9.drew.grown hgrow10 (fun i hi => by injection hi with hi; exact .inl (.inr (.inl hi.symm))), fun i hi => by simp [Value.ownBlock] at hi; subst hi; exact HOR.out⟩
          | true =>
            go_upto_region 5 with (fail)
            refine gen_world (F := fun W9 => Box W9 b 62 (sg L e (.slice (some ⟨g7, 0, none⟩) (heard.length + 1) cap7) m (Evy.hear e ⟨heard, gone, true, true, true⟩ ⟨id, node, typ, capture, true, stops, all, prev⟩ a)) ∧ Upd W8 W9 b) ⟨((HB8.out.set 10 _).set 11 _).set 12 _, (((Upd.refl W8 b).set (p := ⟨b, 10, none⟩) (.inl rfl) _).set (p := ⟨b, 11, none⟩) (.inl rfl) _).set (p := ⟨b, 12, none⟩) (.inl rfl) _⟩ ?_
            rintro W9 ⟨b9, hu9⟩
            have o9 := own_grown HOWN.out hu9 (.inr (fun h => hgb.1 (by simpa [Value.ownBlock] using h)))
            have m9 := map_kept HMAP.out hu9 (fun h => by injection h with h; exact hBM.out h.symm)
            have kp9 := HKP.out.upd hu9 (.inl (.inl rfl))
            have y9 := b9.cell 9
            have xb := HX8.out.grown hu9 (by intro h; injection h with h; omega)
            have x4' := xb.cell 4
            have x0' := xb.cell 0
            simp at y9 x0' x4'
            go_upto_region 6 with (fail)
            go_still_tail 6, (by kernel_rfl)
            change wpList _ _ _ _ _ W9.drew
            go_wp2_with (at_mapUpdate; refine wpList_mapUpdate_own _ rfl _ _ _ 53 rfl 3 3 intKey Tryd.underlying53 _ m k _ rfl (by exact m9) (by unfold maxLen; omega) _ _ _ rfl rfl HKEY.out _ [] (plainElem_int Tryd.underlying3 (by decide)) ?_; intro w10 hown10 hgrow10)
            refine bodyPost_end (results_none rfl _ _ _) rfl ?_
            exact ⟨rfl, _, k + 1, ⟨(Box.drew b9).grown hgrow10 (by intro h; injection h with h; exact hBM.out h), own_grown (w := W9.drew) o9 hgrow10 (.inr (fun h => hgb.2 (by simpa [Value.ownBlock] using h))), by rw [show (Evy.hear e ⟨heard, gone, true, true, true⟩ ⟨id, node, typ, capture, true, stops, all, prev⟩ a).gone = gone ++ [id] from rfl, Seeny.seen_snoc]; exact hown10, hBB, hMB, hBM.out⟩, by omega, kp9.drew.grown hgrow10 (fun i hi => by injection hi with hi; exact .inl (.inr (.inl hi.symm))), fun i hi => by simp [Value.ownBlock] at hi; subst hi; exact HOR.out⟩
end Go.Proofs.YtdommcjlpibpeaaDoor
