/-
  Reach, a cell copied: walked; what a right heap is, plain. Conditions: the cells and the roots read as rows.
-/
import Derived.Test.YtbhccidchjmjlaaHpF
namespace Hepy
/-- what is right is like this. -/
structure Right (h : List Cell) : Prop where
  le : h.length ≤ 300
  vl : ∀ c ∈ h, c.vals.length ≤ 200
  ok : ∀ c ∈ h, cellOk h c = true
theorem check_zero {h : List Cell} : checkH h = 0 ↔ Right h := by
  unfold checkH
  constructor
  · intro k
    by_cases h1 : 300 < h.length
    · rw [if_pos h1] at k; simp at k
    · rw [if_neg h1] at k
      by_cases h2 : (h.any fun c => decide (200 < c.vals.length)) = true
      · rw [if_pos h2] at k; simp at k
      · rw [if_neg h2] at k
        by_cases h3 : h.all (cellOk h) = true
        · refine ⟨by omega, fun c hc => ?_, fun c hc => List.all_eq_true.1 h3 c hc⟩
          have := List.any_eq_false.1 (Bool.eq_false_iff.2 h2) c hc
          simp at this; omega
        · rw [if_neg h3] at k; simp at k
  · intro k
    rw [if_neg (by have := k.le; omega), if_neg, if_pos (List.all_eq_true.2 k.ok)]
    intro h2
    obtain ⟨c, hc, h3⟩ := List.any_eq_true.1 h2
    have := k.vl c hc
    simp at h3; omega
theorem at_mem {h : List Cell} {n : Nat} (hn : n < h.length) : at_ h n ∈ h := by
  unfold at_
  rw [List.getElem?_eq_getElem hn]
  exact List.getElem_mem hn
theorem fits_leads {h : List Cell} {v : Valu.V} (k : fits h v = true) : Leads h v ∧ (0 ≤ ref v → (at_ h (ref v).toNat).kind ≠ 0) ∧ Valu.check v = true := by
  unfold fits at k
  simp at k
  obtain ⟨k1, k2⟩ := k
  unfold Leads
  rcases k2 with k2 | k2
  · exact ⟨by omega, fun h => by omega, k1⟩
  · exact ⟨k2.1, fun _ => k2.2, k1⟩
theorem of_fits {h : List Cell} {v : Valu.V} (k1 : Valu.check v = true) (k2 : 0 ≤ ref v → (ref v).toNat < h.length ∧ (at_ h (ref v).toNat).kind ≠ 0) : fits h v = true := by
  unfold fits
  by_cases h0 : 0 ≤ ref v
  · obtain ⟨h1, h2⟩ := k2 h0
    simp [k1, h2]; omega
  · simp [k1]; omega
namespace Right
variable {h : List Cell}
theorem fit (k : Right h) {c : Cell} (hc : c ∈ h) {v : Valu.V} (hv : v ∈ c.vals) : fits h v = true := by
  have := k.ok c hc
  unfold cellOk at this
  simp only [Bool.and_eq_true] at this
  exact List.all_eq_true.1 this.2.2 v hv
theorem sound (k : Right h) : Sound h := fun n hn v hv => (fits_leads (k.fit (at_mem hn) hv)).1
theorem shape (k : Right h) {c : Cell} (hc : c ∈ h) : Hepy.shape c = true := by
  have := k.ok c hc
  unfold cellOk at this
  simp only [Bool.and_eq_true] at this
  exact this.1
theorem names (k : Right h) {c : Cell} (hc : c ∈ h) : c.names.length ≤ 200 := by
  have h1 := k.shape hc
  have h2 := k.vl c hc
  unfold Hepy.shape at h1
  split at h1
  · simp at h1; rw [h1.2]; simp
  · split at h1
    · simp at h1; rw [h1]; simp
    · split at h1
      · simp at h1; omega
      · simp at h1
end Right
theorem asked_zero {h : List Cell} {l : List Valu.V} : askedH h l = 0 ↔ Right h ∧ l.all (fits h) = true := by
  unfold askedH
  by_cases h1 : checkH h = 0
  · rw [if_neg (by simp [h1]), ← check_zero]
    by_cases h2 : l.all (fits h) = true
    · rw [if_pos h2]; exact ⟨fun _ => ⟨h1, h2⟩, fun _ => rfl⟩
    · rw [if_neg h2]; exact ⟨fun h => by simp at h, fun h => absurd h.2 h2⟩
  · rw [if_pos h1, ← check_zero]
    exact ⟨fun h => absurd h h1, fun h => absurd h.1 h1⟩
def sorted (l : List Nat) : List Int := (l.map fun n : Nat => (n : Int)).mergeSort fun x y => decide (x ≤ y)
/-- what is reached; and what went wrong. -/
def reach (h : List Cell) (l : List Valu.V) : List Int × Nat := if askedH h l ≠ 0 then ([], askedH h l) else (sorted (walked h l), 0)
def sweep (h : List Cell) (l : List Valu.V) : List Cell × Nat := if askedH h l ≠ 0 then ([], askedH h l) else (swept h l, 0)
def move (h : List Cell) (l : List Valu.V) : List Cell × List Valu.V × Nat := if askedH h l ≠ 0 then ([], [], askedH h l) else (moved h l, movedR h l, 0)
end Hepy
namespace Go.Proofs.Ytbhccidchjmjlaa
set_option linter.unusedSimpArgs false
set_option linter.unusedVariables false
open Go.RowKit

theorem nums_ints (l : List Nat) : nums l = ints (l.map fun n : Nat => (n : Int)) := by unfold nums ints; simp
theorem Rd.ints {w : World} {base e : Nat} {v : Value} {p : List Int} (h : w.ownsRow base e 1 v p.length (ints p)) : RdL w 1 ic p v := by
  have := Rd.own h
  rwa [← flat_ints] at this
def ReachOut (w : World) (r : List Int × Nat) (e : Ending) (w' : World) : Prop := ∃ v, e = .returned (.tuple #[v, .int .i64 (r.2 : Int)]) ∧ RdL w' 1 ic r.1 v ∧ Below w.heap.size w w'
set_option maxRecDepth 100000 in
set_option maxHeartbeats 2000000 in
theorem Reach_any (h : List CellV) (hv : Value) (l : List Valu.V) (v : Value) (w : World) (hr : HRd w h hv) (hl : RdL w 3 vc l v) (hz : Szs l) :
    Calls Try.prog 8 #[hv, v] w fun e w' => ReachOut w (Hepy.reach (cells h) l) e w' := by
  have HAS := Lib.hid (asked_any h hv l v w hr hl hz)
  obtain ⟨C, hC⟩ : ∃ C, Hepy.askedH (cells h) l = C := ⟨_, rfl⟩
  have HRE : Hid (Hepy.reach (cells h) l = if C ≠ 0 then ([], C) else (Hepy.sorted (Hepy.walked (cells h) l), 0)) := by show _ = _; unfold Hepy.reach; rw [hC]
  rw [hC] at HAS
  have HC := Lib.hid hC
  have HH := Lib.hid hr
  have HL := Lib.hid hl
  obtain ⟨UA, ucap, rfl, hu1, hu2, _⟩ := hr.r
  obtain ⟨A, cap, rfl, hc1, hc2, -⟩ := hl
  clear hr hC
  go_enter Try.func8, Try.ntmps8
  go_wp2_with (fail)
  refine (HAS.out).mono ?_
  rintro en W ⟨rfl, hbW⟩
  have HU := Lib.hid hbW
  clear hbW
  by_cases y : C = 0
  · subst y
    have g1 : (((0 : Nat) : Int) != 0) = false := by simp
    obtain ⟨hright, hfit⟩ := Hepy.asked_zero.1 HC.out
    have hle : h.length ≤ 300 := by have := hright.le; rw [cells_len] at this; exact this
    have hld : ∀ v ∈ l, Hepy.Leads (cells h) v := fun v hv => (Hepy.fits_leads (List.all_eq_true.1 hfit v hv)).1
    have HWK := Lib.hid (walked_any h _ l _ W (HH.out.below HU.out) (HL.out.below HU.out) hle hright.sound hld)
    have hal : (Hepy.walked (cells h) l).length ≤ 300 := by have := (Hepy.walked_came hright.sound hld).ok.len; rw [cells_len] at this; omega
    obtain ⟨al, hale⟩ : ∃ al, Hepy.walked (cells h) l = al := ⟨_, rfl⟩
    rw [hale] at HWK HRE hal
    clear hright hfit hld hale
    go_upto_region 4 with (fail)
    go_wp2_with (fail)
    refine (HWK.out).mono ?_
    rintro en W1 ⟨b, t, B, av, rfl, hb1, hb2, hb3, hb4, hws, hbe⟩
    have HU1 := Lib.hid (HU.out.trans (hbe.mono HU.out.size))
    have hzU := HU.out.size
    have c2 := hws.box.cell 2
    simp at c2
    obtain ⟨A2, cap2, rfl⟩ := own_slice hws.own
    have hown := hws.own
    rw [nums_ints] at hown
    have hln : (al.map fun n : Nat => (n : Int)).length = al.length := by simp
    have hso := sort_any (al.map fun n : Nat => (n : Int)) B _ W1 (by rw [hln]; exact hown) (by rw [hln]; omega)
    rw [hln] at hso
    have HSO := Lib.hid hso
    have HLT := Lib.hid hws.own.lt
    clear hws hbe hso hown HWK
    go_wp2_with (fail)
    refine (HSO.out).mono ?_
    rintro en W2 ⟨rfl, hown2, hgr2⟩
    have HU2 := Lib.hid (HU1.out.trans (below_grown (B := w.heap.size) hgr2 HU1.out.size (fun k hk => by have := (HLT.out k hk).1; omega)))
    have HOW : Hid (RdL W2 1 ic (Hepy.sorted al) (.slice A2 al.length cap2)) := by
      refine Rd.ints (base := B) (e := 3) ?_
      rw [show (Hepy.sorted al).length = al.length by unfold Hepy.sorted; simp]
      exact hown2
    clear hown2 hgr2
    go_wp2
    go_returns
    exact ⟨_, by rw [HRE.out]; rfl, by rw [HRE.out]; exact HOW.out, HU2.out⟩
  · have g1 : ((C : Int) != 0) = true := by simp; omega
    have Y := Lib.hid y
    clear y
    go_wp2
    go_returns
    exact ⟨_, by rw [HRE.out, if_pos Y.out]; rfl, by rw [HRE.out, if_pos Y.out]; exact Rd.nil _ _, HU.out⟩
theorem upd_cell {w w1 : World} {g b i : Nat} (h : Upd w w1 g) (hb : b ≠ g) (hl : b < w.heap.size) : w1.cell? ⟨b, i, none⟩ = w.cell? ⟨b, i, none⟩ := World.cell?_of_block (w := w) (h.block b hl (fun e => hb (by injection e)))
theorem own_ne {w : World} {base g : Nat} {e : TypeId} {k n : Nat} {v : Value} {xs : List Value} (h : w.ownsRow base e k v n xs) (hg : g < base) : v.ownBlock = none ∨ v.ownBlock ≠ some g := by
  cases hv : v.ownBlock with
  | none => exact .inl rfl
  | some b => exact .inr (fun e => by injection e with e; have := (h.lt b hv).1; omega)
/-- a cell whose rows lie in memory of their own. -/
structure COwn (w : World) (base : Nat) (x : CellV) : Prop where
  a : w.ownsRow base 9 1 x.as x.c.names.length (flat bc x.c.names)
  k : w.ownsRow base 31 3 x.ks x.c.vals.length (flat vc x.c.vals)
  z : ∀ v ∈ x.c.vals, v.s.length ≤ 9223372036854775807
theorem COwn.rd {w : World} {base : Nat} {x : CellV} (h : COwn w base x) : CRd w x := ⟨Rd.own h.a, Rd.own h.k, h.z⟩
theorem COwn.grown {w w1 : World} {base : Nat} {x : CellV} {row : Option Nat} (h : COwn w base x) (hg : w.grownBy w1 row) (hr : ∀ k, row = some k → k < base ∨ w.heap.size ≤ k) : COwn w1 base x := by
  refine ⟨own_grown h.a hg ?_, own_grown h.k hg ?_, h.z⟩
  · cases hb : x.as.ownBlock with
    | none => exact .inl rfl
    | some g => exact .inr (fun e => by have h1 := h.a.lt g hb; have h2 := hr g e.symm; omega)
  · cases hb : x.ks.ownBlock with
    | none => exact .inl rfl
    | some g => exact .inr (fun e => by have h1 := h.k.lt g hb; have h2 := hr g e.symm; omega)
theorem COwn.below {w w1 : World} {base : Nat} {x : CellV} (h : COwn w base x) (hb : Below w.heap.size w w1) : COwn w1 base x := ⟨own_below h.a hb, own_below h.k hb, h.z⟩
theorem COwn.base {w : World} {base b2 : Nat} {x : CellV} (h : COwn w base x) (hb : b2 ≤ base) : COwn w b2 x := ⟨own_base h.a hb, own_base h.k hb, h.z⟩
set_option maxRecDepth 100000 in
set_option maxHeartbeats 4000000 in
theorem copied_any (x : CellV) (w : World) (hx : CRd w x) (h1 : x.c.names.length ≤ 1000) (h2 : x.c.vals.length ≤ 1000) :
    Calls Try.prog 23 #[.agg (cc x)] w fun e w' => ∃ x', e = .returned (.agg (cc x')) ∧ x'.c = x.c ∧ COwn w' w.heap.size x' ∧ Below w.heap.size w w' := by
  have HCN : Hid (∀ w', Below w.heap.size w w' → Calls Try.prog 36 #[x.as] w' fun e w'' => OwnOut w' 9 1 x.c.names.length (flat bc x.c.names) e w'') := fun w' hb => clone_strs x.c.names x.as w' (hx.a.below hb) (by omega)
  have HCV : Hid (∀ w', Below w.heap.size w w' → Calls Try.prog 37 #[x.ks] w' fun e w'' => OwnOut w' 31 3 x.c.vals.length (flat vc x.c.vals) e w'') := fun w' hb => clone_val x.c.vals x.ks w' (hx.k.below hb) (by omega)
  have HZ := Lib.hid hx.z
  obtain ⟨⟨kind, names, vals⟩, A, ca, K, ck⟩ := x
  simp only at HCN HCV HZ h1 h2
  clear hx
  go_enter Try.func23, Try.ntmps23
  go_upto_region 1 with (fail)
  refine gen_world (F := fun W => Box W w.heap.size 46 #[.int .i64 kind, .slice A names.length ca, .slice K vals.length ck] ∧ Box W (w.heap.size + 1) 46 #[.int .i64 0, .slice none 0 0, .slice none 0 0] ∧ Below w.heap.size w W ∧ w.heap.size + 2 ≤ W.heap.size) ⟨(Box.new w _ _).alloc _, new2 w _ _ _, (below1 w _).alloc (by simp) _, by simp⟩ ?_
  rintro W ⟨bx, bz, hU, hzW⟩
  have k0 := bx.cell 0
  have k1 := bx.cell 1
  have k2 := bx.cell 2
  simp at k0 k1 k2
  clear bx
  refine wp_region_held_drew (S := fun w' => Below w.heap.size w w' ∧ w'.cell? ⟨w.heap.size, 0, none⟩ = some (.int .i64 kind) ∧ w'.cell? ⟨w.heap.size, 1, none⟩ = some (.slice A names.length ca) ∧ w'.cell? ⟨w.heap.size, 2, none⟩ = some (.slice K vals.length ck)) (by kernel_rfl) ⟨hU.drew, k0, k1, k2⟩ (fun hHeld => ?_)
  refine wpAnyH_take (i := 0) (v := ?_) rfl (by kernel_rfl) (by kernel_rfl) (by kernel_rfl) (fun _ _ _ h => h) (Or.inl ⟨by kernel_rfl, ?_⟩) (by assumption) ?_
  rotate_left
  · intro w hSw
    (try dsimp only at hSw)
    go_simp
    try (with_reducible rfl)
  (try simp only [Act.put, List.getElem_toArray, List.getElem_cons_zero, List.setIfInBounds_toArray, List.set_cons_zero, List.set_cons_succ])
  refine wpAnyH_take (i := 1) (v := ?_) rfl (by kernel_rfl) (by kernel_rfl) (by kernel_rfl) (fun _ _ _ h => h) (Or.inl ⟨by kernel_rfl, ?_⟩) (by assumption) ?_
  rotate_left
  · intro w hSw
    (try dsimp only at hSw)
    go_simp
    try (with_reducible rfl)
  (try simp only [Act.put, List.getElem_toArray, List.getElem_cons_succ, List.getElem_cons_zero, List.setIfInBounds_toArray, List.set_cons_zero, List.set_cons_succ])
  refine wpAnyH_take (i := 2) (v := ?_) rfl (by kernel_rfl) (by kernel_rfl) (by kernel_rfl) (fun _ _ _ h => h) (Or.inl ⟨by kernel_rfl, ?_⟩) (by assumption) ?_
  rotate_left
  · intro w hSw
    (try dsimp only at hSw)
    go_simp
    try (with_reducible rfl)
  (try simp only [Act.put, List.getElem_toArray, List.getElem_cons_succ, List.getElem_cons_zero, List.setIfInBounds_toArray, List.set_cons_zero, List.set_cons_succ])
  refine wpAnyH_take (i := 3) (v := ?_) rfl (by kernel_rfl) (by kernel_rfl) (by kernel_rfl) (fun _ _ _ h => h) (Or.inl ⟨by kernel_rfl, ?_⟩) (by assumption) ?_
  rotate_left
  · intro w hSw
    (try dsimp only at hSw)
    go_simp
    try (with_reducible rfl)
  (try simp only [Act.put, List.getElem_toArray, List.getElem_cons_succ, List.getElem_cons_zero, List.setIfInBounds_toArray, List.set_cons_zero, List.set_cons_succ])
  refine wpAnyH_take (i := 5) (v := ?_) rfl (by kernel_rfl) (by kernel_rfl) (by kernel_rfl) (fun _ _ _ h => h) (Or.inl ⟨by kernel_rfl, ?_⟩) (by assumption) ?_
  rotate_left
  · intro w hSw
    (try dsimp only at hSw)
    go_simp
    try (with_reducible rfl)
  (try simp only [Act.put, List.getElem_toArray, List.getElem_cons_succ, List.getElem_cons_zero, List.setIfInBounds_toArray, List.set_cons_zero, List.set_cons_succ])
  refine wpAnyH_take (i := 6) (v := ?_) rfl (by kernel_rfl) (by kernel_rfl) (by kernel_rfl) (fun _ _ _ h => h) (Or.inl ⟨by kernel_rfl, ?_⟩) (by assumption) ?_
  rotate_left
  · intro w hSw
    (try dsimp only at hSw)
    go_simp
    try (with_reducible rfl)
  (try simp only [Act.put, List.getElem_toArray, List.getElem_cons_succ, List.getElem_cons_zero, List.setIfInBounds_toArray, List.set_cons_zero, List.set_cons_succ])
  refine wpAnyH_ready (rs := [4]) (by kernel_rfl) (by simp) ?_
  refine AllReadyH.cons rfl (fun K hK => ?_) AllReadyH.nil
  go_simp
  refine (HCN.out _ hHeld.1).mono ?_
  rintro en w1 ⟨v1, rfl, hown1, hb1⟩
  obtain ⟨A1, cap1, rfl⟩ := own_slice hown1
  go_wp2_with (fail)
  refine hK.out _ _ ?_ (fun hHeld => ?_)
  · exact ⟨hHeld.1.trans (hb1.mono hHeld.1.size), (hb1.cell (p := ⟨w.heap.size, 0, none⟩) (block_lt_of_cell hHeld.2.1)).trans hHeld.2.1, (hb1.cell (p := ⟨w.heap.size, 1, none⟩) (block_lt_of_cell hHeld.2.2.1)).trans hHeld.2.2.1, (hb1.cell (p := ⟨w.heap.size, 2, none⟩) (block_lt_of_cell hHeld.2.2.2)).trans hHeld.2.2.2⟩
  clear hK K
  (try simp only [Act.put, List.getElem_toArray, List.getElem_cons_succ, List.getElem_cons_zero, List.setIfInBounds_toArray, List.set_cons_zero, List.set_cons_succ])
  refine wpAnyH_ready (rs := [7]) (by kernel_rfl) (by simp) ?_
  refine AllReadyH.cons rfl (fun K hK => ?_) AllReadyH.nil
  go_simp
  refine (HCV.out _ hHeld.1).mono ?_
  rintro en w2 ⟨v2, rfl, hown2, hb2⟩
  obtain ⟨A2, cap2, rfl⟩ := own_slice hown2
  go_wp2_with (fail)
  refine hK.out _ _ ?_ (fun hHeld => ?_)
  · exact ⟨hHeld.1.trans (hb2.mono hHeld.1.size), (hb2.cell (p := ⟨w.heap.size, 0, none⟩) (block_lt_of_cell hHeld.2.1)).trans hHeld.2.1, (hb2.cell (p := ⟨w.heap.size, 1, none⟩) (block_lt_of_cell hHeld.2.2.1)).trans hHeld.2.2.1, (hb2.cell (p := ⟨w.heap.size, 2, none⟩) (block_lt_of_cell hHeld.2.2.2)).trans hHeld.2.2.2⟩
  clear hK K
  (try simp only [Act.put, List.getElem_toArray, List.getElem_cons_succ, List.getElem_cons_zero, List.setIfInBounds_toArray, List.set_cons_zero, List.set_cons_succ])
  have hzd : W.drew.heap.size = W.heap.size := rfl
  have hz1 := hb1.size
  have hz2 := hb2.size
  have bz2 : Box w2 (w.heap.size + 1) 46 #[.int .i64 0, .slice none 0 0, .slice none 0 0] := (bz.drew.below hb1 (by omega)).below hb2 (by omega)
  refine wpAnyH_take (i := 8) (v := ?_) rfl (by kernel_rfl) (by kernel_rfl) (by kernel_rfl) (fun _ _ _ h => h) (Or.inl ⟨by kernel_rfl, ?_⟩) (by assumption) ?_
  rotate_left
  · intro w hSw
    (try dsimp only at hSw)
    go_simp
    try (with_reducible rfl)
  (try simp only [Act.put, List.getElem_toArray, List.getElem_cons_succ, List.getElem_cons_zero, List.setIfInBounds_toArray, List.set_cons_zero, List.set_cons_succ])
  refine wpAnyH_ready (rs := [9]) (by kernel_rfl) (by simp) ?_
  refine AllReadyH.cons rfl (fun K hK => ?_) AllReadyH.nil
  refine step_store_box rfl 46 (.tmp 2) (.tmp 11) rfl (w.heap.size + 1) #[.int .i64 kind, .slice A1 names.length cap1, .slice A2 vals.length cap2] rfl rfl 46 _ bz2 info_cell rfl (by simp [Value.oneCell']) ?_; intro w9 hx9 hu9 hz9
  refine hK.out _ _ ⟨hHeld.1.trans (hu9.own (by omega) (by omega)), (upd_cell (b := w.heap.size) hu9 (by omega) (block_lt_of_cell hHeld.2.1)).trans hHeld.2.1, (upd_cell (b := w.heap.size) hu9 (by omega) (block_lt_of_cell hHeld.2.1)).trans hHeld.2.2.1, (upd_cell (b := w.heap.size) hu9 (by omega) (block_lt_of_cell hHeld.2.1)).trans hHeld.2.2.2⟩ (fun hHeld => ?_)
  clear hK K
  (try simp only [Act.put, List.getElem_toArray, List.getElem_cons_succ, List.getElem_cons_zero, List.setIfInBounds_toArray, List.set_cons_zero, List.set_cons_succ])
  have COWN9 : Hid (COwn w9 w.heap.size ⟨⟨kind, names, vals⟩, A1, cap1, A2, cap2⟩) := ⟨own_grown (own_below (own_base hown1 (by omega)) hb2) hu9 (own_ne hown1 (by omega)), own_grown (own_base hown2 (by omega)) hu9 (own_ne hown2 (by omega)), HZ.out⟩
  have HB9 := Lib.hid hHeld.1
  refine wpAnyH_done (by kernel_rfl) ?_ _
  go_wp2
  refine bodyPost_ret (results_box rfl _ _ (w.heap.size + 1) 46 #[.int .i64 kind, .slice A1 names.length cap1, .slice A2 vals.length cap2] _ rfl hx9 Try.underlying46 rfl info_cell) rfl ?_
  exact ⟨⟨⟨kind, names, vals⟩, A1, cap1, A2, cap2⟩, rfl, rfl, COWN9.out, HB9.out⟩
end Go.Proofs.Ytbhccidchjmjlaa
