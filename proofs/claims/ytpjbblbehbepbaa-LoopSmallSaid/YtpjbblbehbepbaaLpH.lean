/-
  slices.Insert of one timer in the midst of a full row; and of whatever row. Conditions: as each says.
-/
import Derived.Test.YtpjbblbehbepbaaLpG
import Derived.Laws.NewBlocks
namespace Go.Proofs.Ytpjbblbehbepbaa
set_option linter.unusedSimpArgs false
set_option linter.unusedVariables false
open Go.RowKit

set_option maxRecDepth 100000 in
set_option maxHeartbeats 4000000 in
/-- in the midst; there is no room. -/
theorem insert_full (l : List Loopy.Timer) (t : Loopy.Timer) (i : Nat) (hi : i < l.length) (base : Nat) (g cap : Nat) (R : List Value) (w : World) (hbase : base ≤ w.heap.size) (hbox : Box w g 49 (flat tc l ++ R).toArray)
    (hcl : l.length ≤ cap) (hroom : cap < l.length + 1) (vb : Nat) (hvb : Box w vb 49 (tc t)) (hl : l.length ≤ 1000000) :
    Calls Try.prog 50 #[.slice (some ⟨g, 0, none⟩) l.length cap, .int .i64 (i : Int), .slice (some ⟨vb, 0, none⟩) 1 1] w fun e w' => InsOut w base 49 5 (l.length + 1) (some g) (flat tc (l.take i ++ t :: l.drop i)) e w' := by
  obtain ⟨i0, hi0, hz0, hz1, hz2⟩ := info_parts parts_timer
  have hone1 := Lib.hid (flat_one (f := tc) tc_one (l.drop i))
  have hone2 : Hid (∀ u ∈ (tc t).toList, u.oneCell' = true) := by intro u hu; have := flat_one (f := tc) tc_one [t] u (by simpa [flat] using hu); exact this
  have hl1 := flat_len (f := tc) (k := 5) (fun _ => rfl) (l.take i)
  have hl2 := flat_len (f := tc) (k := 5) (fun _ => rfl) (l.drop i)
  rw [List.length_take, Nat.min_eq_left (by omega)] at hl1
  rw [List.length_drop] at hl2
  have hold : (Builtin.firstCells i0.size i (.slice (some ⟨g, 0, none⟩) i cap)).run Try.prog w.drew = .ok (flat tc (l.take i)).toArray w.drew := by
    rw [hz1]
    exact run_firstCells_some w.drew 5 i ⟨g, 0, none⟩ i cap (flat tc (l.take i)) hl1 (fun j v hj => by
      rw [Addr.add_mid, Nat.zero_add]
      exact row_first (f := tc) (w := w) hbox i j v hj)
  have hkk : (l.length : Int) + 1 - (i : Int) = ((l.length + 1 - i : Nat) : Int) := by omega
  have hik : i + (l.length + 1 - i) = l.length + 1 := by omega
  obtain ⟨G, ROW, W1, hG1, hG2, hR, hrz, hN, hbl, hW1s⟩ : ∃ (G : Nat) (ROW : List Value) (W1 : World), l.length + 1 ≤ G ∧ G ≤ 9223372036854775807 ∧ (ROW.length = G * 5 ∧ ROW.take (i * 5) = flat tc (l.take i)) ∧
      Hid (∀ ty, (Builtin.append_ #[24, 3] ty #[.slice (some ⟨g, 0, none⟩) i cap, .int .i64 ((l.length : Int) + 1 - (i : Int))]).run Try.prog w = .ok (.slice (some ⟨w.heap.size, 0, none⟩) (l.length + 1) G) W1) ∧
      Box W1 w.heap.size 49 ROW.toArray ∧ Below w.heap.size w W1 ∧ w.heap.size < W1.heap.size := by
    refine ⟨grownCap w (l.length + 1) cap 49, flat tc (l.take i) ++ (Builtin.zeroCells (Value.agg #[.int .i64 0, .int .i64 0, .int .i64 0, .int .i64 0, .string ⟨#[]⟩]).cells (l.length + 1 - i)).toList ++ (Builtin.zeroCells (Value.agg #[.int .i64 0, .int .i64 0, .int .i64 0, .int .i64 0, .string ⟨#[]⟩]).cells (grownCap w (l.length + 1) cap 49 - (l.length + 1))).toList,
      w.drew.alloc (.cells ((flat tc (l.take i)).toArray ++ Builtin.zeroCells (Value.agg #[.int .i64 0, .int .i64 0, .int .i64 0, .int .i64 0, .string ⟨#[]⟩]).cells (l.length + 1 - i) ++ Builtin.zeroCells (Value.agg #[.int .i64 0, .int .i64 0, .int .i64 0, .int .i64 0, .string ⟨#[]⟩]).cells (grownCap w (l.length + 1) cap 49 - (l.length + 1))) 49), grownCap_ge w _ _ _, ?_, ⟨?_, ?_⟩, ?_, ?_, ?_, ?_⟩
    · have := grownCap_le_maxLen w (l.length + 1) cap 49 (by unfold maxLen; omega)
      unfold maxLen at this; omega
    · have hge := grownCap_ge w (l.length + 1) cap 49
      have hs5 : ∀ n, (Builtin.zeroCells (Value.agg #[.int .i64 0, .int .i64 0, .int .i64 0, .int .i64 0, .string ⟨#[]⟩]).cells n).toList.length = n * 5 := fun n => by rw [Array.length_toList, size_zeroCells]; rfl
      rw [List.length_append, List.length_append, hs5, hs5, hl1]
      omega
    · rw [List.append_assoc, List.take_append_of_le_length (by omega), List.take_of_length_le (by omega)]
    · intro ty
      have h := Lib.run_append_grow_zeros w 24 3 ty 49 i0 _ .i64 .i64 Try.underlying24 Try.underlying3 hi0 hz0 (some ⟨g, 0, none⟩) i cap (flat tc (l.take i)) hold (l.length + 1 - i) (by omega) (by omega) (by omega) (by omega) (by rw [hz2]; omega) (by rw [hz2, hik]; exact growslice_fits hroom (by omega))
      rw [hik] at h
      rw [hkk]
      exact h
    · have e : ∀ (A : List Value) (B C : Array Value), (A ++ B.toList ++ C.toList).toArray = A.toArray ++ B ++ C := by intro A B C; simp
      rw [e]
      exact Box.new w.drew _ _
    · exact (Below.refl _ w).drew.alloc (Nat.le_refl _) _
    · simp
  have hgl := hbox.lt
  have hvl := hvb.lt
  have hsrc1 : Hid (∀ j u, (flat tc (l.drop i))[j]? = some u → w.cell? ((⟨g, i * 5, none⟩ : Addr).add j) = some u) := by
    intro j u hu
    rw [Addr.add_mid]
    exact row_from (f := tc) (k := 5) (w := w) (fun _ => rfl) hbox i (Nat.le_of_lt hi) j u hu
  have HN := Lib.hid hN
  have HV := Lib.hid (hvb.below hbl hvl)
  have H2 := Lib.hid hl2
  have HR1 := Lib.hid hR.1
  have HR2 := Lib.hid hR.2
  have hGn : (l.length + 1) * 5 ≤ G * 5 := Nat.mul_le_mul_right _ hG1
  have hfitA : i * 5 + 5 ≤ ROW.length := by rw [hR.1]; omega
  have hfit1 : (i + 1) * 5 + (l.length - i) * 5 ≤ ROW.length := by rw [hR.1]; omega
  have hz2' : ((i : Int) == (l.length : Int)) = false := by simp; omega
  have hz3 : (cap : Int) < (l.length : Int) + 1 := by omega
  have hin : i ≤ l.length := by omega
  have hb2 : ¬ (G = i + 1) := by omega
  have hb4 : ¬ (cap = i) := by omega
  have hb7 : ¬ (G = i) := by omega
  have hb3 : (i : Int) ≤ (l.length : Int) + 1 := by omega
  have hb5 : (0 : Int) ≤ (i : Int) + 1 := by omega
  have hb6 : (i : Int) + 1 ≤ (l.length : Int) + 1 := by omega
  have hb8 : i ≤ cap := by omega
  have hw1 : IntKind.i64.wrap ((i : Int) + 1) = (i : Int) + 1 := by rw [IntKind.wrap_i64]; omega
  have htn : ((i : Int) + 1).toNat = i + 1 := by omega
  clear hbox hvb hl1 hl2 hR hN hkk hik hold
  go_enter Try.func50, Try.ntmps50
  go_wp2_with (first | (at_builtin; refine Lib.wpList_append_run _ rfl (.tmp 34) (.tmp 39) 24 3 rfl _ _ rfl rfl _ _ (hrz.out _) ?_) | (refine wpList_copy_rowk rfl (.tmp 43) (.tmp 44) 24 24 rfl 49 i0 5 Try.underlying24 hi0 hz1 w.heap.size (i * 5) (l.length + 1 - i) (G - i) rfl ROW 49 HN.out ⟨vb, 0, none⟩ 1 1 rfl (tc t).toList (by simp only [Nat.min_def]; split <;> simp <;> omega) (World.news_of_block HV.out) hone2.out hfitA ?_; intro w2 hb2' hu2 hs2; have hsrc2 : Hid (∀ j u, (flat tc (l.drop i))[j]? = some u → w2.drew.cell? ((⟨g, i * 5, none⟩ : Addr).add j) = some u) := (fun j u hu => ((World.cell?_of_block (w := W1) (w' := w2) (hu2.block _ (by rw [Addr.add_mid]; exact (by omega : g < W1.heap.size)) (by rw [Addr.add_mid]; simp; omega))).trans (hbl.cell (by rw [Addr.add_mid]; exact hgl))).trans (hsrc1.out j u hu))))
  go_region_law (refine step_copy_rowk rfl (.tmp 50) (.tmp 53) 24 24 rfl 49 i0 5 Try.underlying24 hi0 hz1 w.heap.size ((i + 1) * 5) (l.length + 1 - (i + 1)) (G - (i + 1)) (by simp [Act.eval, Act.put]) _ 49 hb2'.out.drew ⟨g, i * 5, none⟩ (l.length - i) (cap - i) (by simp [Act.eval, Act.put]) (flat tc (l.drop i)) (by rw [H2.out]; simp only [Nat.min_def]; split <;> omega) hsrc2.out hone1.out (by rw [H2.out, splice_size _ _ _ hfitA]; exact hfit1) ?_; intro w3 hb3' hu3 hs3)
  go_wp2
  go_ret
  have hbb := hb3'.out
  have h0 := splice_size ROW (i * 5) (tc t).toList hfitA
  have h3 := splice_size (splice ROW (i * 5) (tc t).toList) ((i + 1) * 5) (flat tc (l.drop i)) (by rw [H2.out, h0]; exact hfit1)
  refine ⟨w.heap.size, G, rfl, box_own hbase hbb hG1 hG2 (by rw [h3, h0]; exact HR1.out) ?_ ?_, .inr (Nat.le_refl _), ?_, ?_⟩
  · have e2 := splice_take (splice ROW (i * 5) (tc t).toList) ((i + 1) * 5) (flat tc (l.drop i)) (by rw [h0]; omega)
    have e1 := splice_take ROW (i * 5) (tc t).toList (by omega)
    rw [HR2.out] at e1
    rw [H2.out, show (i + 1) * 5 + (l.length - i) * 5 = (l.length + 1) * 5 by omega] at e2
    rw [e2, show (i + 1) * 5 = i * 5 + (tc t).toList.length from Nat.add_mul i 1 5, e1, flat_append, flat_cons, List.append_assoc]
  · rw [flat_append, flat_cons, List.length_append, List.length_append, H2.out, flat_len (k := 5) (fun _ => rfl)]
    simp
    omega
  · exact hbb.lt
  · exact (Upd.below (hbl.trans ((hu2.drew.trans hu3).own (Nat.le_refl _) (Nat.le_of_lt hW1s))) g)

/-- wherever. -/
theorem insert_timer (l : List Loopy.Timer) (t : Loopy.Timer) (i : Nat) (hi : i ≤ l.length) (base : Nat) (v : Value) (w : World) (hown : w.ownsRow base 49 5 v l.length (flat tc l)) (hbase : base ≤ w.heap.size) (vb : Nat) (hvb : Box w vb 49 (tc t)) (hne : v.ownBlock ≠ some vb) (hl : l.length ≤ 1000000) :
    Calls Try.prog 50 #[v, .int .i64 (i : Int), .slice (some ⟨vb, 0, none⟩) 1 1] w fun e w' => InsOut w base 49 5 (l.length + 1) v.ownBlock (flat tc (l.take i ++ t :: l.drop i)) e w' := by
  rcases Nat.lt_or_ge i l.length with h | h
  · obtain ⟨g, cap, R, rfl, hb, hbox, h1, h2, h3⟩ := own_box hown (by omega)
    by_cases hr : l.length + 1 ≤ cap
    · exact insert_room l t i h base g cap R w hb hbox hr h2 h3 vb hvb (fun e => hne (by rw [e]; rfl)) hl
    · exact insert_full l t i h base g cap R w hbase hbox h1 (by omega) vb hvb hl
  · obtain rfl : i = l.length := by omega
    have := insert_end l t base v w hown hbase vb hvb hl
    rw [List.take_length, List.drop_length]
    exact this
end Go.Proofs.Ytpjbblbehbepbaa
