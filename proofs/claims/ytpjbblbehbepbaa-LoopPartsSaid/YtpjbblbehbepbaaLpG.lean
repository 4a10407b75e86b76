/-
  slices.Insert of one timer in the midst of a row of the call's own: with room, and without. Conditions: as each says.
-/
import Derived.Test.YtpjbblbehbepbaaLpF
namespace Go.Proofs.Ytpjbblbehbepbaa
set_option linter.unusedSimpArgs false
set_option linter.unusedVariables false
open Go.RowKit

theorem flat_split {α : Type} (f : α → Array Value) (l : List α) (i : Nat) : flat f l = flat f (l.take i) ++ flat f (l.drop i) := by rw [← flat_append, List.take_append_drop]
/-- what a row holds from element i on. -/
theorem row_from {α : Type} {f : α → Array Value} {k : Nat} {w : World} {g : Nat} {e : TypeId} {l : List α} {R : List Value} (hk : ∀ x, (f x).size = k) (hb : Box w g e (flat f l ++ R).toArray) (i : Nat) (hi : i ≤ l.length) :
    ∀ j u, (flat f (l.drop i))[j]? = some u → w.cell? ⟨g, i * k + j, none⟩ = some u := by
  intro j u hu
  have h2 := flat_len hk (l.take i)
  rw [List.length_take, Nat.min_eq_left hi] at h2
  have hj := (List.getElem?_eq_some_iff.1 hu).1
  rw [hb.cell, List.getElem?_toArray, flat_split f l i, List.append_assoc, List.getElem?_append_right (by omega), h2, show i * k + j - i * k = j by omega, List.getElem?_append_left hj]
  exact hu
theorem row_first {α : Type} {f : α → Array Value} {w : World} {g : Nat} {e : TypeId} {l : List α} {R : List Value} (hb : Box w g e (flat f l ++ R).toArray) (i : Nat) :
    ∀ j u, (flat f (l.take i))[j]? = some u → w.cell? ⟨g, j, none⟩ = some u := by
  intro j u hu
  have hj := (List.getElem?_eq_some_iff.1 hu).1
  rw [hb.cell, List.getElem?_toArray, flat_split f l i, List.append_assoc, List.getElem?_append_left hj]
  exact hu

/-- what was shifted up, with what was laid over its begin. -/
theorem splice_over {α : Type} (L : List α) (o : Nat) (a b : List α) (h : o + a.length + b.length ≤ L.length) : (splice (splice L (o + a.length) b) o a).take (o + a.length + b.length) = L.take o ++ (a ++ b) := by
  have h1 : (L.take o).length = o := by simp; omega
  have h2 : (L.take (o + a.length)).length = o + a.length := by simp; omega
  have e1 : (splice L (o + a.length) b).take o = L.take o := splice_low _ _ _ _ (by omega) (by omega)
  have e2 : (splice L (o + a.length) b).drop (o + a.length) = b ++ L.drop (o + a.length + b.length) := by
    unfold splice
    rw [List.drop_append, h2, List.drop_of_length_le (by omega)]
    simp
  unfold splice at *
  rw [e1, e2, ← List.append_assoc a, ← List.append_assoc, List.take_append_of_le_length (by simp; omega), List.take_of_length_le (by simp; omega)]
set_option maxRecDepth 100000 in
set_option maxHeartbeats 4000000 in
/-- in the midst; there is room. -/
theorem insert_room (l : List Loopy.Timer) (t : Loopy.Timer) (i : Nat) (hi : i < l.length) (base : Nat) (g cap : Nat) (R : List Value) (w : World) (hbase : base ≤ g) (hbox : Box w g 49 (flat tc l ++ R).toArray)
    (hroom : l.length + 1 ≤ cap) (hcap2 : cap ≤ 9223372036854775807) (hsz : (flat tc l ++ R).length = cap * 5) (vb : Nat) (hvb : Box w vb 49 (tc t)) (hne : vb ≠ g) (hl : l.length ≤ 1000000) :
    Calls Try.prog 50 #[.slice (some ⟨g, 0, none⟩) l.length cap, .int .i64 (i : Int), .slice (some ⟨vb, 0, none⟩) 1 1] w fun e w' => InsOut w base 49 5 (l.length + 1) (some g) (flat tc (l.take i ++ t :: l.drop i)) e w' := by
  obtain ⟨i0, hi0, hz0, hz1, hz2⟩ := info_parts parts_timer
  have hone1 := Lib.hid (flat_one (f := tc) tc_one (l.drop i))
  have hone2 : Hid (∀ u ∈ (tc t).toList, u.oneCell' = true) := by intro u hu; have := flat_one (f := tc) tc_one [t] u (by simpa [flat] using hu); exact this
  have hl1 := flat_len (f := tc) (k := 5) (fun _ => rfl) (l.take i)
  have hl2 := flat_len (f := tc) (k := 5) (fun _ => rfl) (l.drop i)
  rw [List.length_take, Nat.min_eq_left (by omega)] at hl1
  rw [List.length_drop] at hl2
  have hsrc1 : Hid (∀ j u, (flat tc (l.drop i))[j]? = some u → w.drew.cell? ((⟨g, i * 5, none⟩ : Addr).add j) = some u) := by
    intro j u hu
    rw [Addr.add_mid]
    exact row_from (f := tc) (k := 5) (w := w) (fun _ => rfl) hbox i (Nat.le_of_lt hi) j u hu
  have hov : ∀ lb cb, (callFunc 51 #[.slice (some ⟨vb, 0, none⟩) 1 1, .slice (some ⟨g, (i + 1) * 5, none⟩) lb cb]).run Try.prog w = .ok (.value (.bool false)) w := fun lb cb => by
    rw [run_callFunc_extern Try.func51 (by kernel_rfl) (by kernel_rfl) (by kernel_rfl) (e := Extern.SlicesOverlaps.overlaps #[24, 24] #[4]) (by kernel_rfl),
      Lib.run_overlaps_apart w 24 4 49 Try.underlying24 5 size_timer ⟨vb, 0, none⟩ ⟨g, (i + 1) * 5, none⟩ 1 1 lb cb hne 49 49 5 (flat tc l ++ R).length
        (by unfold Box at hvb; simp [World.shape?, hvb]) (by unfold Box at hbox; simp [World.shape?, hbox]) (by rw [hsz]; omega) (hvb.frozen 0) (hvb.frozen 5)]
    rfl
  have HB := Lib.hid hbox
  have HV := Lib.hid hvb
  have H2 := Lib.hid hl2
  have HZ := Lib.hid hsz
  have hfit1 : (i + 1) * 5 + (l.length - i) * 5 ≤ (flat tc l ++ R).length := by rw [hsz]; have : (l.length + 1) * 5 ≤ cap * 5 := Nat.mul_le_mul_right _ hroom; omega
  have hfitA : i * 5 + 5 ≤ (flat tc l ++ R).length := by omega
  have hz2' : ((i : Int) == (l.length : Int)) = false := by simp; omega
  have hz3 : ¬ ((cap : Int) < (l.length : Int) + 1) := by omega
  have hin : i ≤ l.length := by omega
  have hb2 : ¬ (cap = i + 1) := by omega
  have hb4 : ¬ (cap = i) := by omega
  have hb3 : (i : Int) ≤ (l.length : Int) + 1 := by omega
  have hb5 : (0 : Int) ≤ (i : Int) + 1 := by omega
  have hb6 : (i : Int) + 1 ≤ (l.length : Int) + 1 := by omega
  have ht1 : (flat tc l ++ R).take (i * 5) = flat tc (l.take i) := by
    rw [flat_split tc l i, List.append_assoc, List.take_append_of_le_length (by omega), List.take_of_length_le (by omega)]
  have HT := Lib.hid ht1
  have hw1 : IntKind.i64.wrap ((i : Int) + 1) = (i : Int) + 1 := by rw [IntKind.wrap_i64]; omega
  have htn : ((i : Int) + 1).toNat = i + 1 := by omega
  clear hbox hvb hsz hl1 hl2 ht1
  go_enter Try.func50, Try.ntmps50
  go_wp2_with (simp only [hov])
  go_region_law (refine step_copy_rowk rfl (.tmp 73) (.tmp 76) 24 24 rfl 49 i0 5 Try.underlying24 hi0 hz1 g ((i + 1) * 5) (l.length + 1 - (i + 1)) (cap - (i + 1)) (by simp [Act.eval, Act.put]) (flat tc l ++ R) 49 HB.out.drew ⟨g, i * 5, none⟩ (l.length + 1 - i) (cap - i) (by simp [Act.eval, Act.put]) (flat tc (l.drop i)) (by rw [H2.out]; simp only [Nat.min_def]; split <;> omega) hsrc1.out hone1.out (by rw [H2.out]; exact hfit1) ?_; intro w1 hb1 hu1 hs1)
  go_wp2_with (refine wpList_copy_rowk rfl (.tmp 80) (.tmp 81) 24 24 rfl 49 i0 5 Try.underlying24 hi0 hz1 g (i * 5) (l.length + 1 - i) (cap - i) rfl _ 49 hb1.out ⟨vb, 0, none⟩ 1 1 rfl (tc t).toList (by simp only [Nat.min_def]; split <;> simp <;> omega) (World.news_of_block (HV.out.drew.grown hu1 (by simpa using hne))) hone2.out (by rw [splice_size _ _ _ (by rw [H2.out]; exact hfit1)]; exact hfitA) ?_; intro w2 hb2 hu2 hs2)
  go_ret
  have hbb := hb2.out
  have h0 := splice_size (flat tc l ++ R) ((i + 1) * 5) (flat tc (l.drop i)) (by rw [H2.out]; exact hfit1)
  have h3 := splice_size (splice (flat tc l ++ R) ((i + 1) * 5) (flat tc (l.drop i))) (i * 5) (tc t).toList (by rw [h0]; exact hfitA)
  refine ⟨g, cap, rfl, box_own hbase hbb hroom hcap2 (by rw [h3, h0]; exact HZ.out) ?_ ?_, .inl rfl, ?_, ((Upd.refl w g).drew.trans hu1).trans hu2⟩
  · have e1 := splice_over (flat tc l ++ R) (i * 5) (tc t).toList (flat tc (l.drop i)) (by rw [H2.out]; show i * 5 + 5 + _ ≤ _; omega)
    rw [HT.out] at e1
    rw [show (i + 1) * 5 = i * 5 + (tc t).toList.length from Nat.add_mul i 1 5, show (l.length + 1) * 5 = i * 5 + (tc t).toList.length + (flat tc (l.drop i)).length by rw [H2.out]; show _ = i * 5 + 5 + _; omega, e1, flat_append, flat_cons]
  · rw [flat_append, flat_cons, List.length_append, List.length_append, H2.out, flat_len (k := 5) (fun _ => rfl)]
    simp
    omega
  · have := hbb.lt
    omega
end Go.Proofs.Ytpjbblbehbepbaa
