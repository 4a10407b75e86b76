/-
  slices.Grow of no row; slices.Concat of two rows of texts. Conditions: no more than 4000 texts; one at least.
-/
import Derived.Test.YtlepbooegofoeaaGreatDoorUsB
import Derived.Lib.AppendZeros
namespace Go.Proofs.YtlepbooegofoeaaGreatDoor
set_option linter.unusedSimpArgs false
set_option linter.unusedVariables false
open Go.RowKit

/-- a row of one's own that is empty, with room. -/
def GrowOut (w : World) (e : Ending) (w' : World) : Prop := ∃ v, e = .returned v ∧ w'.ownsRow w.heap.size 9 1 v 0 [] ∧ Below w.heap.size w w'
set_option maxRecDepth 100000 in
set_option maxHeartbeats 4000000 in
theorem grow_nil (n : Nat) (h0 : 0 < n) (hn : n ≤ 100000) (w : World) :
    Calls Tryz.prog 93 #[.slice none 0 0, .int .i64 (n : Int)] w (GrowOut w) := by
  obtain ⟨i0, hi, hi0, hi1, hi2⟩ := info_parts txt_info
  have hap := Lib.hid (fun ty w => Lib.run_append_nil_zeros (P := Tryz.prog) w 38 3 ty 9 i0 (.string ByteArray.empty) .i64 .i64 Tryz.underlying38 Tryz.underlying3 hi hi0 n h0 (by omega) (by omega) (by rw [hi2]; omega))
  have d1 : ¬ (n : Int) < 0 := by omega
  have d2 : (0 : Int) < (n : Int) := by omega
  have d3 : decide ((n : Int) > 0) = true := decide_eq_true (by omega)
  have hwr : IntKind.i64.wrap (n : Int) = (n : Int) := by rw [IntKind.wrap_i64]; omega
  go_enter Tryz.func93, Tryz.ntmps93
  go_wp2_with (at_builtin; refine Lib.wpList_append_run _ rfl _ _ _ _ rfl _ _ rfl rfl _ _ (hap.out _ _) ?_)
  go_ret
  have hge := grownCap_ge w n 0 9
  have hle := grownCap_le_maxLen w n 0 9 (by unfold maxLen; omega)
  unfold maxLen at hle
  refine ⟨_, rfl, box_own (cur := (Builtin.zeroCells (Value.string ByteArray.empty).cells n ++ Builtin.zeroCells (Value.string ByteArray.empty).cells (grownCap w n 0 9 - n)).toList) (Nat.le_refl _) ?_ (Nat.zero_le _) hle ?_ rfl rfl, (below_drewN (Below.refl _ w) 1).trans (below1 w.drew _)⟩
  · exact Box.new w.drew _ _
  · rw [Array.length_toList, Array.size_append, size_zeroCells, size_zeroCells]
    show n * 1 + _ * 1 = _
    omega
/-! ### two rows, one behind the other -/
theorem adr_block (a : Addr) (j : Nat) : (a.add j).block = a.block := by unfold Addr.add; split <;> rfl
def ConcatOut (l1 l2 : List (List UInt8)) (w : World) (e : Ending) (w' : World) : Prop := ∃ v, e = .returned v ∧ w'.ownsRow w.heap.size 9 1 v (l1 ++ l2).length (txts (l1 ++ l2)) ∧ Below w.heap.size w w'
theorem txts_app (a b : List (List UInt8)) : txts (a ++ b) = txts a ++ txts b := by simp [txts]
theorem txts_one (l : List (List UInt8)) : ∀ u ∈ txts l, u.oneCell' = true := by
  intro u hu
  simp only [txts, List.mem_map] at hu
  obtain ⟨x, _, rfl⟩ := hu
  rfl
set_option maxRecDepth 100000 in
set_option maxHeartbeats 4000000 in
theorem concat_any (l1 l2 : List (List UInt8)) (a1 a2 : Addr) (c1 c2 b : Nat) (w : World) (h1 : l1.length ≤ 2000) (h2 : l2.length ≤ 2000) (h0 : 0 < l2.length)
    (hb : Box w b 38 #[.slice (some a1) l1.length c1, .slice (some a2) l2.length c2])
    (hr1 : ∀ (j : Nat) (u : Value), (txts l1)[j]? = some u → w.cell? (a1.add j) = some u) (hr2 : ∀ (j : Nat) (u : Value), (txts l2)[j]? = some u → w.cell? (a2.add j) = some u) (hl1 : a1.block < w.heap.size) (hl2 : a2.block < w.heap.size) :
    Calls Tryz.prog 71 #[.slice (some ⟨b, 0, none⟩) 2 2] w (ConcatOut l1 l2 w) := by
  obtain ⟨i0, hi, hi0, hi1, hi2⟩ := info_parts txt_info
  have HG : Hid (∀ w, Calls Tryz.prog 93 #[.slice none 0 0, .int .i64 ((l1.length : Int) + (l2.length : Int))] w (GrowOut w)) := Lib.hid (fun w => by
    have := grow_nil (l1.length + l2.length) (by omega) (by omega) w
    rwa [Int.natCast_add] at this)
  have HB := Lib.hid hb
  have HR1 := Lib.hid hr1
  have HR2 := Lib.hid hr2
  obtain ⟨n1, hn1⟩ : ∃ n, l1.length = n := ⟨_, rfl⟩
  obtain ⟨n2, hn2⟩ : ∃ n, l2.length = n := ⟨_, rfl⟩
  rw [hn1, hn2] at HG HB
  rw [hn1] at h1
  rw [hn2] at h2 h0
  have HN := Lib.hid (And.intro hn1 hn2)
  have x0 : w.cell? ⟨b, 0, none⟩ = some (.slice (some a1) n1 c1) := HB.out.cell 0
  have x1 : w.cell? ⟨b, 1, none⟩ = some (.slice (some a2) n2 c2) := HB.out.cell 1
  have w1 : IntKind.i64.wrap ((n1 : Int) + (n2 : Int)) = (n1 : Int) + (n2 : Int) := by rw [IntKind.wrap_i64]; omega
  have w2 : IntKind.i64.wrap (n1 : Int) = (n1 : Int) := by rw [IntKind.wrap_i64]; omega
  have g1 : ¬ (n1 : Int) < 0 := by omega
  have g2 : ¬ (n1 : Int) + (n2 : Int) < 0 := by omega
  have g3 : decide ((n1 : Int) < 0) = false := decide_eq_false g1
  have g4 : decide ((n1 : Int) + (n2 : Int) < 0) = false := decide_eq_false g2
  clear hb hr1 hr2 hn1 hn2
  go_enter Tryz.func71, Tryz.ntmps71
  go_wp2
  go_loopg [3, 5, 11] 2 (fun g s _ v wr => wr = w ∧ ((g = 2 ∧ s = .int .i64 0 ∧ v = .int .i64 0) ∨ (g = 1 ∧ s = .int .i64 (n1 : Int) ∧ v = .int .i64 1) ∨ (g = 0 ∧ s = .int .i64 ((n1 : Int) + (n2 : Int)) ∧ v = .int .i64 2)))
  case atStart => exact ⟨rfl, .inl ⟨rfl, rfl, rfl⟩⟩
  case round =>
    obtain ⟨rfl, ⟨rfl, rfl, rfl⟩ | ⟨rfl, rfl, rfl⟩ | ⟨rfl, rfl, rfl⟩⟩ := hrel
    · go_wp2
      go_roundg 1
      case measure => omega
      case rel => exact ⟨rfl, .inr (.inl ⟨rfl, by go_num, rfl⟩)⟩
    · go_wp2
      go_roundg 0
      case measure => omega
      case rel => exact ⟨rfl, .inr (.inr ⟨rfl, by go_num, rfl⟩)⟩
    · go_wp2_with (fail)
      refine (HG.out _).mono ?_
      rintro e w3 ⟨v, rfl, hown, hw3⟩
      obtain ⟨A0, cap0, rfl⟩ := own_slice hown
      obtain ⟨wa, rfl⟩ : ∃ wa : World, wa = wr := ⟨_, rfl⟩
      have HO := Lib.hid hown
      have HW := Lib.hid hw3
      have HX : Hid (∀ {w4 : World}, Below wa.heap.size wa w4 → Box w4 b 38 #[.slice (some a1) n1 c1, .slice (some a2) n2 c2] ∧ (∀ (j : Nat) (u : Value), (txts l1)[j]? = some u → w4.cell? (a1.add j) = some u) ∧ (∀ (j : Nat) (u : Value), (txts l2)[j]? = some u → w4.cell? (a2.add j) = some u)) := Lib.hid (fun h4 => ⟨HB.out.below h4 HB.out.lt, fun j u hu => by rw [h4.cell (p := a1.add j) (by rw [adr_block]; exact hl1)]; exact HR1.out j u hu, fun j u hu => by rw [h4.cell (p := a2.add j) (by rw [adr_block]; exact hl2)]; exact HR2.out j u hu⟩)
      clear hown hw3 x0 x1 HG HR1 HR2
      go_wp2
      go_loopg [6, 8, 27] 2 (fun g t _ v w4 => Below wa.heap.size wa w4 ∧ ((g = 2 ∧ v = .int .i64 0 ∧ w4.ownsRow wa.heap.size 9 1 t 0 []) ∨ (g = 1 ∧ v = .int .i64 1 ∧ w4.ownsRow wa.heap.size 9 1 t n1 (txts l1)) ∨ (g = 0 ∧ v = .int .i64 2 ∧ w4.ownsRow wa.heap.size 9 1 t (n1 + n2) (txts l1 ++ txts l2))))
      case atStart => exact ⟨HW.out, .inl ⟨rfl, rfl, HO.out⟩⟩
      case round =>
        obtain ⟨hw4, ⟨rfl, rfl, hown⟩ | ⟨rfl, rfl, hown⟩ | ⟨rfl, rfl, hown⟩⟩ := hrel
        · have HO4 := Lib.hid hown
          have HW4 := Lib.hid hw4
          have hzr := hw4.size
          obtain ⟨A, cap, rfl⟩ := own_slice hown
          have hx0 : wr.cell? ⟨b, 0, none⟩ = some (.slice (some a1) n1 c1) := (HX.out hw4).1.cell 0
          have HRA := Lib.hid (HX.out hw4).2.1
          clear hown hw4
          go_wp2_with (at_builtin; refine wpList_append_own _ rfl (.tmp 31) (.tmp 32) 38 rfl wa.heap.size 9 i0 (.string ByteArray.empty) 1 16 Tryz.underlying38 hi hi0 hi1 hi2 rfl (by decide) (.slice A 0 cap) 0 [] rfl HO4.out a1 n1 c1 (txts l1) rfl ?c2 HRA.out (txts_one _) ?c3 ?c4 ?c5 ?_)
          case c2 => rw [txts_len, HN.out.1, Nat.mul_one]
          case c3 => unfold maxLen; omega
          case c4 => omega
          case c5 => omega
          intro v' w6 hown' hgrow _
          have HOW := Lib.hid hown'
          have HW6 : Hid (Below wa.heap.size wa w6) := Lib.hid (grown_below HW4.out hgrow HO4.out hzr)
          clear hown' hgrow
          go_wp2
          go_roundg 1
          case measure => omega
          case rel => exact ⟨HW6.out, .inr (.inl ⟨rfl, rfl, by have := HOW.out; simpa using this⟩)⟩
        · have HO4 := Lib.hid hown
          have HW4 := Lib.hid hw4
          have hzr := hw4.size
          obtain ⟨A, cap, rfl⟩ := own_slice hown
          have hx0 : wr.cell? ⟨b, 1, none⟩ = some (.slice (some a2) n2 c2) := (HX.out hw4).1.cell 1
          have HRA := Lib.hid (HX.out hw4).2.2
          clear hown hw4
          go_wp2_with (at_builtin; refine wpList_append_own _ rfl (.tmp 31) (.tmp 32) 38 rfl wa.heap.size 9 i0 (.string ByteArray.empty) 1 16 Tryz.underlying38 hi hi0 hi1 hi2 rfl (by decide) (.slice A n1 cap) n1 (txts l1) rfl HO4.out a2 n2 c2 (txts l2) rfl ?c2 HRA.out (txts_one _) ?c3 ?c4 ?c5 ?_)
          case c2 => rw [txts_len, HN.out.2, Nat.mul_one]
          case c3 => unfold maxLen; omega
          case c4 => omega
          case c5 => omega
          intro v' w6 hown' hgrow _
          have HOW := Lib.hid hown'
          have HW6 : Hid (Below wa.heap.size wa w6) := Lib.hid (grown_below HW4.out hgrow HO4.out hzr)
          clear hown' hgrow
          go_wp2
          go_roundg 0
          case measure => omega
          case rel => exact ⟨HW6.out, .inr (.inr ⟨rfl, rfl, HOW.out⟩)⟩
        · have HO4 := Lib.hid hown
          have HW4 := Lib.hid hw4
          clear hown hw4
          go_wp2
          go_ret
          exact ⟨_, rfl, by rw [List.length_append, HN.out.1, HN.out.2, txts_app]; exact HO4.out, HW4.out⟩
end Go.Proofs.YtlepbooegofoeaaGreatDoor
