/-
  heapLives is true. Conditions: none.
-/
import Derived.Test.YtbhccidchjmjlaaHpL
namespace Hepy
def livesH : List Cell := [⟨1, [], []⟩, ⟨1, [], [⟨4, 2, []⟩]⟩, ⟨2, [[97]], [⟨4, 1, []⟩]⟩]
def livesM : List Cell := [⟨2, [[97]], [⟨4, 1, []⟩]⟩, ⟨1, [], [⟨4, 0, []⟩]⟩]
theorem lives_walked : walked livesH [⟨4, 2, []⟩] = [2, 1] := by decide +kernel
theorem lives_asked : askedH livesH [⟨4, 2, []⟩] = 0 := by decide +kernel
theorem lives_sorted : sorted [2, 1] = [1, 2] := by
  simp [sorted, List.mergeSort, List.MergeSort.Internal.splitInTwo, List.merge]
theorem lives_reach : reach livesH [⟨4, 2, []⟩] = ([1, 2], 0) := by
  unfold reach
  rw [lives_asked, lives_walked, lives_sorted]; rfl
theorem lives_move : move livesH [⟨4, 2, []⟩] = (livesM, [⟨4, 0, []⟩], 0) := by
  unfold move moved movedR
  rw [lives_asked, lives_walked]
  decide +kernel
end Hepy
namespace Go.Proofs.Ytbhccidchjmjlaa
set_option linter.unusedSimpArgs false
set_option linter.unusedVariables false
open Go.RowKit

def livesV (a b : Nat) : List CellV := [⟨⟨1, [], []⟩, none, 0, none, 0⟩, ⟨⟨1, [], [⟨4, 2, []⟩]⟩, none, 0, some ⟨a, 0, none⟩, 1⟩, ⟨⟨2, [[97]], [⟨4, 1, []⟩]⟩, some ⟨a + 1, 0, none⟩, 1, some ⟨b, 0, none⟩, 1⟩]
set_option maxRecDepth 100000 in
set_option maxHeartbeats 4000000 in
theorem heapLives_true (w : World) :
    Calls Try.prog 9 #[] w fun e w' => e = .returned (.bool true) ∧ Below w.heap.size w w' := by
  have HRT := Lib.hid (fun n w => refTo_any n w)
  go_enter Try.func9, Try.ntmps9
  go_wp2_with (fail)
  refine (HRT.out _ _).mono ?_
  rintro en w1 ⟨rfl, hb1⟩
  have HB1 := Lib.hid hb1
  have hz1 := hb1.size
  clear hb1
  go_wp2_with (fail)
  refine (HRT.out _ _).mono ?_
  rintro en w2 ⟨rfl, hb2⟩
  have BK := (Box.new w1 31 (vc ⟨4, 2, []⟩)).alloc (.cells #[.string (byt [97])] 9)
  have BN := new2 w1 (.cells (vc ⟨4, 2, []⟩) 31) 9 #[.string (byt [97])]
  have hU1 : Below w.heap.size w ((w1.alloc (.cells (vc ⟨4, 2, []⟩) 31)).alloc (.cells #[.string (byt [97])] 9)) := (HB1.out.alloc hz1 _).alloc (by simp <;> omega) _
  have hz2 := hb2.size
  simp at hz2
  have HK2 := Lib.hid (BK.below hb2 BK.lt)
  have HN2 := Lib.hid (BN.below hb2 BN.lt)
  have HU2 := Lib.hid (hU1.trans (hb2.mono (by simp <;> omega)))
  clear BK BN hU1 hb2
  go_upto_region 2 with (fail)
  refine gen_world (F := fun W => HRd W (livesV w1.heap.size w2.heap.size) (.slice (some ⟨w2.heap.size + 1, 0, none⟩) 3 3) ∧ Below w.heap.size w W) ⟨⟨rd_box (new2 w2 _ _ _) (by rfl) rfl (by omega), ?_⟩, (HU2.out.alloc (by omega) _).alloc (by simp <;> omega) _⟩ ?_
  · intro x hx
    simp only [livesV, List.mem_cons, List.not_mem_nil, or_false] at hx
    rcases hx with rfl | rfl | rfl
    · exact ⟨Rd.nil _ _, Rd.nil _ _, fun v hv => by simp at hv⟩
    · exact ⟨Rd.nil _ _, rd_box ((HK2.out.alloc _).alloc _) (by rfl) rfl (by show (1 : Nat) ≤ 100; omega), fun v hv => by simp at hv; subst hv; simp⟩
    · exact ⟨rd_box ((HN2.out.alloc _).alloc _) (by rfl) rfl (by show (1 : Nat) ≤ 100; omega), rd_box ((Box.new w2 _ _).alloc _) (by rfl) rfl (by show (1 : Nat) ≤ 100; omega), fun v hv => by simp at hv; subst hv; simp⟩
  rintro W ⟨hrd, hU⟩
  have HRD := Lib.hid hrd
  have HU := Lib.hid hU
  have hcv : cells (livesV w1.heap.size w2.heap.size) = Hepy.livesH := rfl
  have HCV := Lib.hid hcv
  have HSZ : Hid (Szs [⟨4, 2, []⟩]) := fun v hv => by simp at hv; subst hv; simp
  clear hrd hU hcv HK2 HN2 HU2 HB1
  generalize livesV w1.heap.size w2.heap.size = hV at *
  generalize w2.heap.size + 1 = gH at *
  go_wp2_with (fail)
  refine (HRT.out _ _).mono ?_
  rintro en w3 ⟨rfl, hb3⟩
  have HU3 := Lib.hid (HU.out.trans (hb3.mono HU.out.size))
  have HRD3 := Lib.hid (HRD.out.below hb3)
  have HR1 := Lib.hid (Reach_any hV _ [⟨4, 2, []⟩] (.slice (some ⟨w3.heap.size, 0, none⟩) 1 1) (w3.alloc (.cells (vc ⟨4, 2, []⟩) 31)) (HRD3.out.below (below1 w3 _)) (rd_box (Box.new w3 _ _) (by rfl) rfl (by omega)) HSZ.out)
  rw [HCV.out, Hepy.lives_reach] at HR1
  have hz3 := HU3.out.size
  clear hb3
  go_wp2_with (fail)
  refine (HR1.out).mono ?_
  rintro en w4 ⟨v4, rfl, hrd4, hb4⟩
  have hb34 : Below w3.heap.size w3 w4 := (below1 w3 _).trans (hb4.mono (by simp))
  have HU4 := Lib.hid (HU3.out.trans (hb34.mono hz3))
  have HRD4 := Lib.hid (HRD3.out.below hb34)
  have HL4 : Hid (RdL w4 1 ic [1, 2] v4) := hrd4
  obtain ⟨A4, cap4, rfl, _⟩ := hrd4
  have hz4 := HU4.out.size
  clear hb4 hb34 HR1
  simp only
  go_wp2_with (fail)
  refine (HRT.out _ _).mono ?_
  rintro en w5 ⟨rfl, hb5⟩
  have HU5 := Lib.hid (HU4.out.trans (hb5.mono hz4))
  have HRD5 := Lib.hid (HRD4.out.below hb5)
  have HL5 := Lib.hid (HL4.out.below hb5)
  have HM1 := Lib.hid (Move_any hV _ [⟨4, 2, []⟩] (.slice (some ⟨w5.heap.size, 0, none⟩) 1 1) (w5.alloc (.cells (vc ⟨4, 2, []⟩) 31)) (HRD5.out.below (below1 w5 _)) (rd_box (Box.new w5 _ _) (by rfl) rfl (by omega)) HSZ.out (by simp))
  rw [HCV.out, Hepy.lives_move] at HM1
  have hz5 := HU5.out.size
  clear hb5
  go_wp2_with (fail)
  refine (HM1.out).mono ?_
  rintro en w6 ⟨v6, v7, h6, rfl, hc6, hrd6, hrv6, hb6⟩
  have hb56 : Below w5.heap.size w5 w6 := (below1 w5 _).trans (hb6.mono (by simp))
  have HU6 := Lib.hid (HU5.out.trans (hb56.mono hz5))
  have HL6 := Lib.hid (HL5.out.below hb56)
  have HRV6 : Hid (RdL w6 3 vc [⟨4, 0, []⟩] v7) := hrv6
  have hlen6 : h6.length = 2 := by have := congrArg List.length hc6; rw [cells_len] at this; exact this
  obtain ⟨A6, cap6, rfl, _, _, hr6⟩ := hrd6.r
  obtain ⟨g6, o6, rfl, hg6, hrg6⟩ := hr6 (by omega)
  obtain ⟨x0, hx0⟩ : ∃ x, h6[0]? = some x := ⟨_, List.getElem?_eq_getElem (by omega)⟩
  have hk0 := RdL.elem (k := 3) (f := cc) (fun _ => rfl) hrg6 hx0 0 _ rfl
  have hkx : x0.c.kind = 2 := by
    have h1 : (cells h6)[0]? = some x0.c := by unfold cells; rw [List.getElem?_map, hx0]; rfl
    rw [hc6] at h1
    injection h1 with h1
    rw [← h1]
  rw [hkx] at hk0
  simp only [Nat.zero_mul, Nat.add_zero] at hk0
  obtain ⟨A7, cap7, rfl, _⟩ := hrv6
  have hz6 := HU6.out.size
  have HK0 := Lib.hid hk0
  have HOK : Hid (∀ w', RdL w' 1 ic [0, 0] (.slice (some ⟨w6.heap.size, 0, none⟩) 2 2) → Calls Try.prog 11 #[.slice (some ⟨w6.heap.size, 0, none⟩) 2 2] w' fun e w'' => e = .returned (.bool true) ∧ w'' = w') := fun w' h => ok_any [0, 0] _ w' h
  clear hb6 hb56 HM1 hx0 hrg6 hr6 hrd6 hc6 hkx hk0
  simp only [hlen6]
  clear hlen6
  go_wp2_with (fail)
  refine (HOK.out _ (rd_box (Box.new w6 _ _) (by rfl) rfl (by omega))).mono ?_
  rintro en w7 ⟨rfl, hw7⟩
  have hb7 : Below w6.heap.size w6 w7 := by rw [hw7]; exact below1 w6 _
  have HU7 := Lib.hid (HU6.out.trans (hb7.mono hz6))
  have HL7 := Lib.hid (HL6.out.below hb7)
  have HRV7 := Lib.hid (HRV6.out.below hb7)
  have k0 := (hb7.cell (p := ⟨g6, o6, none⟩) hg6).trans HK0.out
  have hz7 := HU7.out.size
  have hg7 : g6 < w7.heap.size := Nat.lt_of_lt_of_le hg6 hb7.size
  have HK7 := Lib.hid k0
  clear hw7 hb7 k0
  have HE7 := Lib.hid (equal_ints [1, 2] [1, 2] (.slice A4 2 cap4) (.slice (some ⟨w7.heap.size, 0, none⟩) 2 2) (w7.alloc (.cells #[.int .i64 1, .int .i64 2] 3)) (HL7.out.below (below1 w7 _)) (rd_box (Box.new w7 _ _) (by rfl) rfl (by omega)))
  rw [decide_eq_true rfl] at HE7
  go_wp2_with (fail)
  refine (HE7.out).mono ?_
  rintro en w8 ⟨rfl, hb8⟩
  have hb78 : Below w7.heap.size w7 w8 := (below1 w7 _).trans (hb8.mono (by simp))
  have HU8 := Lib.hid (HU7.out.trans (hb78.mono hz7))
  have HRV8 := Lib.hid (HRV7.out.below hb78)
  have k0 := (hb78.cell (p := ⟨g6, o6, none⟩) hg7).trans HK7.out
  have hz8 := HU8.out.size
  clear hb8 hb78 HE7
  go_wp2_with (fail)
  refine (HRT.out _ _).mono ?_
  rintro en w9 ⟨rfl, hb9⟩
  have HU9 := Lib.hid (HU8.out.trans (hb9.mono hz8))
  have HRV9 := Lib.hid (HRV8.out.below hb9)
  have hz9 := HU9.out.size
  clear hb9
  have HE9 := Lib.hid (equal_val [⟨4, 0, []⟩] [⟨4, 0, []⟩] (.slice A7 1 cap7) (.slice (some ⟨w9.heap.size, 0, none⟩) 1 1) (w9.alloc (.cells (vc ⟨4, 0, []⟩) 31)) (HRV9.out.below (below1 w9 _)) (rd_box (Box.new w9 _ _) (by rfl) rfl (by omega)) (by simp) (by simp))
  rw [decide_eq_true rfl] at HE9
  go_wp2_with (fail)
  refine (HE9.out).mono ?_
  rintro en w10 ⟨rfl, hb10⟩
  have HU10 := Lib.hid (HU9.out.trans (((below1 w9 _).trans (hb10.mono (by simp))).mono hz9))
  clear hb10
  go_wp2
  go_ret
  exact ⟨rfl, HU10.out⟩
end Go.Proofs.Ytbhccidchjmjlaa
