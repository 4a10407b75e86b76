/-
  read at a triple, and read at every text. Conditions: the text is not empty.
-/
import Derived.Test.YtdolmjeiakdfhaaGreatDoorUrD
namespace Go.Proofs.YtdolmjeiakdfhaaGreatDoor
set_option linter.unusedSimpArgs false
set_option linter.unusedVariables false
open Go.RowKit

theorem vint_lt (c : UInt8) : -1 ≤ vint c ∧ vint c < 16 := byte_all (p := fun c => -1 ≤ vint c ∧ vint c < 16) (by decide +kernel) c
theorem or_low : ∀ x : Fin 16, ∀ y : Fin 16, bits .or .i64 ((x.val : Int) * 16) (y.val : Int) = (x.val : Int) * 16 + (y.val : Int) := by decide +kernel
set_option maxRecDepth 100000 in
set_option maxHeartbeats 2000000 in
theorem read_triple (a b : UInt8) (r : List UInt8) (w : World) :
    Calls Tryz.prog 97 #[.string (byt (37 :: a :: b :: r))] w fun e w' => e = .returned (.tuple #[.int .u8 (if vint a < 0 ∨ vint b < 0 then 0 else vint a * 16 + vint b), .int .i64 (if vint a < 0 ∨ vint b < 0 then 0 else 3)]) ∧ Below w.heap.size w w' := by
  obtain ⟨S, hS⟩ : ∃ S, byt (37 :: a :: b :: r) = S := ⟨_, rfl⟩
  have hi := fun w => run_at S 37 0 (by omega) (by rw [← hS]; rfl) w
  have hi1 := fun w => run_at S a 1 (by omega) (by rw [← hS]; rfl) w
  have hi2 := fun w => run_at S b 2 (by omega) (by rw [← hS]; rfl) w
  have hsz : S.size = r.length + 3 := by rw [← hS, byt_size]; rfl
  have hd : decide ((S.size : Int) < 3) = false := decide_eq_false (by omega)
  have hdz : ¬ (S.size : Int) < 3 := by omega
  have hdn : ¬ S.size < 3 := by omega
  have HA : Hid (∀ w, Calls Tryz.prog 121 #[.int .u8 (a.toNat : Int)] w fun e w' => e = .returned (.int .i64 (vint a)) ∧ w' = w) := fun w => value_any a w
  have HB : Hid (∀ w, Calls Tryz.prog 121 #[.int .u8 (b.toNat : Int)] w fun e w' => e = .returned (.int .i64 (vint b)) ∧ w' = w) := fun w => value_any b w
  have hx := vint_lt a
  have hy := vint_lt b
  obtain ⟨na, hna⟩ : ∃ n : Int, (a.toNat : Int) = n := ⟨_, rfl⟩
  obtain ⟨nb, hnb⟩ : ∃ n : Int, (b.toNat : Int) = n := ⟨_, rfl⟩
  obtain ⟨x, hxe⟩ : ∃ x, vint a = x := ⟨_, rfl⟩
  obtain ⟨y, hye⟩ : ∃ y, vint b = y := ⟨_, rfl⟩
  rw [hna] at hi1 HA
  rw [hnb] at hi2 HB
  rw [hxe] at HA hx ⊢
  rw [hye] at HB hy ⊢
  rw [hS]
  clear hS hsz hna hnb hxe hye
  by_cases h1 : x < 0
  · have g1 : decide (x < 0) = true := decide_eq_true h1
    rw [if_pos (.inl h1), if_pos (.inl h1)]
    go_enter Tryz.func97, Tryz.ntmps97
    go_wp2_with (fail)
    refine (HA.out _).mono ?_
    rintro e w1 ⟨rfl, rfl⟩
    go_wp2
    go_returns
    exact ⟨rfl, Below.refl _ _⟩
  · have g1 : decide (x < 0) = false := decide_eq_false h1
    by_cases h2 : y < 0
    · have g2 : decide (y < 0) = true := decide_eq_true h2
      rw [if_pos (.inr h2), if_pos (.inr h2)]
      go_enter Tryz.func97, Tryz.ntmps97
      go_wp2_with (fail)
      refine (HA.out _).mono ?_
      rintro e w1 ⟨rfl, rfl⟩
      go_wp2_with (fail)
      refine (HB.out _).mono ?_
      rintro e w1 ⟨rfl, rfl⟩
      go_wp2
      go_returns
      exact ⟨rfl, Below.refl _ _⟩
    · have g2 : decide (y < 0) = false := decide_eq_false h2
      rw [if_neg (by omega), if_neg (by omega)]
      have ho : bits .or .i64 (x * 16) y = x * 16 + y := by
        have := or_low ⟨x.toNat, by omega⟩ ⟨y.toNat, by omega⟩
        simp only [Int.toNat_of_nonneg (show 0 ≤ x by omega), Int.toNat_of_nonneg (show 0 ≤ y by omega)] at this
        exact this
      have hw1 : IntKind.i64.wrap (x * 16) = x * 16 := by rw [IntKind.wrap_i64]; omega
      have hw2 : IntKind.u8.wrap (x * 16 + y) = x * 16 + y := by rw [IntKind.wrap_u8]; omega
      obtain ⟨hx1, hx2⟩ := hx
      obtain ⟨hy1, hy2⟩ := hy
      go_enter Tryz.func97, Tryz.ntmps97
      go_wp2_with (fail)
      refine (HA.out _).mono ?_
      rintro e w1 ⟨rfl, rfl⟩
      go_wp2_with (fail)
      refine (HB.out _).mono ?_
      rintro e w2 ⟨rfl, rfl⟩
      go_upto_region 5 with (fail)
      refine wp_region_held_drew (S := fun w' => Below w2.heap.size w2 w' ∧ True) (by kernel_rfl) ⟨(Below.refl _ w2).drew, trivial⟩ (fun hHeld => ?_)
      refine wpAnyH_take (i := 0) (v := ?_) rfl (by kernel_rfl) (by kernel_rfl) (by kernel_rfl) (fun _ _ _ h => h) (Or.inl ⟨by kernel_rfl, ?_⟩) (by assumption) ?_
      rotate_left
      · intro w hSw
        (try dsimp only at hSw)
        go_simp
        try (with_reducible rfl)
      (try simp only [Act.put, List.getElem_toArray, List.getElem_cons_zero, List.setIfInBounds_toArray, List.set_cons_zero, List.set_cons_succ])
      refine wpAnyH_take (i := 1) (v := ?_) rfl (by kernel_rfl) (by kernel_rfl) (by kernel_rfl) (fun _ _ _ h => h) (Or.inl ⟨by kernel_rfl, ?_⟩) (by assumption) ?_
      rotate_left
      · intro w hSw
        (try dsimp only at hSw)
        go_simp
        try (with_reducible rfl)
      (try simp only [Act.put, List.getElem_toArray, List.getElem_cons_succ, List.getElem_cons_zero, List.setIfInBounds_toArray, List.set_cons_zero, List.set_cons_succ])
      refine wpAnyH_take (i := 4) (v := ?_) rfl (by kernel_rfl) (by kernel_rfl) (by kernel_rfl) (fun _ _ _ h => h) (Or.inl ⟨by kernel_rfl, ?_⟩) (by assumption) ?_
      rotate_left
      · intro w hSw
        (try dsimp only at hSw)
        go_simp
        try (with_reducible rfl)
      (try simp only [Act.put, List.getElem_toArray, List.getElem_cons_succ, List.getElem_cons_zero, List.setIfInBounds_toArray, List.set_cons_zero, List.set_cons_succ])
      refine wpAnyH_take (i := 5) (v := ?_) rfl (by kernel_rfl) (by kernel_rfl) (by kernel_rfl) (fun _ _ _ h => h) (Or.inl ⟨by kernel_rfl, ?_⟩) (by assumption) ?_
      rotate_left
      · intro w hSw
        (try dsimp only at hSw)
        go_simp
        try (with_reducible rfl)
      (try simp only [Act.put, List.getElem_toArray, List.getElem_cons_succ, List.getElem_cons_zero, List.setIfInBounds_toArray, List.set_cons_zero, List.set_cons_succ])
      refine wpAnyH_ready (rs := [2]) (by kernel_rfl) (by simp) ?_
      refine AllReadyH.cons rfl (fun K hK => ?_) AllReadyH.nil
      go_simp
      refine (HA.out _).mono ?_
      rintro e w3 ⟨rfl, rfl⟩
      go_wp2_with (fail)
      refine hK.out _ _ ?_ (fun hHeld => ?_)
      · exact hHeld
      clear hK K
      (try simp only [Act.put, List.getElem_toArray, List.getElem_cons_succ, List.getElem_cons_zero, List.setIfInBounds_toArray, List.set_cons_zero, List.set_cons_succ])
      refine wpAnyH_take (i := 3) (v := ?_) rfl (by kernel_rfl) (by kernel_rfl) (by kernel_rfl) (fun _ _ _ h => h) (Or.inl ⟨by kernel_rfl, ?_⟩) (by assumption) ?_
      rotate_left
      · intro w hSw
        (try dsimp only at hSw)
        go_simp
        try (with_reducible rfl)
      (try simp only [Act.put, List.getElem_toArray, List.getElem_cons_succ, List.getElem_cons_zero, List.setIfInBounds_toArray, List.set_cons_zero, List.set_cons_succ])
      refine wpAnyH_ready (rs := [6]) (by kernel_rfl) (by simp) ?_
      refine AllReadyH.cons rfl (fun K hK => ?_) AllReadyH.nil
      go_simp
      refine (HB.out _).mono ?_
      rintro e w3 ⟨rfl, rfl⟩
      go_wp2_with (fail)
      refine hK.out _ _ ?_ (fun hHeld => ?_)
      · exact hHeld
      clear hK K
      (try simp only [Act.put, List.getElem_toArray, List.getElem_cons_succ, List.getElem_cons_zero, List.setIfInBounds_toArray, List.set_cons_zero, List.set_cons_succ])
      refine wpAnyH_take (i := 7) (v := ?_) rfl (by kernel_rfl) (by kernel_rfl) (by kernel_rfl) (fun _ _ _ h => h) (Or.inl ⟨by kernel_rfl, ?_⟩) (by assumption) ?_
      rotate_left
      · intro w hSw
        (try dsimp only at hSw)
        go_simp
        try (with_reducible rfl)
      (try simp only [Act.put, List.getElem_toArray, List.getElem_cons_succ, List.getElem_cons_zero, List.setIfInBounds_toArray, List.set_cons_zero, List.set_cons_succ])
      refine wpAnyH_take (i := 8) (v := ?_) rfl (by kernel_rfl) (by kernel_rfl) (by kernel_rfl) (fun _ _ _ h => h) (Or.inl ⟨by kernel_rfl, ?_⟩) (by assumption) ?_
      rotate_left
      · intro w hSw
        (try dsimp only at hSw)
        go_simp
        try (with_reducible rfl)
      (try simp only [Act.put, List.getElem_toArray, List.getElem_cons_succ, List.getElem_cons_zero, List.setIfInBounds_toArray, List.set_cons_zero, List.set_cons_succ])
      refine wpAnyH_take (i := 9) (v := ?_) rfl (by kernel_rfl) (by kernel_rfl) (by kernel_rfl) (fun _ _ _ h => h) (Or.inl ⟨by kernel_rfl, ?_⟩) (by assumption) ?_
      rotate_left
      · intro w hSw
        (try dsimp only at hSw)
        go_simp
        try (with_reducible rfl)
      (try simp only [Act.put, List.getElem_toArray, List.getElem_cons_succ, List.getElem_cons_zero, List.setIfInBounds_toArray, List.set_cons_zero, List.set_cons_succ])
      refine wpAnyH_take (i := 10) (v := ?_) rfl (by kernel_rfl) (by kernel_rfl) (by kernel_rfl) (fun _ _ _ h => h) (Or.inl ⟨by kernel_rfl, ?_⟩) (by assumption) ?_
      rotate_left
      · intro w hSw
        (try dsimp only at hSw)
        go_simp
        try (with_reducible rfl)
      (try simp only [Act.put, List.getElem_toArray, List.getElem_cons_succ, List.getElem_cons_zero, List.setIfInBounds_toArray, List.set_cons_zero, List.set_cons_succ])
      refine wpAnyH_done (by kernel_rfl) ?_ _
      go_wp2
      go_returns
      exact ⟨rfl, hHeld.1⟩
end Go.Proofs.YtdolmjeiakdfhaaGreatDoor
