/-
  What stands behind a backslash. Conditions: as in the texts before.
-/
import Derived.Test.YtgeaphapnoiniaaDoorJlE
namespace Go.Proofs.YtgeaphapnoiniaaDoor
open Go.RowKit

/-- peek, whatever the place. -/
theorem peek_any (b : Nat) (s : ByteArray) (k j : Nat) (o : Value) (w : World) (h : Rd w b s k o) (hk : k ≤ s.size) (hm : s.size ≤ 1000000) (hj : j ≤ 1000) :
    Calls Tryd.prog 20 #[.pointer (some ⟨b, 0, none⟩), .int .i64 (j : Int)] w fun e w' => e = .returned (.int .u8 ((((s.data.toList.drop k)[j]?).getD 0).toNat : Int)) ∧ ∃ n, w' = w.drewN n := by
  rw [List.getElem?_drop]
  by_cases hlt : k + j < s.size
  · have hx : k + j < s.data.toList.length := by simpa using hlt
    have hg : s.data.toList[k + j]? = some s.data.toList[k + j] := List.getElem?_eq_getElem hx
    rw [hg]
    exact peek_in b s k j _ w h.text h.place hm hj (by omega) hlt hg
  · rw [List.getElem?_eq_none (by simp; omega)]
    exact peek_out b s k j w h.text h.place hm hj (by omega) (by omega)

def hexText : Lexy.Bs := [48, 49, 50, 51, 52, 53, 54, 55, 56, 57, 97, 98, 99, 100, 101, 102]
def hexI (c : UInt8) : Int := match Lexy.hexv c with | some x => (x.toNat : Int) | none => -1
theorem hexI_eq : ∀ c : UInt8, Lib.indexByte hexText c = hexI c := by
  have h : ∀ n : Fin 256, Lib.indexByte hexText (UInt8.ofNat n) = hexI (UInt8.ofNat n) := by decide +kernel
  intro c
  have := h ⟨c.toNat, c.toNat_lt⟩
  simpa using this
theorem hexI_bd (c : UInt8) : -1 ≤ hexI c ∧ hexI c ≤ 15 := by
  have h : ∀ n : Fin 256, -1 ≤ hexI (UInt8.ofNat n) ∧ hexI (UInt8.ofNat n) ≤ 15 := by decide +kernel
  have := h ⟨c.toNat, c.toNat_lt⟩
  simpa using this

theorem hex_any (c : UInt8) (w : World) : Calls Tryd.prog 43 #[.int .u8 (c.toNat : Int)] w fun e w' => e = .returned (.int .i64 (hexI c)) ∧ w = w' := by
  have HI : Hid (∀ w, Calls Tryd.prog 21 #[.string (bytes hexText), .int .u8 (c.toNat : Int)] w fun e w' => e = .returned (.int .i64 (hexI c)) ∧ w = w') := by
    intro w
    refine (index_byte (bytes hexText) (c.toNat : Int) w).mono fun e w' ⟨he, hw⟩ => ⟨?_, hw.symm⟩
    rw [he, ← hexI_eq]
    have e1 : ((c.toNat : Int).toNat).toUInt8 = c := by simp
    have e2 : (bytes hexText).data.toList = hexText := rfl
    rw [e1, e2]
  go_enter Tryd.func43, Tryd.ntmps43
  go_wp2_with (go_at_call 21; refine (HI.out _).mono ?_; rintro e w' ⟨rfl, rfl⟩)
  go_ret
  exact ⟨rfl, rfl⟩

theorem hexI_neg {c : UInt8} (h : ¬ 0 ≤ hexI c) : Lexy.hexv c = none := by
  unfold hexI at h
  cases hc : Lexy.hexv c with
  | none => rfl
  | some x => rw [hc] at h; simp at h
theorem hexI_pos {c : UInt8} (h : 0 ≤ hexI c) : ∃ x, Lexy.hexv c = some x ∧ hexI c = (x.toNat : Int) := by
  unfold hexI at h ⊢
  cases hc : Lexy.hexv c with
  | none => rw [hc] at h; simp at h
  | some x => exact ⟨x, rfl, rfl⟩
theorem or_hex : ∀ a b : Fin 16, bits .or .i64 (((a : Nat) : Int) * 16) ((b : Nat) : Int) % 256 = (((a : Nat) * 16 + (b : Nat) : Nat) : Int) := by decide +kernel

def escV (l : Lexy.Bs) : UInt8 × Nat := (Lexy.esc l).getD (0, 0)

def escC (c : UInt8) (X Y : Int) : UInt8 × Nat :=
  if c = 34 ∨ c = 92 then (c, 1) else if c = 110 then (10, 1) else if c = 116 then (9, 1) else if c = 120 ∧ 0 ≤ X ∧ 0 ≤ Y then (UInt8.ofNat (X.toNat * 16 + Y.toNat), 3) else (0, 0)
theorem escV_eq (l : Lexy.Bs) : escV l = escC ((l[0]?).getD 0) (hexI ((l[1]?).getD 0)) (hexI ((l[2]?).getD 0)) := by
  have h0 : hexI 0 = -1 := by decide
  unfold escV escC
  cases l with
  | nil => simp [Lexy.esc]
  | cons c r =>
    simp only [Lexy.esc, List.getElem?_cons_zero, Option.getD_some]
    by_cases h1 : c = 34 ∨ c = 92
    · rw [if_pos (by simpa using h1), if_pos h1]; rfl
    rw [if_neg (by simpa using h1), if_neg h1]
    by_cases h2 : c = 110
    · rw [if_pos (by simpa using h2), if_pos h2]; rfl
    rw [if_neg (by simpa using h2), if_neg h2]
    by_cases h3 : c = 116
    · rw [if_pos (by simpa using h3), if_pos h3]; rfl
    rw [if_neg (by simpa using h3), if_neg h3]
    by_cases h4 : c = 120
    · rw [if_pos (by simpa using h4)]
      cases r with
      | nil => simp [h0]
      | cons a r =>
        cases r with
        | nil => simp [h0]
        | cons d r =>
          simp only [List.getElem?_cons_succ, List.getElem?_cons_zero, Option.getD_some]
          by_cases hx : 0 ≤ hexI a
          · by_cases hy : 0 ≤ hexI d
            · obtain ⟨x, ex, ex2⟩ := hexI_pos hx
              obtain ⟨y, ey, ey2⟩ := hexI_pos hy
              rw [if_pos ⟨h4, hx, hy⟩, ex, ey, ex2, ey2]
              simp
            · rw [if_neg (fun h => hy h.2.2), hexI_neg hy]
              cases Lexy.hexv a <;> rfl
          · rw [if_neg (fun h => hx h.2.1), hexI_neg hx]
            rfl
    · rw [if_neg (by simpa using h4), if_neg (fun h => h4 h.1)]
      rfl
theorem escC_a {c : UInt8} (X Y : Int) (h : c = 34 ∨ c = 92) : escC c X Y = (c, 1) := by unfold escC; rw [if_pos h]
theorem escC_n (X Y : Int) : escC 110 X Y = (10, 1) := by simp [escC]
theorem escC_t (X Y : Int) : escC 116 X Y = (9, 1) := by simp [escC]
theorem escC_x (m n : Nat) : escC 120 (m : Int) (n : Int) = (UInt8.ofNat (m * 16 + n), 3) := by simp [escC]
theorem escC_no {c : UInt8} (X Y : Int) (h1 : ¬ (c = 34 ∨ c = 92)) (h2 : c ≠ 110) (h3 : c ≠ 116) (h4 : ¬ (c = 120 ∧ 0 ≤ X ∧ 0 ≤ Y)) : escC c X Y = (0, 0) := by
  unfold escC; rw [if_neg h1, if_neg h2, if_neg h3, if_neg h4]

set_option maxRecDepth 100000 in
set_option maxHeartbeats 1000000 in
theorem escape_any (b : Nat) (s : ByteArray) (k : Nat) (o : Value) (w : World) (h : Rd w b s k o) (hk : k ≤ s.size) (hm : s.size ≤ 1000000) :
    Calls Tryd.prog 35 #[.pointer (some ⟨b, 0, none⟩)] w fun e w' =>
      e = .returned (.tuple #[.int .u8 ((escV (s.data.toList.drop k)).1.toNat : Int), .int .i64 ((escV (s.data.toList.drop k)).2 : Int)]) ∧ ∃ n, w' = w.drewN n := by
  obtain ⟨l, hl⟩ : ∃ l, s.data.toList.drop k = l := ⟨_, rfl⟩
  have P0 := Lib.hid (fun w (h : Rd w b s k o) => peek_any b s k 0 o w h hk hm (by omega))
  have P1 := Lib.hid (fun w (h : Rd w b s k o) => peek_any b s k 1 o w h hk hm (by omega))
  have P2 := Lib.hid (fun w (h : Rd w b s k o) => peek_any b s k 2 o w h hk hm (by omega))
  rw [hl] at P0 P1 P2 ⊢
  clear hl
  obtain ⟨c, hc⟩ : ∃ c, (l[0]?).getD 0 = c := ⟨_, rfl⟩
  obtain ⟨x, hx⟩ : ∃ x, (l[1]?).getD 0 = x := ⟨_, rfl⟩
  obtain ⟨y, hy⟩ : ∃ y, (l[2]?).getD 0 = y := ⟨_, rfl⟩
  have HX := Lib.hid (fun w => hex_any x w)
  have HY := Lib.hid (fun w => hex_any y w)
  rw [escV_eq l, hc, hx, hy]
  rw [hc] at P0
  rw [hx] at P1
  rw [hy] at P2
  have hbx := hexI_bd x
  have hby := hexI_bd y
  obtain ⟨X, hX⟩ : ∃ X, hexI x = X := ⟨_, rfl⟩
  obtain ⟨Y, hY⟩ : ∃ Y, hexI y = Y := ⟨_, rfl⟩
  rw [hX] at HX hbx ⊢
  rw [hY] at HY hby ⊢
  clear hX hY hc hx hy
  obtain ⟨hx1, hx2⟩ := hbx
  obtain ⟨hy1, hy2⟩ := hby
  by_cases h34 : c = 34 ∨ c = 92
  · rw [escC_a X Y h34]
    rcases h34 with rfl | rfl
    all_goals
      go_enter Tryd.func35, Tryd.ntmps35
      go_wp2_with (fail)
      refine (P0.out _ h).mono ?_
      rintro e w1 ⟨rfl, n1, rfl⟩
      go_wp2
      go_ret2
      exact ⟨rfl, _, rfl⟩
  by_cases h110 : c = 110
  · subst h110
    rw [escC_n X Y]
    go_enter Tryd.func35, Tryd.ntmps35
    go_wp2_with (fail)
    refine (P0.out _ h).mono ?_
    rintro e w1 ⟨rfl, n1, rfl⟩
    go_wp2
    go_ret2
    exact ⟨rfl, _, rfl⟩
  by_cases h116 : c = 116
  · subst h116
    rw [escC_t X Y]
    go_enter Tryd.func35, Tryd.ntmps35
    go_wp2_with (fail)
    refine (P0.out _ h).mono ?_
    rintro e w1 ⟨rfl, n1, rfl⟩
    go_wp2
    go_ret2
    exact ⟨rfl, _, rfl⟩
  by_cases h120 : c = 120
  · subst h120
    clear h34 h110 h116
    by_cases hX0 : 0 ≤ X
    · by_cases hY0 : 0 ≤ Y
      · obtain ⟨m, rfl⟩ := Int.eq_ofNat_of_zero_le hX0
        obtain ⟨n, rfl⟩ := Int.eq_ofNat_of_zero_le hY0
        rw [escC_x]
        have hor : Hid (bits .or .i64 ((m : Int) * 16) (n : Int) % 256 = ((UInt8.ofNat (m * 16 + n)).toNat : Int)) := by
          have e : (UInt8.ofNat (m * 16 + n)).toNat = m * 16 + n := by simp; omega
          rw [e]
          exact or_hex ⟨m, by omega⟩ ⟨n, by omega⟩
        go_enter Tryd.func35, Tryd.ntmps35
        go_wp2_with (fail)
        refine (P0.out _ h).mono ?_
        rintro e w1 ⟨rfl, n1, rfl⟩
        go_wp2_with (fail)
        refine (P1.out _ (h.drewN _)).mono ?_
        rintro e w1 ⟨rfl, n2, rfl⟩
        go_wp2_with (fail)
        refine (HX.out _).mono ?_
        rintro e w1 ⟨rfl, rfl⟩
        go_wp2_with (fail)
        refine (P2.out _ (h.drewN _)).mono ?_
        rintro e w1 ⟨rfl, n3, rfl⟩
        go_wp2_with (fail)
        refine (HY.out _).mono ?_
        rintro e w1 ⟨rfl, rfl⟩
        go_wp2_with (fail)
        go_ret2
        exact ⟨by rw [hor.out]; rfl, _, rfl⟩
      · have e1 : decide (0 ≤ X) = true := by simpa using hX0
        have e2 : decide (0 ≤ Y) = false := by simpa using hY0
        rw [escC_no X Y (by decide) (by decide) (by decide) (fun h => hY0 h.2.2)]
        go_enter Tryd.func35, Tryd.ntmps35
        go_wp2_with (fail)
        refine (P0.out _ h).mono ?_
        rintro e w1 ⟨rfl, n1, rfl⟩
        go_wp2_with (fail)
        refine (P1.out _ (h.drewN _)).mono ?_
        rintro e w1 ⟨rfl, n2, rfl⟩
        go_wp2_with (fail)
        refine (HX.out _).mono ?_
        rintro e w1 ⟨rfl, rfl⟩
        go_wp2_with (fail)
        refine (P2.out _ (h.drewN _)).mono ?_
        rintro e w1 ⟨rfl, n3, rfl⟩
        go_wp2_with (fail)
        refine (HY.out _).mono ?_
        rintro e w1 ⟨rfl, rfl⟩
        go_wp2_with (fail)
        go_ret2
        exact ⟨rfl, _, rfl⟩
    · have e1 : decide (0 ≤ X) = false := by simpa using hX0
      rw [escC_no X Y (by decide) (by decide) (by decide) (fun h => hX0 h.2.1)]
      go_enter Tryd.func35, Tryd.ntmps35
      go_wp2_with (fail)
      refine (P0.out _ h).mono ?_
      rintro e w1 ⟨rfl, n1, rfl⟩
      go_wp2_with (fail)
      refine (P1.out _ (h.drewN _)).mono ?_
      rintro e w1 ⟨rfl, n2, rfl⟩
      go_wp2_with (fail)
      refine (HX.out _).mono ?_
      rintro e w1 ⟨rfl, rfl⟩
      go_wp2_with (fail)
      refine (P2.out _ (h.drewN _)).mono ?_
      rintro e w1 ⟨rfl, n3, rfl⟩
      go_wp2_with (fail)
      refine (HY.out _).mono ?_
      rintro e w1 ⟨rfl, rfl⟩
      go_wp2_with (fail)
      go_ret2
      exact ⟨rfl, _, rfl⟩
  · rw [escC_no X Y h34 h110 h116 (fun h => h120 h.1)]
    have n1 : ((c.toNat : Int) == 34) = false := byte_ne (d := 34) (fun e => h34 (.inl e))
    have n2 : ((c.toNat : Int) == 92) = false := byte_ne (d := 92) (fun e => h34 (.inr e))
    have n3 : ((c.toNat : Int) == 110) = false := byte_ne (d := 110) h110
    have n4 : ((c.toNat : Int) == 116) = false := byte_ne (d := 116) h116
    have n5 : ((c.toNat : Int) == 120) = false := byte_ne (d := 120) h120
    clear h34 h110 h116 h120
    go_enter Tryd.func35, Tryd.ntmps35
    go_wp2_with (fail)
    refine (P0.out _ h).mono ?_
    rintro e w1 ⟨rfl, m1, rfl⟩
    go_wp2
    go_ret2
    exact ⟨rfl, _, rfl⟩
end Go.Proofs.YtgeaphapnoiniaaDoor
