/-
  Texts that the law leans on: JlF, JlG. Conditions: as each says.
-/
import Derived.Test.YtonjdlialejedaaGreatDoorXAw
import Derived.Test.YtonjdlialejedaaGreatDoorXAa
set_option linter.unusedSimpArgs false
set_option linter.unusedVariables false
namespace Go.Proofs.YtonjdlialejedaaGreatDoor.Jl
open Go.Lib (hid)
open Go.RowKit
theorem peek_any (b : Nat) (s : ByteArray) (k j : Nat) (o : Value) (w : World) (h : Rd w b s k o) (hk : k ≤ s.size) (hm : s.size ≤ 1000000) (hj : j ≤ 1000) :
  Calls Tryz.prog 38 #[.pointer (some ⟨b, 0, none⟩), .int .i64 (j : Int)] w fun e w' => e = .returned (.int .u8 ((((s.data.toList.drop k)[j]?).getD 0).toNat : Int)) ∧ ∃ n, w' = w.drewN n := by
 rw [List.getElem?_drop]
 by_cases hlt : k + j < s.size
 ·have hx : k + j < s.data.toList.length := by simpa using hlt
  have hg : s.data.toList[k + j]? = some s.data.toList[k + j] := List.getElem?_eq_getElem hx
  rw [hg]
  exact peek_in b s k j _ w h.text h.place hm hj (by omega) hlt hg
 ·rw [List.getElem?_eq_none (by simp; omega)]
  exact peek_out b s k j w h.text h.place hm hj (by omega) (by omega)
def hexText : Lexy.Bs := [48, 49, 50, 51, 52, 53, 54, 55, 56, 57, 97, 98, 99, 100, 101, 102]
def hexI (c : UInt8) : Int := match Lexy.hexv c with | some x => (x.toNat : Int) | none => -1
theorem hexI_eq : ∀ c : UInt8, Lib.indexByte hexText c = hexI c := by
 have h : ∀ n : Fin 256, Lib.indexByte hexText (UInt8.ofNat n) = hexI (UInt8.ofNat n) := by decide +kernel
 intro c
 have := h ⟨c.toNat, c.toNat_lt⟩
 simpa using this
theorem hexI_bd (c : UInt8) : -1 ≤ hexI c ∧ hexI c ≤ 15 := by
 have h : ∀ n : Fin 256, -1 ≤ hexI (UInt8.ofNat n) ∧ hexI (UInt8.ofNat n) ≤ 15 := by decide +kernel
 have := h ⟨c.toNat, c.toNat_lt⟩
 simpa using this
theorem hex_any (c : UInt8) (w : World) : Calls Tryz.prog 91 #[.int .u8 (c.toNat : Int)] w fun e w' => e = .returned (.int .i64 (hexI c)) ∧ w = w' := by
 have HI : Hid (∀ w, Calls Tryz.prog 39 #[.string (bytes hexText), .int .u8 (c.toNat : Int)] w fun e w' => e = .returned (.int .i64 (hexI c)) ∧ w = w') := by
  intro w
  refine (index_byte (bytes hexText) (c.toNat : Int) w).mono fun e w' ⟨he, hw⟩ => ⟨?_, hw.symm⟩
  rw [he, ← hexI_eq]
  have e1 : ((c.toNat : Int).toNat).toUInt8 = c := by simp
  have e2 : (bytes hexText).data.toList = hexText := rfl
  rw [e1, e2]
 go_enter Tryz.func91, Tryz.ntmps91
 go_wp2_with (go_at_call 39; refine (HI.out _).mono ?_; rintro e w' ⟨rfl, rfl⟩)
 go_ret
 exact ⟨rfl, rfl⟩
theorem hexI_neg {c : UInt8} (h : ¬ 0 ≤ hexI c) : Lexy.hexv c = none := by
 unfold hexI at h
 cases hc : Lexy.hexv c with
 | none => rfl
 | some x => rw [hc] at h; simp at h
theorem hexI_pos {c : UInt8} (h : 0 ≤ hexI c) : ∃ x, Lexy.hexv c = some x ∧ hexI c = (x.toNat : Int) := by
 unfold hexI at h ⊢
 cases hc : Lexy.hexv c with
 | none => rw [hc] at h; simp at h
 | some x => exact ⟨x, rfl, rfl⟩
theorem or_hex : ∀ a b : Fin 16, bits .or .i64 (((a : Nat) : Int) * 16) ((b : Nat) : Int) % 256 = (((a : Nat) * 16 + (b : Nat) : Nat) : Int) := by decide +kernel
def escV (l : Lexy.Bs) : UInt8 × Nat := (Lexy.esc l).getD (0, 0)
def escC (c : UInt8) (X Y : Int) : UInt8 × Nat :=
 if c = 34 ∨ c = 92 then (c, 1) else if c = 110 then (10, 1) else if c = 116 then (9, 1) else if c = 120 ∧ 0 ≤ X ∧ 0 ≤ Y then (UInt8.ofNat (X.toNat * 16 + Y.toNat), 3) else (0, 0)
theorem escV_eq (l : Lexy.Bs) : escV l = escC ((l[0]?).getD 0) (hexI ((l[1]?).getD 0)) (hexI ((l[2]?).getD 0)) := by
 have h0 : hexI 0 = -1 := by decide
 unfold escV escC
 cases l with
 | nil => simp [Lexy.esc]
 | cons c r =>
  simp only [Lexy.esc, List.getElem?_cons_zero, Option.getD_some]
  by_cases h1 : c = 34 ∨ c = 92
  ·rw [if_pos (by simpa using h1), if_pos h1]; rfl
  rw [if_neg (by simpa using h1), if_neg h1]
  by_cases h2 : c = 110
  ·rw [if_pos (by simpa using h2), if_pos h2]; rfl
  rw [if_neg (by simpa using h2), if_neg h2]
  by_cases h3 : c = 116
  ·rw [if_pos (by simpa using h3), if_pos h3]; rfl
  rw [if_neg (by simpa using h3), if_neg h3]
  by_cases h4 : c = 120
  ·rw [if_pos (by simpa using h4)]
   cases r with
   | nil => simp [h0]
   | cons a r =>
    cases r with
    | nil => simp [h0]
    | cons d r =>
     simp only [List.getElem?_cons_succ, List.getElem?_cons_zero, Option.getD_some]
     by_cases hx : 0 ≤ hexI a
     ·by_cases hy : 0 ≤ hexI d
      ·obtain ⟨x, ex, ex2⟩ := hexI_pos hx
       obtain ⟨y, ey, ey2⟩ := hexI_pos hy
       rw [if_pos ⟨h4, hx, hy⟩, ex, ey, ex2, ey2]
       simp
      ·rw [if_neg (fun h => hy h.2.2), hexI_neg hy]
       cases Lexy.hexv a <;> rfl
     ·rw [if_neg (fun h => hx h.2.1), hexI_neg hx]
      rfl
  ·rw [if_neg (by simpa using h4), if_neg (fun h => h4 h.1)]
   rfl
theorem escC_a {c : UInt8} (X Y : Int) (h : c = 34 ∨ c = 92) : escC c X Y = (c, 1) := by unfold escC; rw [if_pos h]
theorem escC_n (X Y : Int) : escC 110 X Y = (10, 1) := by simp [escC]
theorem escC_t (X Y : Int) : escC 116 X Y = (9, 1) := by simp [escC]
theorem escC_x (m n : Nat) : escC 120 (m : Int) (n : Int) = (UInt8.ofNat (m * 16 + n), 3) := by simp [escC]
theorem escC_no {c : UInt8} (X Y : Int) (h1 : ¬ (c = 34 ∨ c = 92)) (h2 : c ≠ 110) (h3 : c ≠ 116) (h4 : ¬ (c = 120 ∧ 0 ≤ X ∧ 0 ≤ Y)) : escC c X Y = (0, 0) := by
 unfold escC; rw [if_neg h1, if_neg h2, if_neg h3, if_neg h4]
set_option maxRecDepth 100000 in
set_option maxHeartbeats 1000000 in
theorem escape_any (b : Nat) (s : ByteArray) (k : Nat) (o : Value) (w : World) (h : Rd w b s k o) (hk : k ≤ s.size) (hm : s.size ≤ 1000000) :
  Calls Tryz.prog 76 #[.pointer (some ⟨b, 0, none⟩)] w fun e w' =>
   e = .returned (.tuple #[.int .u8 ((escV (s.data.toList.drop k)).1.toNat : Int), .int .i64 ((escV (s.data.toList.drop k)).2 : Int)]) ∧ ∃ n, w' = w.drewN n := by
 obtain ⟨l, hl⟩ : ∃ l, s.data.toList.drop k = l := ⟨_, rfl⟩
 have P0 := hid (fun w (h : Rd w b s k o) => peek_any b s k 0 o w h hk hm (by omega))
 have P1 := hid (fun w (h : Rd w b s k o) => peek_any b s k 1 o w h hk hm (by omega))
 have P2 := hid (fun w (h : Rd w b s k o) => peek_any b s k 2 o w h hk hm (by omega))
 rw [hl] at P0 P1 P2 ⊢
 clear hl
 obtain ⟨c, hc⟩ : ∃ c, (l[0]?).getD 0 = c := ⟨_, rfl⟩
 obtain ⟨x, hx⟩ : ∃ x, (l[1]?).getD 0 = x := ⟨_, rfl⟩
 obtain ⟨y, hy⟩ : ∃ y, (l[2]?).getD 0 = y := ⟨_, rfl⟩
 have HX := hid (fun w => hex_any x w)
 have HY := hid (fun w => hex_any y w)
 rw [escV_eq l, hc, hx, hy]
 rw [hc] at P0
 rw [hx] at P1
 rw [hy] at P2
 have hbx := hexI_bd x
 have hby := hexI_bd y
 obtain ⟨X, hX⟩ : ∃ X, hexI x = X := ⟨_, rfl⟩
 obtain ⟨Y, hY⟩ : ∃ Y, hexI y = Y := ⟨_, rfl⟩
 rw [hX] at HX hbx ⊢
 rw [hY] at HY hby ⊢
 clear hX hY hc hx hy
 obtain ⟨hx1, hx2⟩ := hbx
 obtain ⟨hy1, hy2⟩ := hby
 by_cases h34 : c = 34 ∨ c = 92
 ·rw [escC_a X Y h34]
  rcases h34 with rfl | rfl
  all_goals
   go_enter Tryz.func76, Tryz.ntmps76
   go_wp2_with fail
   refine (P0.out _ h).mono ?_
   rintro e w1 ⟨rfl, n1, rfl⟩
   go_wp2
   go_ret2
   exact ⟨rfl, _, rfl⟩
 by_cases h110 : c = 110
 ·subst h110
  rw [escC_n X Y]
  go_enter Tryz.func76, Tryz.ntmps76
  go_wp2_with fail
  refine (P0.out _ h).mono ?_
  rintro e w1 ⟨rfl, n1, rfl⟩
  go_wp2
  go_ret2
  exact ⟨rfl, _, rfl⟩
 by_cases h116 : c = 116
 ·subst h116
  rw [escC_t X Y]
  go_enter Tryz.func76, Tryz.ntmps76
  go_wp2_with fail
  refine (P0.out _ h).mono ?_
  rintro e w1 ⟨rfl, n1, rfl⟩
  go_wp2
  go_ret2
  exact ⟨rfl, _, rfl⟩
 by_cases h120 : c = 120
 ·subst h120
  clear h34 h110 h116
  by_cases hX0 : 0 ≤ X
  ·by_cases hY0 : 0 ≤ Y
   ·obtain ⟨m, rfl⟩ := Int.eq_ofNat_of_zero_le hX0
    obtain ⟨n, rfl⟩ := Int.eq_ofNat_of_zero_le hY0
    rw [escC_x]
    have hor : Hid (bits .or .i64 ((m : Int) * 16) (n : Int) % 256 = ((UInt8.ofNat (m * 16 + n)).toNat : Int)) := by
     have e : (UInt8.ofNat (m * 16 + n)).toNat = m * 16 + n := by simp; omega
     rw [e]
     exact or_hex ⟨m, by omega⟩ ⟨n, by omega⟩
    go_enter Tryz.func76, Tryz.ntmps76
    go_wp2_with fail
    refine (P0.out _ h).mono ?_
    rintro e w1 ⟨rfl, n1, rfl⟩
    go_wp2_with fail
    refine (P1.out _ (h.drewN _)).mono ?_
    rintro e w1 ⟨rfl, n2, rfl⟩
    go_wp2_with fail
    refine (HX.out _).mono ?_
    rintro e w1 ⟨rfl, rfl⟩
    go_wp2_with fail
    refine (P2.out _ (h.drewN _)).mono ?_
    rintro e w1 ⟨rfl, n3, rfl⟩
    go_wp2_with fail
    refine (HY.out _).mono ?_
    rintro e w1 ⟨rfl, rfl⟩
    go_wp2_with fail
    go_ret2
    exact ⟨by rw [hor.out]; rfl, _, rfl⟩
   ·have e1 : decide (0 ≤ X) = true := by simpa using hX0
    have e2 : decide (0 ≤ Y) = false := by simpa using hY0
    rw [escC_no X Y (by decide) (by decide) (by decide) (fun h => hY0 h.2.2)]
    go_enter Tryz.func76, Tryz.ntmps76
    go_wp2_with fail
    refine (P0.out _ h).mono ?_
    rintro e w1 ⟨rfl, n1, rfl⟩
    go_wp2_with fail
    refine (P1.out _ (h.drewN _)).mono ?_
    rintro e w1 ⟨rfl, n2, rfl⟩
    go_wp2_with fail
    refine (HX.out _).mono ?_
    rintro e w1 ⟨rfl, rfl⟩
    go_wp2_with fail
    refine (P2.out _ (h.drewN _)).mono ?_
    rintro e w1 ⟨rfl, n3, rfl⟩
    go_wp2_with fail
    refine (HY.out _).mono ?_
    rintro e w1 ⟨rfl, rfl⟩
    go_wp2_with fail
    go_ret2
    exact ⟨rfl, _, rfl⟩
  ·have e1 : decide (0 ≤ X) = false := by simpa using hX0
   rw [escC_no X Y (by decide) (by decide) (by decide) (fun h => hX0 h.2.1)]
   go_enter Tryz.func76, Tryz.ntmps76
   go_wp2_with fail
   refine (P0.out _ h).mono ?_
   rintro e w1 ⟨rfl, n1, rfl⟩
   go_wp2_with fail
   refine (P1.out _ (h.drewN _)).mono ?_
   rintro e w1 ⟨rfl, n2, rfl⟩
   go_wp2_with fail
   refine (HX.out _).mono ?_
   rintro e w1 ⟨rfl, rfl⟩
   go_wp2_with fail
   refine (P2.out _ (h.drewN _)).mono ?_
   rintro e w1 ⟨rfl, n3, rfl⟩
   go_wp2_with fail
   refine (HY.out _).mono ?_
   rintro e w1 ⟨rfl, rfl⟩
   go_wp2_with fail
   go_ret2
   exact ⟨rfl, _, rfl⟩
 ·rw [escC_no X Y h34 h110 h116 (fun h => h120 h.1)]
  have n1 : ((c.toNat : Int) == 34) = false := byte_ne (d := 34) (fun e => h34 (.inl e))
  have n2 : ((c.toNat : Int) == 92) = false := byte_ne (d := 92) (fun e => h34 (.inr e))
  have n3 : ((c.toNat : Int) == 110) = false := byte_ne (d := 110) h110
  have n4 : ((c.toNat : Int) == 116) = false := byte_ne (d := 116) h116
  have n5 : ((c.toNat : Int) == 120) = false := byte_ne (d := 120) h120
  clear h34 h110 h116 h120
  go_enter Tryz.func76, Tryz.ntmps76
  go_wp2_with fail
  refine (P0.out _ h).mono ?_
  rintro e w1 ⟨rfl, m1, rfl⟩
  go_wp2
  go_ret2
  exact ⟨rfl, _, rfl⟩
end Go.Proofs.YtonjdlialejedaaGreatDoor.Jl
namespace Go.Proofs.YtonjdlialejedaaGreatDoor.Jl
open Go.Lib (hid)
open Go.RowKit
def Out (w : World) (b : Nat) (s : ByteArray) (k : Nat) (o : Value) (r : Lexy.Res (Lexy.Tk × Nat)) (e : Ending) (w' : World) : Prop :=
 match r with
 | .ok (t, n) => e = .returned (.tuple #[tokV t 0 0, .int .i64 0]) ∧ Rd w' b s (k + n) o ∧ Upd w w' b
 | .err n => e = .returned (.tuple #[tokV ⟨0, [], 0⟩ 0 0, .int .i64 (n : Int)]) ∧ Upd w w' b
theorem words_sg (w : World) (g : Nat) (hg : w.heap.size = g) (he : Env w) :
  Calls Tryz.prog 15 #[.string (bytes sgText)] w fun e w' => e = .returned (.slice (some ⟨g, 0, none⟩) 26 26) ∧ Box w' g 9 (wordCells Lexy.signs) ∧ Below g w w' := by
 subst hg
 refine (fields_sg w he).mono fun e w' ⟨h1, h2⟩ => ?_
 subst h2
 exact ⟨h1, Box.new _ _ _, (Below.refl _ _).alloc (Nat.le_refl _) _⟩
theorem Rd.below {w w1 : World} {b k : Nat} {s : ByteArray} {o : Value} (h : Rd w b s k o) {B : Nat} (hb : Below B w w1) (hB : b < B) : Rd w1 b s k o := Box.below h hb hB
theorem Rd.alloc {w : World} {b k : Nat} {s : ByteArray} {o : Value} (h : Rd w b s k o) (x : Obj) : Rd (w.alloc x) b s k o := Box.alloc h x
theorem i2a : ∀ w, (Instr.index 110 (.agg #[.int .i64 2, .int .i64 1]) (.int .i64 0)).run Tryz.prog w = .ok (.int .i64 2) w := fun _ => by kernel_rfl
theorem i2b : ∀ w, (Instr.index 110 (.agg #[.int .i64 2, .int .i64 1]) (.int .i64 1)).run Tryz.prog w = .ok (.int .i64 1) w := fun _ => by kernel_rfl
set_option maxRecDepth 100000 in
set_option maxHeartbeats 1000000 in
theorem sign_two (b : Nat) (s : ByteArray) (k : Nat) (o : Value) (w : World) (h : Rd w b s k o) (he : Env w) (hb : 4 ≤ b) (hm : s.size ≤ 1000000)
  (h2 : k + 2 ≤ s.size) (hw : (s.data.toList.drop k).take 2 ∈ Lexy.signs) :
  Calls Tryz.prog 45 #[.pointer (some ⟨b, 0, none⟩)] w fun e w' => Out w b s k o (.ok (⟨4, (s.data.toList.drop k).take 2, 0⟩, 2)) e w' := by
 obtain ⟨x, hx⟩ : ∃ x, s.extract k (k + 2) = x := ⟨_, rfl⟩
 have hxl : (s.data.toList.drop k).take 2 = x.data.toList := by rw [← hx]; simp
 rw [hxl] at hw ⊢
 have hbx : bytes x.data.toList = x := by cases x; simp [bytes]
 have HBX := hid hbx
 have HC : Hid (∀ (w : World) (g : Nat), Box w g 9 (wordCells Lexy.signs) → Calls Tryz.prog 75 #[.slice (some ⟨g, 0, none⟩) 26 26, .string x] w fun e w' => e = .returned (.bool true) ∧ w = w') := by
  intro w g hc
  have := contains_words Lexy.signs 26 rfl (by omega) x g w hc
  rwa [show decide (x.data.toList ∈ Lexy.signs) = true by simpa using hw] at this
 have hi0 := i2a
 have hsl : ∀ w, (Instr.slice 9 (.string s) (some (.int .i64 (k : Int))) (some (.int .i64 ((k : Int) + 2))) none).run Tryz.prog w = .ok (.string x) w := by
  intro w
  have := run_slice_string (P := Tryz.prog) w 9 s .i64 .i64 (k : Int) ((k : Int) + 2) Tryz.underlying9 (by omega) (by omega) (by omega)
  rw [show ((k : Int) + 2).toNat = k + 2 by omega, Int.toNat_natCast, hx] at this
  exact this
 have ht1 : decide ((s.size : Int) < (k : Int) + 2) = false := by simp; omega
 have hs0 := h.text; have hp0 := h.place; have hlt := Box.lt h
 clear hw hx hxl hbx
 go_enter Tryz.func45, Tryz.ntmps45
 go_wp2
 refine wp_loop_rounds 3 ?_
 rw [rounds_succ]
 go_wp2
 go_quiet (fail)
 go_wp2
 go_quiet (fail)
 go_wp2_with fail
 refine (words_sg _ (w.heap.size + 1) (by simp) ((he.alloc (by omega) _).drewN _)).mono ?_
 rintro e w2 ⟨rfl, hbx2, hbl2⟩
 go_wp2_with fail
 refine (HC.out _ _ hbx2).mono ?_
 rintro e w3 ⟨rfl, rfl⟩
 have hr2 : Rd w2 b s k o := Rd.below ((h.alloc _).drewN _) hbl2 (by omega)
 have htk : Box w2 w.heap.size 40 #[.int .i64 0, .int .i64 0, .int .i64 0, .string ⟨#[]⟩, .int .i64 0] := Box.below ((Box.new w _ _).drewN _) hbl2 (by omega)
 have hu2 : Upd w w2 b := Upd.below (((Below.refl _ w).alloc (Nat.le_refl _) _).trans ((below_drewN (Below.refl _ _) _).trans (hbl2.mono (by omega)))) b
 have hsz2 : w.heap.size < w2.heap.size := htk.lt
 clear hs0 hp0
 have hp2 := hr2.place; have hf2 := hr2.free 1
 go_wp2_with (refine wpList_store_box rfl 40 (.tmp 2) (.tmp 50) rfl w.heap.size #[.int .i64 _, .int .i64 0, .int .i64 0, .string x, .int .i64 0] rfl rfl 40 _ (htk.far (by simp; omega) _) info_tok5 rfl (tok_one _ _ _ _ _) ?_; intro w4 hx4 hu4 hz4)
 refine bodyPost_ret (results_box_tmp rfl _ _ w.heap.size 40 _ _ rfl hx4 Tryz.underlying40 rfl info_tok5) rfl ?_
 refine ⟨?_, ?_, ?_⟩
 ·unfold tokV; rw [HBX.out]; rfl
 ·exact Box.grown (hr2.moveI _ (k + 2) (by omega)) hu4 (by simp; omega)
 ·exact (hu2.set (.inl rfl) _).far hu4 (Nat.le_refl _)
set_option maxRecDepth 100000 in
set_option maxHeartbeats 1000000 in
theorem sign_one2 (b : Nat) (s : ByteArray) (k : Nat) (o : Value) (w : World) (h : Rd w b s k o) (he : Env w) (hb : 4 ≤ b) (hm : s.size ≤ 1000000)
  (h2 : k + 2 ≤ s.size) (hw : ¬ (s.data.toList.drop k).take 2 ∈ Lexy.signs) (hv : (s.data.toList.drop k).take 1 ∈ Lexy.signs) :
  Calls Tryz.prog 45 #[.pointer (some ⟨b, 0, none⟩)] w fun e w' => Out w b s k o (.ok (⟨4, (s.data.toList.drop k).take 1, 0⟩, 1)) e w' := by
 obtain ⟨x, hx⟩ : ∃ x, s.extract k (k + 2) = x := ⟨_, rfl⟩
 have hxl : (s.data.toList.drop k).take 2 = x.data.toList := by rw [← hx]; simp
 rw [hxl] at hw
 have HC2 : Hid (∀ (w : World) (g : Nat), Box w g 9 (wordCells Lexy.signs) → Calls Tryz.prog 75 #[.slice (some ⟨g, 0, none⟩) 26 26, .string x] w fun e w' => e = .returned (.bool false) ∧ w = w') := by
  intro w g hc
  have := contains_words Lexy.signs 26 rfl (by omega) x g w hc
  rwa [show decide (x.data.toList ∈ Lexy.signs) = false by simpa using hw] at this
 have hsl : ∀ w, (Instr.slice 9 (.string s) (some (.int .i64 (k : Int))) (some (.int .i64 ((k : Int) + 2))) none).run Tryz.prog w = .ok (.string x) w := by
  intro w
  have := run_slice_string (P := Tryz.prog) w 9 s .i64 .i64 (k : Int) ((k : Int) + 2) Tryz.underlying9 (by omega) (by omega) (by omega)
  rw [show ((k : Int) + 2).toNat = k + 2 by omega, Int.toNat_natCast, hx] at this
  exact this
 have ht1 : decide ((s.size : Int) < (k : Int) + 2) = false := by simp; omega
 clear hw hx hxl
 have ht2 : decide ((s.size : Int) < (k : Int) + 1) = false := by simp; omega
 obtain ⟨y, hy⟩ : ∃ y, s.extract k (k + 1) = y := ⟨_, rfl⟩
 have hyl : (s.data.toList.drop k).take 1 = y.data.toList := by rw [← hy]; simp
 rw [hyl] at hv ⊢
 have hbx : bytes y.data.toList = y := by cases y; simp [bytes]
 have HBX := hid hbx
 have HC1 : Hid (∀ (w : World) (g : Nat), Box w g 9 (wordCells Lexy.signs) → Calls Tryz.prog 75 #[.slice (some ⟨g, 0, none⟩) 26 26, .string y] w fun e w' => e = .returned (.bool true) ∧ w = w') := by
  intro w g hc
  have := contains_words Lexy.signs 26 rfl (by omega) y g w hc
  rwa [show decide (y.data.toList ∈ Lexy.signs) = true by simpa using hv] at this
 have hi0 := i2a
 have hi1 := i2b
 have hsl1 : ∀ w, (Instr.slice 9 (.string s) (some (.int .i64 (k : Int))) (some (.int .i64 ((k : Int) + 1))) none).run Tryz.prog w = .ok (.string y) w := by
  intro w
  have := run_slice_string (P := Tryz.prog) w 9 s .i64 .i64 (k : Int) ((k : Int) + 1) Tryz.underlying9 (by omega) (by omega) (by omega)
  rw [show ((k : Int) + 1).toNat = k + 1 by omega, Int.toNat_natCast, hy] at this
  exact this
 have hs0 := h.text; have hp0 := h.place; have hlt := Box.lt h
 clear hv hy hyl hbx
 go_enter Tryz.func45, Tryz.ntmps45
 go_wp2
 refine wp_loop_rounds 3 ?_
 rw [rounds_succ]
 go_wp2
 go_quiet (fail)
 go_wp2
 go_quiet (fail)
 go_wp2_with fail
 refine (words_sg _ (w.heap.size + 1) (by simp) ((he.alloc (by omega) _).drewN _)).mono ?_
 rintro e w2 ⟨rfl, hbx2, hbl2⟩
 go_wp2_with fail
 refine (HC2.out _ _ hbx2).mono ?_
 rintro e w3 ⟨rfl, rfl⟩
 have he2 : Env w2 := ((he.alloc (by omega) _).drewN _).below hbl2 (by omega)
 have hr2 : Rd w2 b s k o := Rd.below ((h.alloc _).drewN _) hbl2 (by omega)
 have htk2 : Box w2 w.heap.size 40 #[.int .i64 0, .int .i64 0, .int .i64 0, .string ⟨#[]⟩, .int .i64 0] := Box.below ((Box.new w _ _).drewN _) hbl2 (by omega)
 have hu2 : Upd w w2 b := Upd.below (((Below.refl _ w).alloc (Nat.le_refl _) _).trans ((below_drewN (Below.refl _ _) _).trans (hbl2.mono (by omega)))) b
 have hsz2 : w.heap.size < w2.heap.size := htk2.lt
 have hlt2 : b < w2.heap.size := by omega
 clear hs0 hp0
 have hp2 := hr2.place; have hs2 := hr2.text
 go_wp2
 rw [rounds_succ]
 go_wp2
 go_quiet (fail)
 go_wp2
 go_quiet (fail)
 go_wp2_with fail
 refine (words_sg _ w2.heap.size (by simp) (he2.drewN _)).mono ?_
 rintro e w4 ⟨rfl, hbx4, hbl4⟩
 have hr4 : Rd w4 b s k o := Rd.below (hr2.drewN _) hbl4 (by omega)
 have htk4 : Box w4 w.heap.size 40 #[.int .i64 0, .int .i64 0, .int .i64 0, .string ⟨#[]⟩, .int .i64 0] := Box.below (htk2.drewN _) hbl4 (by omega)
 have hu4 : Upd w w4 b := hu2.trans (Upd.below ((below_drewN (Below.refl _ _) _).trans hbl4) b)
 clear hs2 hp2
 have hsz4 : w.heap.size < w4.heap.size := htk4.lt
 go_wp2_with fail
 refine (HC1.out _ _ hbx4).mono ?_
 rintro e w5 ⟨rfl, rfl⟩
 have hp4 := hr4.place; have hf4 := hr4.free 1
 go_wp2_with (refine wpList_store_box rfl 40 (.tmp 2) (.tmp 50) rfl w.heap.size #[.int .i64 _, .int .i64 0, .int .i64 0, .string y, .int .i64 0] rfl rfl 40 _ (htk4.far (by simp; omega) _) info_tok5 rfl (tok_one _ _ _ _ _) ?_; intro w6 hx6 hu6 hz6)
 refine bodyPost_ret (results_box_tmp rfl _ _ w.heap.size 40 _ _ rfl hx6 Tryz.underlying40 rfl info_tok5) rfl ?_
 refine ⟨?_, ?_, ?_⟩
 ·unfold tokV; rw [HBX.out]; rfl
 ·exact Box.grown (hr4.moveI _ (k + 1) (by omega)) hu6 (by simp; omega)
 ·exact (hu4.set (.inl rfl) _).far hu6 (Nat.le_refl _)
set_option maxRecDepth 100000 in
set_option maxHeartbeats 1000000 in
theorem sign_one1 (b : Nat) (s : ByteArray) (k : Nat) (o : Value) (w : World) (h : Rd w b s k o) (he : Env w) (hb : 4 ≤ b) (hm : s.size ≤ 1000000)
  (h1 : k + 1 = s.size) (hv : (s.data.toList.drop k).take 1 ∈ Lexy.signs) :
  Calls Tryz.prog 45 #[.pointer (some ⟨b, 0, none⟩)] w fun e w' => Out w b s k o (.ok (⟨4, (s.data.toList.drop k).take 1, 0⟩, 1)) e w' := by
 have ht1 : decide ((s.size : Int) < (k : Int) + 2) = true := by simp; omega
 have ht2 : decide ((s.size : Int) < (k : Int) + 1) = false := by simp; omega
 obtain ⟨y, hy⟩ : ∃ y, s.extract k (k + 1) = y := ⟨_, rfl⟩
 have hyl : (s.data.toList.drop k).take 1 = y.data.toList := by rw [← hy]; simp
 rw [hyl] at hv ⊢
 have hbx : bytes y.data.toList = y := by cases y; simp [bytes]
 have HBX := hid hbx
 have HC1 : Hid (∀ (w : World) (g : Nat), Box w g 9 (wordCells Lexy.signs) → Calls Tryz.prog 75 #[.slice (some ⟨g, 0, none⟩) 26 26, .string y] w fun e w' => e = .returned (.bool true) ∧ w = w') := by
  intro w g hc
  have := contains_words Lexy.signs 26 rfl (by omega) y g w hc
  rwa [show decide (y.data.toList ∈ Lexy.signs) = true by simpa using hv] at this
 have hi0 := i2a
 have hi1 := i2b
 have hsl1 : ∀ w, (Instr.slice 9 (.string s) (some (.int .i64 (k : Int))) (some (.int .i64 ((k : Int) + 1))) none).run Tryz.prog w = .ok (.string y) w := by
  intro w
  have := run_slice_string (P := Tryz.prog) w 9 s .i64 .i64 (k : Int) ((k : Int) + 1) Tryz.underlying9 (by omega) (by omega) (by omega)
  rw [show ((k : Int) + 1).toNat = k + 1 by omega, Int.toNat_natCast, hy] at this
  exact this
 have hs0 := h.text; have hp0 := h.place; have hlt := Box.lt h
 clear hv hy hyl hbx
 go_enter Tryz.func45, Tryz.ntmps45
 go_wp2
 refine wp_loop_rounds 3 ?_
 rw [rounds_succ]
 go_wp2
 go_quiet (fail)
 go_wp2
 rw [rounds_succ]
 go_wp2
 go_quiet (fail)
 go_wp2
 go_quiet (fail)
 go_wp2_with fail
 refine (words_sg _ (w.heap.size + 1) (by simp) ((he.alloc (by omega) _).drewN _)).mono ?_
 rintro e w4 ⟨rfl, hbx4, hbl4⟩
 have hr4 : Rd w4 b s k o := Rd.below ((h.alloc _).drewN _) hbl4 (by omega)
 have htk4 : Box w4 w.heap.size 40 #[.int .i64 0, .int .i64 0, .int .i64 0, .string ⟨#[]⟩, .int .i64 0] := Box.below ((Box.new w _ _).drewN _) hbl4 (by omega)
 have hu4 : Upd w w4 b := Upd.below (((Below.refl _ w).alloc (Nat.le_refl _) _).trans ((below_drewN (Below.refl _ _) _).trans (hbl4.mono (by omega)))) b
 clear hs0 hp0
 have hsz4 : w.heap.size < w4.heap.size := htk4.lt
 go_wp2_with fail
 refine (HC1.out _ _ hbx4).mono ?_
 rintro e w5 ⟨rfl, rfl⟩
 have hp4 := hr4.place; have hf4 := hr4.free 1
 go_wp2_with (refine wpList_store_box rfl 40 (.tmp 2) (.tmp 50) rfl w.heap.size #[.int .i64 _, .int .i64 0, .int .i64 0, .string y, .int .i64 0] rfl rfl 40 _ (htk4.far (by simp; omega) _) info_tok5 rfl (tok_one _ _ _ _ _) ?_; intro w6 hx6 hu6 hz6)
 refine bodyPost_ret (results_box_tmp rfl _ _ w.heap.size 40 _ _ rfl hx6 Tryz.underlying40 rfl info_tok5) rfl ?_
 refine ⟨?_, ?_, ?_⟩
 ·unfold tokV; rw [HBX.out]; rfl
 ·exact Box.grown (hr4.moveI _ (k + 1) (by omega)) hu6 (by simp; omega)
 ·exact (hu4.set (.inl rfl) _).far hu6 (Nat.le_refl _)
set_option maxRecDepth 100000 in
set_option maxHeartbeats 1000000 in
theorem sign_no2 (b : Nat) (s : ByteArray) (k : Nat) (o : Value) (w : World) (h : Rd w b s k o) (he : Env w) (hb : 4 ≤ b) (hm : s.size ≤ 1000000)
  (h2 : k + 2 ≤ s.size) (hw : ¬ (s.data.toList.drop k).take 2 ∈ Lexy.signs) (hv : ¬ (s.data.toList.drop k).take 1 ∈ Lexy.signs) :
  Calls Tryz.prog 45 #[.pointer (some ⟨b, 0, none⟩)] w fun e w' => Out w b s k o (.err 4) e w' := by
 obtain ⟨x, hx⟩ : ∃ x, s.extract k (k + 2) = x := ⟨_, rfl⟩
 have hxl : (s.data.toList.drop k).take 2 = x.data.toList := by rw [← hx]; simp
 rw [hxl] at hw
 have HC2 : Hid (∀ (w : World) (g : Nat), Box w g 9 (wordCells Lexy.signs) → Calls Tryz.prog 75 #[.slice (some ⟨g, 0, none⟩) 26 26, .string x] w fun e w' => e = .returned (.bool false) ∧ w = w') := by
  intro w g hc
  have := contains_words Lexy.signs 26 rfl (by omega) x g w hc
  rwa [show decide (x.data.toList ∈ Lexy.signs) = false by simpa using hw] at this
 have hsl : ∀ w, (Instr.slice 9 (.string s) (some (.int .i64 (k : Int))) (some (.int .i64 ((k : Int) + 2))) none).run Tryz.prog w = .ok (.string x) w := by
  intro w
  have := run_slice_string (P := Tryz.prog) w 9 s .i64 .i64 (k : Int) ((k : Int) + 2) Tryz.underlying9 (by omega) (by omega) (by omega)
  rw [show ((k : Int) + 2).toNat = k + 2 by omega, Int.toNat_natCast, hx] at this
  exact this
 have ht1 : decide ((s.size : Int) < (k : Int) + 2) = false := by simp; omega
 clear hw hx hxl
 have ht2 : decide ((s.size : Int) < (k : Int) + 1) = false := by simp; omega
 obtain ⟨y, hy⟩ : ∃ y, s.extract k (k + 1) = y := ⟨_, rfl⟩
 have hyl : (s.data.toList.drop k).take 1 = y.data.toList := by rw [← hy]; simp
 rw [hyl] at hv
 have HC1 : Hid (∀ (w : World) (g : Nat), Box w g 9 (wordCells Lexy.signs) → Calls Tryz.prog 75 #[.slice (some ⟨g, 0, none⟩) 26 26, .string y] w fun e w' => e = .returned (.bool false) ∧ w = w') := by
  intro w g hc
  have := contains_words Lexy.signs 26 rfl (by omega) y g w hc
  rwa [show decide (y.data.toList ∈ Lexy.signs) = false by simpa using hv] at this
 have hi0 := i2a
 have hi1 := i2b
 have hsl1 : ∀ w, (Instr.slice 9 (.string s) (some (.int .i64 (k : Int))) (some (.int .i64 ((k : Int) + 1))) none).run Tryz.prog w = .ok (.string y) w := by
  intro w
  have := run_slice_string (P := Tryz.prog) w 9 s .i64 .i64 (k : Int) ((k : Int) + 1) Tryz.underlying9 (by omega) (by omega) (by omega)
  rw [show ((k : Int) + 1).toNat = k + 1 by omega, Int.toNat_natCast, hy] at this
  exact this
 have hs0 := h.text; have hp0 := h.place; have hlt := Box.lt h
 clear hv hy hyl
 go_enter Tryz.func45, Tryz.ntmps45
 go_wp2
 refine wp_loop_rounds 3 ?_
 rw [rounds_succ]
 go_wp2
 go_quiet (fail)
 go_wp2
 go_quiet (fail)
 go_wp2_with fail
 refine (words_sg _ (w.heap.size + 1) (by simp) ((he.alloc (by omega) _).drewN _)).mono ?_
 rintro e w2 ⟨rfl, hbx2, hbl2⟩
 go_wp2_with fail
 refine (HC2.out _ _ hbx2).mono ?_
 rintro e w3 ⟨rfl, rfl⟩
 have he2 : Env w2 := ((he.alloc (by omega) _).drewN _).below hbl2 (by omega)
 have hr2 : Rd w2 b s k o := Rd.below ((h.alloc _).drewN _) hbl2 (by omega)
 have htk2 : Box w2 w.heap.size 40 #[.int .i64 0, .int .i64 0, .int .i64 0, .string ⟨#[]⟩, .int .i64 0] := Box.below ((Box.new w _ _).drewN _) hbl2 (by omega)
 have hu2 : Upd w w2 b := Upd.below (((Below.refl _ w).alloc (Nat.le_refl _) _).trans ((below_drewN (Below.refl _ _) _).trans (hbl2.mono (by omega)))) b
 have hsz2 : w.heap.size < w2.heap.size := htk2.lt
 have hlt2 : b < w2.heap.size := by omega
 clear hs0 hp0
 have hp2 := hr2.place; have hs2 := hr2.text
 go_wp2
 rw [rounds_succ]
 go_wp2
 go_quiet (fail)
 go_wp2
 go_quiet (fail)
 go_wp2_with fail
 refine (words_sg _ w2.heap.size (by simp) (he2.drewN _)).mono ?_
 rintro e w4 ⟨rfl, hbx4, hbl4⟩
 have hr4 : Rd w4 b s k o := Rd.below (hr2.drewN _) hbl4 (by omega)
 have htk4 : Box w4 w.heap.size 40 #[.int .i64 0, .int .i64 0, .int .i64 0, .string ⟨#[]⟩, .int .i64 0] := Box.below (htk2.drewN _) hbl4 (by omega)
 have hu4 : Upd w w4 b := hu2.trans (Upd.below ((below_drewN (Below.refl _ _) _).trans hbl4) b)
 clear hs2 hp2
 have hsz4 : w.heap.size < w4.heap.size := htk4.lt
 go_wp2_with fail
 refine (HC1.out _ _ hbx4).mono ?_
 rintro e w5 ⟨rfl, rfl⟩
 have hp4 := hr4.place; have hf4 := hr4.free 1
 go_wp2
 rw [rounds_succ]
 go_wp2_with (refine wpList_store_box rfl 40 (.tmp 2) (.tmp 52) rfl w.heap.size #[.int .i64 0, .int .i64 0, .int .i64 0, .string ⟨#[]⟩, .int .i64 0] rfl rfl 40 _ htk4 info_tok5 rfl (tok_one _ _ _ _ _) ?_; intro w6 hx6 hu6 hz6)
 refine bodyPost_ret (results_box_tmp rfl _ _ w.heap.size 40 _ _ rfl hx6 Tryz.underlying40 rfl info_tok5) rfl ?_
 exact ⟨rfl, hu4.far hu6 (Nat.le_refl _)⟩
set_option maxRecDepth 100000 in
set_option maxHeartbeats 1000000 in
theorem sign_no1 (b : Nat) (s : ByteArray) (k : Nat) (o : Value) (w : World) (h : Rd w b s k o) (he : Env w) (hb : 4 ≤ b) (hm : s.size ≤ 1000000)
  (h1 : k + 1 = s.size) (hv : ¬ (s.data.toList.drop k).take 1 ∈ Lexy.signs) :
  Calls Tryz.prog 45 #[.pointer (some ⟨b, 0, none⟩)] w fun e w' => Out w b s k o (.err 4) e w' := by
 have ht1 : decide ((s.size : Int) < (k : Int) + 2) = true := by simp; omega
 have ht2 : decide ((s.size : Int) < (k : Int) + 1) = false := by simp; omega
 obtain ⟨y, hy⟩ : ∃ y, s.extract k (k + 1) = y := ⟨_, rfl⟩
 have hyl : (s.data.toList.drop k).take 1 = y.data.toList := by rw [← hy]; simp
 rw [hyl] at hv
 have HC1 : Hid (∀ (w : World) (g : Nat), Box w g 9 (wordCells Lexy.signs) → Calls Tryz.prog 75 #[.slice (some ⟨g, 0, none⟩) 26 26, .string y] w fun e w' => e = .returned (.bool false) ∧ w = w') := by
  intro w g hc
  have := contains_words Lexy.signs 26 rfl (by omega) y g w hc
  rwa [show decide (y.data.toList ∈ Lexy.signs) = false by simpa using hv] at this
 have hi0 := i2a
 have hi1 := i2b
 have hsl1 : ∀ w, (Instr.slice 9 (.string s) (some (.int .i64 (k : Int))) (some (.int .i64 ((k : Int) + 1))) none).run Tryz.prog w = .ok (.string y) w := by
  intro w
  have := run_slice_string (P := Tryz.prog) w 9 s .i64 .i64 (k : Int) ((k : Int) + 1) Tryz.underlying9 (by omega) (by omega) (by omega)
  rw [show ((k : Int) + 1).toNat = k + 1 by omega, Int.toNat_natCast, hy] at this
  exact this
 have hs0 := h.text; have hp0 := h.place; have hlt := Box.lt h
 clear hv hy hyl
 go_enter Tryz.func45, Tryz.ntmps45
 go_wp2
 refine wp_loop_rounds 3 ?_
 rw [rounds_succ]
 go_wp2
 go_quiet (fail)
 go_wp2
 rw [rounds_succ]
 go_wp2
 go_quiet (fail)
 go_wp2
 go_quiet (fail)
 go_wp2_with fail
 refine (words_sg _ (w.heap.size + 1) (by simp) ((he.alloc (by omega) _).drewN _)).mono ?_
 rintro e w4 ⟨rfl, hbx4, hbl4⟩
 have hr4 : Rd w4 b s k o := Rd.below ((h.alloc _).drewN _) hbl4 (by omega)
 have htk4 : Box w4 w.heap.size 40 #[.int .i64 0, .int .i64 0, .int .i64 0, .string ⟨#[]⟩, .int .i64 0] := Box.below ((Box.new w _ _).drewN _) hbl4 (by omega)
 have hu4 : Upd w w4 b := Upd.below (((Below.refl _ w).alloc (Nat.le_refl _) _).trans ((below_drewN (Below.refl _ _) _).trans (hbl4.mono (by omega)))) b
 clear hs0 hp0
 have hsz4 : w.heap.size < w4.heap.size := htk4.lt
 go_wp2_with fail
 refine (HC1.out _ _ hbx4).mono ?_
 rintro e w5 ⟨rfl, rfl⟩
 have hp4 := hr4.place; have hf4 := hr4.free 1
 go_wp2
 rw [rounds_succ]
 go_wp2_with (refine wpList_store_box rfl 40 (.tmp 2) (.tmp 52) rfl w.heap.size #[.int .i64 0, .int .i64 0, .int .i64 0, .string ⟨#[]⟩, .int .i64 0] rfl rfl 40 _ htk4 info_tok5 rfl (tok_one _ _ _ _ _) ?_; intro w6 hx6 hu6 hz6)
 refine bodyPost_ret (results_box_tmp rfl _ _ w.heap.size 40 _ _ rfl hx6 Tryz.underlying40 rfl info_tok5) rfl ?_
 exact ⟨rfl, hu4.far hu6 (Nat.le_refl _)⟩
theorem sign_any (b : Nat) (s : ByteArray) (k : Nat) (o : Value) (w : World) (h : Rd w b s k o) (he : Env w) (hb : 4 ≤ b) (hm : s.size ≤ 1000000) (hk : k < s.size) :
  Calls Tryz.prog 45 #[.pointer (some ⟨b, 0, none⟩)] w fun e w' => Out w b s k o (Lexy.sign (s.data.toList.drop k)) e w' := by
 have hl : (s.data.toList.drop k).length = s.size - k := by simp
 unfold Lexy.sign
 rw [hl]
 by_cases h2 : k + 2 ≤ s.size
 ·by_cases hw : (s.data.toList.drop k).take 2 ∈ Lexy.signs
  ·rw [if_pos ⟨by omega, hw⟩]
   exact sign_two b s k o w h he hb hm h2 hw
  ·rw [if_neg (fun h => hw h.2)]
   by_cases hv : (s.data.toList.drop k).take 1 ∈ Lexy.signs
   ·rw [if_pos ⟨by omega, hv⟩]
    exact sign_one2 b s k o w h he hb hm h2 hw hv
   ·rw [if_neg (fun h => hv h.2)]
    exact sign_no2 b s k o w h he hb hm h2 hw hv
 ·rw [if_neg (fun h => by omega)]
  by_cases hv : (s.data.toList.drop k).take 1 ∈ Lexy.signs
  ·rw [if_pos ⟨by omega, hv⟩]
   exact sign_one1 b s k o w h he hb hm (by omega) hv
  ·rw [if_neg (fun h => hv h.2)]
   exact sign_no1 b s k o w h he hb hm (by omega) hv
end Go.Proofs.YtonjdlialejedaaGreatDoor.Jl
