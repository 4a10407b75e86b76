/-
  Host and port of an address. Conditions: the library's variables hold what they hold; the text is no longer than 1000 bytes; the address lies in a block that is known whole.
-/
import Derived.Test.YtdolmjeiakdfhaaGreatDoorUrT
import Derived.Test.YtdolmjeiakdfhaaGreatDoorUrTn
import Derived.Lib.AtoiErrMem
namespace Go.Proofs.YtdolmjeiakdfhaaGreatDoor
set_option linter.unusedSimpArgs false
set_option linter.unusedVariables false
open Go.RowKit

theorem place_form {sch s h p : List UInt8} {has : Bool} (hc : cutAt 58 s = (h, p, has)) : Urly.place sch s =
    (if !Urly.host (Urly.small h) then none else if !has then some (Urly.small h, 0)
    else if p.length < 1 ∨ 5 < p.length ∨ !p.all Urly.digit then none
    else if Urly.number p < 1 ∨ 65535 < Urly.number p then none
    else some (Urly.small h, if Urly.number p ≠ Urly.own sch then Urly.number p else 0)) := by
  have h2 : Urly.cut 58 s = (h, p, has) := hc
  unfold Urly.place
  rw [h2]
theorem cut_len (c : UInt8) (s : List UInt8) : (cutAt c s).1.length ≤ s.length ∧ (cutAt c s).2.1.length ≤ s.length := by
  unfold cutAt
  split
  · refine ⟨(List.takeWhile_prefix _).length_le, ?_⟩
    have h1 : (s.dropWhile (· != c)).length ≤ s.length := (List.dropWhile_suffix _).length_le
    simp only [List.length_drop]
    omega
  · simp
def PlaceOut (b : Nat) (sch s : List UInt8) (p q a f t : Value) (w : World) (e : Ending) (w' : World) : Prop :=
  (∃ h n, Urly.place sch s = some (h, n) ∧ e = .returned (.bool true) ∧ Box w' b 62 #[.string (byt sch), .string (byt h), .int .i64 (n : Int), p, q, a, f, t] ∧ Upd w w' b) ∨
  (Urly.place sch s = none ∧ e = .returned (.bool false) ∧ Upd w w' b)
theorem placeOut_no {b : Nat} {sch s : List UInt8} {p q a f t : Value} {w w' : World} {e : Ending} (h : Urly.place sch s = none) (he : e = .returned (.bool false)) (hu : Upd w w' b) : PlaceOut b sch s p q a f t w e w' := .inr ⟨h, he, hu⟩
theorem placeOut_yes {b n : Nat} {N : Int} {sch s h : List UInt8} {p q a f t : Value} {w w' : World} {e : Ending} (hp : Urly.place sch s = some (h, n)) (he : e = .returned (.bool true)) (hN : (n : Int) = N) (hb : Box w' b 62 #[.string (byt sch), .string (byt h), .int .i64 N, p, q, a, f, t]) (hu : Upd w w' b) : PlaceOut b sch s p q a f t w e w' := .inl ⟨h, n, hp, he, hN ▸ hb, hu⟩
set_option maxRecDepth 100000 in
set_option maxHeartbeats 4000000 in
theorem place_any (sch s : List UInt8) (b : Nat) (h0 pa q a f t : Value) (w : World) (hB : Box w b 62 #[.string (byt sch), h0, .int .i64 0, pa, q, a, f, t]) (hs : s.length ≤ 1000) (he : Env w) (hb : 6 ≤ b) :
    Calls Tryz.prog 46 #[.pointer (some ⟨b, 0, none⟩), .string (byt s)] w (PlaceOut b sch s pa q a f t w) := by
  obtain ⟨h, p, has, hcut⟩ : ∃ h p has, cutAt 58 s = (h, p, has) := ⟨_, _, _, rfl⟩
  have hlen := cut_len 58 s
  rw [hcut] at hlen
  have hl1 : h.length ≤ 1000 := by have := hlen.1; simp only at this; omega
  have hl2 : p.length ≤ 1000 := by have := hlen.2; simp only at this; omega
  have HPL := Lib.hid (place_form (sch := sch) hcut)
  have HC : Hid (∀ w, Calls Tryz.prog 54 #[.string (byt s), .string ⟨#[58]⟩] w (fun e w' => e = .returned (.tuple #[.string (byt h), .string (byt p), .bool has]) ∧ Below w.heap.size w w')) := Lib.hid (fun w => by
    have := cut_any s 58 w (by omega)
    unfold CutOut at this
    rwa [hcut] at this)
  obtain ⟨M, hM⟩ : ∃ M, Lib.mapD lowR h = M := ⟨_, rfl⟩
  have hMl : M.length ≤ 4000 := by rw [← hM]; have := mapD_len h h.length (Nat.le_refl _); omega
  have HS : Hid (∀ w, Env w → Calls Tryz.prog 59 #[.string (byt h)] w (fun e w' => e = .returned (.string (byt M)) ∧ Below w.heap.size w w')) := Lib.hid (fun w hE => by
    have := small_env h w (by omega) hE
    unfold SmallOut at this
    rwa [hM] at this)
  obtain ⟨HB, hHB⟩ : ∃ HB, Urly.host M = HB := ⟨_, rfl⟩
  have HH : Hid (∀ w, Env w → Calls Tryz.prog 67 #[.string (byt M)] w (fun e w' => e = .returned (.bool HB) ∧ Below w.heap.size w w')) := Lib.hid (fun w hE => by
    have := host_any M w (by omega) hE
    unfold BoolOut at this
    rwa [hHB] at this)
  have hmd := host_mapD h
  rw [hM, hHB] at hmd
  have HHB : Hid (HB = Urly.host (Urly.small h)) := Lib.hid hmd.1
  have HMM : Hid (HB = true → M = Urly.small h) := Lib.hid (fun e => hmd.2 (hmd.1 ▸ e))
  have HTR : Hid (∀ w, Calls Tryz.prog 68 #[.string (byt p), .string (byt dset)] w (fun e w' => ∃ T : ByteArray, e = .returned (.string T) ∧ T.toList.isEmpty = p.all dset.contains ∧ Below w.heap.size w w')) := Lib.hid (fun w => trim_any p dset (by decide +kernel) (by decide) w (by omega))
  have HAT : Hid (p ≠ [] → p.length ≤ 5 → p.all Urly.digit = true → ∀ w, Calls Tryz.prog 69 #[.string (byt p)] w (fun e w' => e = .returned (.tuple #[.int .i64 (Urly.number p : Int), .nilIface]) ∧ Below w.heap.size w w')) := Lib.hid (fun h1 h2 h3 w =>
    (Tryz.strconv_Atoi (byt p) (Urly.number p : Int) (by rw [byt_size]; omega) (by rw [byt_data]; exact atoi_num h1 h3) w).mono fun e w' ⟨h4, t, h5⟩ => ⟨h4, by rw [h5]; exact Lib.bytesWorld_below _ _ _⟩)
  have HOW : Hid (∀ w, Calls Tryz.prog 70 #[.string (byt sch)] w (fun e w' => e = .returned (.int .i64 (Urly.own sch : Int)) ∧ w = w')) := Lib.hid (fun w => own_any sch w)
  have HE := Lib.hid he
  have HB0 := Lib.hid hB
  have HAD : Hid (p.all dset.contains = p.all Urly.digit) := Lib.hid (by rw [funext dset_eq])
  obtain ⟨O, hO⟩ : ∃ O : Int, (Urly.own sch : Int) = O := ⟨_, rfl⟩
  rw [hO] at HOW
  have HO := Lib.hid hO
  obtain ⟨N, hN⟩ : ∃ N : Int, (Urly.number p : Int) = N := ⟨_, rfl⟩
  rw [hN] at HAT
  have HN := Lib.hid hN
  obtain ⟨C, hC⟩ : ∃ C : ByteArray, byt sch = C := ⟨_, rfl⟩
  rw [hC] at HB0 HOW
  have HSC := Lib.hid hC
  obtain ⟨S, hS⟩ : ∃ S : ByteArray, byt s = S := ⟨_, rfl⟩
  rw [hS] at HC
  rw [hS]
  obtain ⟨H, hH⟩ : ∃ H : ByteArray, byt h = H := ⟨_, rfl⟩
  rw [hH] at HC HS
  obtain ⟨P, hP⟩ : ∃ P : ByteArray, byt p = P := ⟨_, rfl⟩
  rw [hP] at HC HTR HAT
  have HPz : Hid (P.size = p.length) := Lib.hid (by rw [← hP, byt_size])
  obtain ⟨MM, hMM⟩ : ∃ MM : ByteArray, byt M = MM := ⟨_, rfl⟩
  rw [hMM] at HS HH
  have HMT := Lib.hid hMM
  have hblt : b < w.heap.size := hB.lt
  clear hcut hlen hM hHB hmd hO hN hC hS hH hP hMM he hB hs hl1 hl2 hMl
  go_enter Tryz.func46, Tryz.ntmps46
  go_wp2_with (fail)
  refine (HC.out _).mono ?_
  rintro e w1 ⟨rfl, hw1⟩
  have HW1 := Lib.hid hw1
  have HE1 : Hid (Env w1) := Lib.hid (HE.out.below hw1)
  clear hw1 HC
  go_wp2_with (fail)
  refine (HS.out _ HE1.out).mono ?_
  rintro e w2 ⟨rfl, hw2⟩
  have HW2 : Hid (Below w.heap.size w w2) := Lib.hid (HW1.out.trans (hw2.mono HW1.out.size))
  have HE2 : Hid (Env w2) := Lib.hid (HE1.out.below hw2)
  have HB2 : Hid (Box w2 b 62 #[.string C, h0, .int .i64 0, pa, q, a, f, t]) := Lib.hid (HB0.out.below HW2.out hblt)
  have c1 : w2.cell? ⟨b, 1, none⟩ = some h0 := HB2.out.cell 1
  have z1 : w2.frozen? ⟨b, 1, none⟩ = false := HB2.out.frozen 1
  clear hw2 HS HW1 HE1
  go_wp2_with (fail)
  obtain ⟨w3, hw3⟩ : ∃ w3, w2.setCell ⟨b, 1, none⟩ (.string MM) = w3 := ⟨_, rfl⟩
  rw [hw3]
  have HB3 : Hid (Box w3 b 62 #[.string C, .string MM, .int .i64 0, pa, q, a, f, t]) := Lib.hid (by rw [← hw3]; exact HB2.out.set 1 _)
  have HW3 : Hid (Upd w w3 b) := Lib.hid (by rw [← hw3]; exact (Upd.below HW2.out b).set (.inl rfl) _)
  have HE3 : Hid (Env w3) := Lib.hid (HE.out.upd HW3.out hb)
  clear hw3 c1 z1 HB2 HE2 HW2
  refine (HH.out _ HE3.out).mono ?_
  rintro e w4 ⟨rfl, hw4⟩
  have HB4 : Hid (Box w4 b 62 #[.string C, .string MM, .int .i64 0, pa, q, a, f, t]) := Lib.hid (HB3.out.below hw4 HB3.out.lt)
  have HW4 : Hid (Upd w w4 b) := Lib.hid (HW3.out.step hw4)
  have HE4 : Hid (Env w4) := Lib.hid (HE3.out.below hw4)
  clear hw4 HH HB3 HE3 HW3
  cases HB with
  | false =>
    have HF : Hid (Urly.place sch s = none) := Lib.hid (by rw [HPL.out, ← HHB.out]; rfl)
    clear HPL HHB HMM
    go_wp2
    go_ret
    exact placeOut_no HF.out rfl HW4.out
  | true =>
    have HM2 : Hid (M = Urly.small h) := Lib.hid (HMM.out rfl)
    cases has with
    | false =>
      have HF : Hid (Urly.place sch s = some (Urly.small h, 0)) := Lib.hid (by rw [HPL.out, ← HHB.out]; rfl)
      clear HPL HHB HMM
      go_wp2
      go_ret
      exact placeOut_yes HF.out rfl rfl (by rw [HSC.out, ← HM2.out, HMT.out]; exact HB4.out) HW4.out
    | true =>
      have HP1 : Hid (Urly.place sch s = (if p.length < 1 ∨ 5 < p.length ∨ !p.all Urly.digit then none
        else if Urly.number p < 1 ∨ 65535 < Urly.number p then none
        else some (Urly.small h, if Urly.number p ≠ Urly.own sch then Urly.number p else 0))) := Lib.hid (by rw [HPL.out, ← HHB.out]; rfl)
      clear HPL HHB HMM
      by_cases k1 : p.length < 1
      · have HF : Hid (Urly.place sch s = none) := Lib.hid (by rw [HP1.out, if_pos (.inl k1)])
        have d1 : decide ((P.size : Int) < 1) = true := decide_eq_true (by rw [HPz.out]; omega)
        have d2 : (P.size : Int) < 1 := by rw [HPz.out]; omega
        clear HP1 k1
        go_wp2
        go_ret
        exact placeOut_no HF.out rfl HW4.out
      · by_cases k2 : 5 < p.length
        · have HF : Hid (Urly.place sch s = none) := Lib.hid (by rw [HP1.out, if_pos (.inr (.inl k2))])
          have d1 : decide ((P.size : Int) < 1) = false := decide_eq_false (by rw [HPz.out]; omega)
          have d2 : ¬ (P.size : Int) < 1 := by rw [HPz.out]; omega
          have d3 : decide ((P.size : Int) > 5) = true := decide_eq_true (by rw [HPz.out]; omega)
          have d4 : (5 : Int) < (P.size : Int) := by rw [HPz.out]; omega
          clear HP1 k1 k2
          go_wp2
          go_ret
          exact placeOut_no HF.out rfl HW4.out
        · have d1 : decide ((P.size : Int) < 1) = false := decide_eq_false (by rw [HPz.out]; omega)
          have d2 : ¬ (P.size : Int) < 1 := by rw [HPz.out]; omega
          have d3 : decide ((P.size : Int) > 5) = false := decide_eq_false (by rw [HPz.out]; omega)
          have d4 : ¬ (5 : Int) < (P.size : Int) := by rw [HPz.out]; omega
          have HK : Hid (p ≠ [] ∧ p.length ≤ 5) := Lib.hid ⟨by rintro rfl; simp at k1, by omega⟩
          have HK1 := Lib.hid k1
          have HK2 := Lib.hid k2
          clear k1 k2
          go_wp2_with (fail)
          refine (HTR.out _).mono ?_
          rintro e w5 ⟨T, rfl, hT, hw5⟩
          have HB5 : Hid (Box w5 b 62 #[.string C, .string MM, .int .i64 0, pa, q, a, f, t]) := Lib.hid (HB4.out.below hw5 HB4.out.lt)
          have HW5 : Hid (Upd w w5 b) := Lib.hid (HW4.out.step hw5)
          clear hw5 HTR HB4 HW4 HE4
          rw [HAD.out] at hT
          cases hall : p.all Urly.digit with
          | false =>
            rw [hall] at hT
            have HF : Hid (Urly.place sch s = none) := Lib.hid (by rw [HP1.out, if_pos (.inr (.inr (by rw [hall]; rfl)))])
            clear HP1 hall
            go_wp2
            go_ret
            exact placeOut_no HF.out rfl HW5.out
          | true =>
            rw [hall] at hT
            have HP2 : Hid (Urly.place sch s = (if Urly.number p < 1 ∨ 65535 < Urly.number p then none
              else some (Urly.small h, if Urly.number p ≠ Urly.own sch then Urly.number p else 0))) := Lib.hid (by rw [HP1.out, if_neg (by rintro (h | h | h); exact HK1.out h; exact HK2.out h; rw [hall] at h; cases h)])
            have HA2 := Lib.hid (HAT.out HK.out.1 HK.out.2 hall)
            clear HP1 hall HAT HAD
            go_wp2_with (fail)
            refine (HA2.out _).mono ?_
            rintro e w6 ⟨rfl, hw6⟩
            have HB6 : Hid (Box w6 b 62 #[.string C, .string MM, .int .i64 0, pa, q, a, f, t]) := Lib.hid (HB5.out.below hw6 HB5.out.lt)
            have HW6 : Hid (Upd w w6 b) := Lib.hid (HW5.out.step hw6)
            clear hw6 HA2 HB5 HW5
            by_cases k3 : Urly.number p < 1
            · have HF : Hid (Urly.place sch s = none) := Lib.hid (by rw [HP2.out, if_pos (.inl k3)])
              have e1 : decide (N < 1) = true := decide_eq_true (by rw [← HN.out]; omega)
              have e2 : N < 1 := by rw [← HN.out]; omega
              clear k3 HP2
              go_wp2
              go_ret
              exact placeOut_no HF.out rfl HW6.out
            · by_cases k4 : 65535 < Urly.number p
              · have HF : Hid (Urly.place sch s = none) := Lib.hid (by rw [HP2.out, if_pos (.inr k4)])
                have e1 : decide (N < 1) = false := decide_eq_false (by rw [← HN.out]; omega)
                have e2 : ¬ N < 1 := by rw [← HN.out]; omega
                have e3 : decide (N > 65535) = true := decide_eq_true (by rw [← HN.out]; omega)
                have e4 : 65535 < N := by rw [← HN.out]; omega
                clear k3 k4 HP2
                go_wp2
                go_ret
                exact placeOut_no HF.out rfl HW6.out
              · have HP3 : Hid (Urly.place sch s = some (Urly.small h, if Urly.number p ≠ Urly.own sch then Urly.number p else 0)) := Lib.hid (by rw [HP2.out, if_neg (by omega)])
                have e1 : decide (N < 1) = false := decide_eq_false (by rw [← HN.out]; omega)
                have e2 : ¬ N < 1 := by rw [← HN.out]; omega
                have e3 : decide (N > 65535) = false := decide_eq_false (by rw [← HN.out]; omega)
                have e4 : ¬ 65535 < N := by rw [← HN.out]; omega
                have c0 : w6.cell? ⟨b, 0, none⟩ = some (.string C) := HB6.out.cell 0
                clear k3 k4 HP2
                go_wp2_with (fail)
                refine (HOW.out _).mono ?_
                rintro e wr ⟨rfl, rfl⟩
                by_cases k5 : Urly.number p = Urly.own sch
                · have HF : Hid (Urly.place sch s = some (Urly.small h, 0)) := Lib.hid (by rw [HP3.out, if_neg (by simpa using k5)])
                  have f1 : (N == O) = true := by rw [← HN.out, ← HO.out, k5]; simp
                  clear k5 HP3
                  go_wp2
                  go_ret
                  exact placeOut_yes HF.out rfl rfl (by rw [HSC.out, ← HM2.out, HMT.out]; exact HB6.out) HW6.out
                · have HF : Hid (Urly.place sch s = some (Urly.small h, Urly.number p)) := Lib.hid (by rw [HP3.out, if_pos k5])
                  have f1 : (N == O) = false := by rw [← HN.out, ← HO.out]; exact beq_no (by omega)
                  have c2 : w6.cell? ⟨b, 2, none⟩ = some (.int .i64 0) := HB6.out.cell 2
                  have z2 : w6.frozen? ⟨b, 2, none⟩ = false := HB6.out.frozen 2
                  clear k5 HP3
                  go_wp2
                  go_ret
                  exact placeOut_yes HF.out rfl HN.out (by rw [HSC.out, ← HM2.out, HMT.out]; exact HB6.out.set 2 _) (HW6.out.set (.inl rfl) _)
end Go.Proofs.YtdolmjeiakdfhaaGreatDoor
