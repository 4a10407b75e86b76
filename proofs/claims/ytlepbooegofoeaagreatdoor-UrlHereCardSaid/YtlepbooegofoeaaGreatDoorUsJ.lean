/-
  The walk of UrlHere. Conditions: the library's variables hold what they hold; the address is no longer than an int tells.
-/
import Derived.Test.YtlepbooegofoeaaGreatDoorUsH
namespace Go.Proofs.YtlepbooegofoeaaGreatDoor
set_option linter.unusedSimpArgs false
set_option linter.unusedVariables false
open Go.RowKit

theorem told_ok {r : Except Nat (List UInt8)} {s t : List UInt8} {m : Int} (h : Told r s m) (hr : r = .ok t) : m = 0 ∧ s = t := by
  rcases h with ⟨h1, h2⟩ | ⟨_, _, n, h2, _⟩
  · rw [hr] at h2; injection h2 with h2; exact ⟨h1, h2.symm⟩
  · rw [hr] at h2; cases h2
theorem told_no {r : Except Nat (List UInt8)} {s : List UInt8} {m : Int} {n : Nat} (h : Told r s m) (hr : r = .error n) : m ≠ 0 := by
  rcases h with ⟨h1, h2⟩ | ⟨h1, _⟩
  · rw [hr] at h2; cases h2
  · exact h1
theorem pre_self (o r : List UInt8) : Lib.hasPrefix (o ++ 47 :: r) (o ++ [47]) = true := by
  unfold Lib.hasPrefix
  rw [List.isPrefixOf_iff_prefix]
  exact ⟨r, by simp⟩
set_option maxRecDepth 100000 in
set_option maxHeartbeats 8000000 in
theorem here_walk (base ref : List UInt8) (w : World) (he : Env w) (hb : base.length ≤ 9223372036854775807) :
    Calls Tryz.prog 6 #[.string (byt base), .string (byt ref)] w (TruthOut w) := by
  have HR1 : Hid (ResC base ref w) := Lib.hid (resC base ref w he)
  have HO : Hid (∀ s w1, Below w.heap.size w w1 → OriC s w1) := Lib.hid (fun s w1 h1 => oriC s w1 (he.below h1))
  have HR3 : Hid (∀ w1, Below w.heap.size w w1 → Calls Tryz.prog 15 #[.string (byt base), .string ⟨#[]⟩] w1 fun e w' => ∃ s m, e = .returned (.tuple #[.string (byt s), .int .i64 m]) ∧ Told (Urly.resolve base []) s m ∧ Below w1.heap.size w1 w') := Lib.hid (fun w1 h1 => resC base [] w1 (he.below h1))
  obtain ⟨front, q1, q2, hcut⟩ : ∃ a b c, cutAt 35 base = (a, b, c) := ⟨_, _, _, rfl⟩
  have HC : Hid (∀ w, Calls Tryz.prog 20 #[.string (byt base), .string ⟨#[35]⟩] w (fun e w' => e = .returned (.tuple #[.string (byt front), .string (byt q1), .bool q2]) ∧ Below w.heap.size w w')) := Lib.hid (fun w => by
    have := cut_any base 35 w hb
    unfold CutOut at this
    rwa [hcut] at this)
  have HFR : Hid ((Urly.cut 35 base).1 = front) := Lib.hid (by
    have h2 : Urly.cut 35 base = (front, q1, q2) := hcut
    rw [h2])
  have HR5 : Hid (∀ w1, Below w.heap.size w w1 → ResC front front w1) := Lib.hid (fun w1 h1 => resC front front w1 (he.below h1))
  have HL : Hid (∀ w1, Below w.heap.size w w1 → Calls Tryz.prog 13 #[] w1 (TruthOut w1)) := Lib.hid (fun w1 h1 => urlLives_true w1 (he.below h1))
  have HNO : Hid (∀ (m : Int), m ≠ 0 → ∀ (w1 : World), Calls Tryz.prog 21 #[.slice (some ⟨w1.heap.size, 0, none⟩) 1 1] (w1.alloc (.cells #[.int .i64 m] 23)) fun e w' => e = .returned (.bool false) ∧ Below w1.heap.size w1 w') := Lib.hid (fun m hm w1 => (ok_any [m] w1.heap.size _ (Box.new w1 _ _) (by simp)).mono fun e w' ⟨h1, h2⟩ => ⟨by rw [h1]; simp [hm], by rw [h2]; exact below1 w1 _⟩)
  have HCO : Hid (∀ w, Calls Tryz.prog 22 #[.string (byt ref), .string ⟨#[58]⟩] w fun e w' => e = .returned (.bool (ref.contains 58)) ∧ w' = w) := Lib.hid (fun w => by
    have := Tryz.strings_Contains_one (byt ref) 58 w
    rwa [byt_data, ← Lib.contains_iff_indexByte] at this)
  have HHP : Hid (∀ w, Calls Tryz.prog 23 #[.string (byt ref), .string ⟨#[47, 47]⟩] w fun e w' => e = .returned (.bool (Urly.twoOff ref).isSome) ∧ w' = w) := Lib.hid (fun w => hasp_any ref w)
  have HPS : Hid (∀ (o r : List UInt8) w, Calls Tryz.prog 23 #[.string (byt (o ++ 47 :: r)), .string (byt (o ++ [47]))] w fun e w' => e = .returned (.bool true) ∧ w' = w) := Lib.hid (fun o r w => by
    have h := Tryz.strings_HasPrefix (byt (o ++ 47 :: r)) (byt (o ++ [47])) w
    rw [byt_data, byt_data, pre_self] at h
    exact h)
  obtain ⟨BS, hBS⟩ : ∃ B, byt base = B := ⟨_, rfl⟩
  have HOB : Hid (∀ w1, Below w.heap.size w w1 → Calls Tryz.prog 19 #[.string BS] w1 fun e w' => ∃ o m, e = .returned (.tuple #[.string (byt o), .int .i64 m]) ∧ Told (Urly.originOf base) o m ∧ Below w1.heap.size w1 w') := Lib.hid (fun w1 h1 => by rw [← hBS]; exact oriC base w1 (he.below h1))
  unfold ResC at HR1
  rw [hBS] at HR1 HR3 HC ⊢
  clear hcut hb he hBS
  go_enter Tryz.func6, Tryz.ntmps6
  go_wp2_with (fail)
  refine HR1.out.mono ?_
  rintro e w1 ⟨s, m1, rfl, ht, hw1⟩
  have HW1 := Lib.hid hw1
  have HT1 := Lib.hid ht
  clear hw1 ht HR1
  go_wp2_with (fail)
  refine (HOB.out _ HW1.out).mono ?_
  rintro e w2 ⟨o, m2, rfl, ht, hw2⟩
  have HW2 := Lib.hid (HW1.out.trans (hw2.mono HW1.out.size))
  have HT2 := Lib.hid ht
  clear hw2 ht HOB
  go_wp2_with (fail)
  refine (HR3.out _ HW2.out).mono ?_
  rintro e w3 ⟨here, m3, rfl, ht, hw3⟩
  have HW3 := Lib.hid (HW2.out.trans (hw3.mono HW2.out.size))
  have HT3 := Lib.hid ht
  clear hw3 ht HR3
  go_wp2_with (fail)
  refine (HC.out _).mono ?_
  rintro e w4 ⟨rfl, hw4⟩
  have HW4 := Lib.hid (HW3.out.trans (hw4.mono HW3.out.size))
  clear hw4 HC
  go_wp2_with (fail)
  refine (HR5.out _ HW4.out).mono ?_
  rintro e w5 ⟨same, m5, rfl, ht, hw5⟩
  have HW5 := Lib.hid (HW4.out.trans (hw5.mono HW4.out.size))
  have HT5 := Lib.hid ht
  clear hw5 ht HR5
  go_wp2_with (fail)
  refine (HL.out _ HW5.out).mono ?_
  rintro e w6 ⟨rfl, hw6⟩
  have HW6 := Lib.hid (HW5.out.trans (hw6.mono HW5.out.size))
  clear hw6
  cases hp : Urly.parse base with
  | error k =>
    have h2 := told_no HT2.out (Urly.origin_fail hp)
    have h1 := told_no HT1.out (Urly.resolve_fail hp)
    have h3 := told_no HT3.out (Urly.resolve_fail hp)
    have HN1 := Lib.hid (HNO.out m1 h1)
    have HN3 := Lib.hid (HNO.out m3 h3)
    have h2b : (m2 != 0) = true := by rw [bne, beq_no h2]; rfl
    clear hp h1 h2 h3
    go_wp2_with (fail)
    refine (HL.out _ HW6.out).mono ?_
    rintro e w7 ⟨rfl, hw7⟩
    have HW7 := Lib.hid (HW6.out.trans (hw7.mono HW6.out.size))
    clear hw7
    go_wp2_with (fail)
    refine (HN1.out _).mono ?_
    rintro e w8 ⟨rfl, hw8⟩
    have HW8 := Lib.hid (HW7.out.trans (hw8.mono HW7.out.size))
    clear hw8
    go_wp2_with (fail)
    refine (HN3.out _).mono ?_
    rintro e w9 ⟨rfl, hw9⟩
    have HW9 := Lib.hid (HW8.out.trans (hw9.mono HW8.out.size))
    clear hw9
    go_wp2
    go_ret
    exact ⟨by simp, HW9.out⟩
  | ok b =>
    obtain ⟨h2, ho⟩ := told_ok HT2.out (Urly.origin_ok hp)
    subst h2
    have HPB := Lib.hid hp
    have HSZ := Lib.hid (Urly.parse_size hp).1
    have hhere : m3 = 0 → m5 = 0 ∧ same = here := fun h => by
      rcases HT3.out with ⟨_, hr⟩ | ⟨h', _⟩
      · have := Urly.here_law hp hr
        rw [HFR.out] at this
        exact told_ok HT5.out this
      · exact absurd h h'
    clear hp HT3 HT5
    have hfork : (m3 = 0 ∧ m5 = 0 ∧ same = here) ∨ m3 ≠ 0 := by
      by_cases h : m3 = 0
      · exact .inl ⟨h, hhere h⟩
      · exact .inr h
    clear hhere
    -- the rest
    rcases hfork with ⟨h3, h5, hs⟩ | h3
    · subst h3
      subst h5
      subst hs
      have hq : ((byt same).toList != (byt same).toList) = false := by simp
      obtain ⟨HH, hHH⟩ : ∃ H, byt same = H := ⟨_, rfl⟩
      rw [hHH] at hq ⊢
      clear hHH
      rcases HT1.out with ⟨h1, hr⟩ | ⟨h1, _⟩
      rotate_left
      · have h1b : (m1 != 0) = true := by rw [bne, beq_no h1]; rfl
        clear h1
        go_wp2
        go_ret
        exact ⟨by first | rfl | simp, HW6.out⟩
      subst h1
      have HRR := Lib.hid hr
      clear hr
      cases hc : ref.contains 58 with
      | true =>
        rw [hc] at HCO
        clear hc
        go_wp2_with (fail)
        refine (HCO.out _).mono ?_
        rintro e w7 ⟨rfl, hw7⟩
        subst hw7
        go_wp2
        go_ret
        exact ⟨by first | rfl | simp, HW6.out⟩
      | false =>
        have HNC : Hid (58 ∉ ref) := Lib.hid (by simpa using hc)
        rw [hc] at HCO
        clear hc
        cases htw : (Urly.twoOff ref).isSome with
        | true =>
          rw [htw] at HHP
          clear htw
          go_wp2_with (fail)
          refine (HCO.out _).mono ?_
          rintro e w7 ⟨rfl, hw7⟩
          subst hw7
          go_wp2_with (fail)
          refine (HHP.out _).mono ?_
          rintro e w7 ⟨rfl, hw7⟩
          subst hw7
          go_wp2
          go_ret
          exact ⟨by first | rfl | simp, HW6.out⟩
        | false =>
          have htn : Urly.twoOff ref = none := by cases h : Urly.twoOff ref with | none => rfl | some x => rw [h] at htw; cases htw
          obtain ⟨hst, r, hsr⟩ := Urly.stay_law HPB.out HRR.out HNC.out htn
          rw [htw] at HHP
          have HOS := Lib.hid (HO.out s _ HW6.out)
          have HST := Lib.hid hst
          have hol := byt_size (Urly.origin b)
          have hol2 := (Urly.text_size HSZ.out).1
          have HPSS := Lib.hid (HPS.out (Urly.origin b) r)
          have HAPP := Lib.hid (byt_append (Urly.origin b) [47])
          rw [show (Urly.origin b ++ 47 :: r) = s from hsr.symm] at HPSS
          subst ho
          clear htw htn hst hsr
          go_wp2_with (fail)
          refine (HCO.out _).mono ?_
          rintro e w7 ⟨rfl, hw7⟩
          subst hw7
          go_wp2_with (fail)
          refine (HHP.out _).mono ?_
          rintro e w7 ⟨rfl, hw7⟩
          subst hw7
          go_wp2_with (fail)
          refine HOS.out.mono ?_
          rintro e w8 ⟨p, m6, rfl, ht, hw8⟩
          obtain ⟨rfl, rfl⟩ := told_ok ht HST.out
          have HW8 := Lib.hid (HW6.out.trans (hw8.mono HW6.out.size))
          clear hw8 ht HST HOS
          obtain ⟨OO, hOO⟩ : ∃ O, byt (Urly.origin b) = O := ⟨_, rfl⟩
          obtain ⟨OS, hOS⟩ : ∃ O, byt (Urly.origin b ++ [47]) = O := ⟨_, rfl⟩
          rw [hOO] at hol HAPP ⊢
          rw [hOS] at HAPP HPSS
          have hol3 : OO.size ≤ 700 := by omega
          have ho2 : (OO.toList == OO.toList) = true := by simp
          clear hOO hOS hol hol2
          go_wp2_with (fail)
          have e47 : (⟨#[47]⟩ : ByteArray) = byt [47] := rfl
          rw [e47, HAPP.out]
          refine (HPSS.out _).mono ?_
          rintro e w9 ⟨rfl, hw9⟩
          subst hw9
          go_wp2
          go_ret
          exact ⟨by first | rfl | simp, HW8.out⟩
    · have h3b : (m3 == 0) = false := beq_no h3
      clear h3
      rcases HT1.out with ⟨h1, hr⟩ | ⟨h1, _⟩
      rotate_left
      · have h1b : (m1 != 0) = true := by rw [bne, beq_no h1]; rfl
        clear h1
        go_wp2
        go_ret
        exact ⟨by first | rfl | simp, HW6.out⟩
      subst h1
      have HRR := Lib.hid hr
      clear hr
      cases hc : ref.contains 58 with
      | true =>
        rw [hc] at HCO
        clear hc
        go_wp2_with (fail)
        refine (HCO.out _).mono ?_
        rintro e w7 ⟨rfl, hw7⟩
        subst hw7
        go_wp2
        go_ret
        exact ⟨by first | rfl | simp, HW6.out⟩
      | false =>
        have HNC : Hid (58 ∉ ref) := Lib.hid (by simpa using hc)
        rw [hc] at HCO
        clear hc
        cases htw : (Urly.twoOff ref).isSome with
        | true =>
          rw [htw] at HHP
          clear htw
          go_wp2_with (fail)
          refine (HCO.out _).mono ?_
          rintro e w7 ⟨rfl, hw7⟩
          subst hw7
          go_wp2_with (fail)
          refine (HHP.out _).mono ?_
          rintro e w7 ⟨rfl, hw7⟩
          subst hw7
          go_wp2
          go_ret
          exact ⟨by first | rfl | simp, HW6.out⟩
        | false =>
          have htn : Urly.twoOff ref = none := by cases h : Urly.twoOff ref with | none => rfl | some x => rw [h] at htw; cases htw
          obtain ⟨hst, r, hsr⟩ := Urly.stay_law HPB.out HRR.out HNC.out htn
          rw [htw] at HHP
          have HOS := Lib.hid (HO.out s _ HW6.out)
          have HST := Lib.hid hst
          have hol := byt_size (Urly.origin b)
          have hol2 := (Urly.text_size HSZ.out).1
          have HPSS := Lib.hid (HPS.out (Urly.origin b) r)
          have HAPP := Lib.hid (byt_append (Urly.origin b) [47])
          rw [show (Urly.origin b ++ 47 :: r) = s from hsr.symm] at HPSS
          subst ho
          clear htw htn hst hsr
          go_wp2_with (fail)
          refine (HCO.out _).mono ?_
          rintro e w7 ⟨rfl, hw7⟩
          subst hw7
          go_wp2_with (fail)
          refine (HHP.out _).mono ?_
          rintro e w7 ⟨rfl, hw7⟩
          subst hw7
          go_wp2_with (fail)
          refine HOS.out.mono ?_
          rintro e w8 ⟨p, m6, rfl, ht, hw8⟩
          obtain ⟨rfl, rfl⟩ := told_ok ht HST.out
          have HW8 := Lib.hid (HW6.out.trans (hw8.mono HW6.out.size))
          clear hw8 ht HST HOS
          obtain ⟨OO, hOO⟩ : ∃ O, byt (Urly.origin b) = O := ⟨_, rfl⟩
          obtain ⟨OS, hOS⟩ : ∃ O, byt (Urly.origin b ++ [47]) = O := ⟨_, rfl⟩
          rw [hOO] at hol HAPP ⊢
          rw [hOS] at HAPP HPSS
          have hol3 : OO.size ≤ 700 := by omega
          have ho2 : (OO.toList == OO.toList) = true := by simp
          clear hOO hOS hol hol2
          go_wp2_with (fail)
          have e47 : (⟨#[47]⟩ : ByteArray) = byt [47] := rfl
          rw [e47, HAPP.out]
          refine (HPSS.out _).mono ?_
          rintro e w9 ⟨rfl, hw9⟩
          subst hw9
          go_wp2
          go_ret
          exact ⟨by first | rfl | simp, HW8.out⟩
end Go.Proofs.YtlepbooegofoeaaGreatDoor
