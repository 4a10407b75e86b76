/-
  A run of digits; a run of a name's bytes. Conditions: as in the text before.
-/
import Derived.Test.YtgeaphapnoiniaaDoorJlC
namespace Go.Proofs.YtgeaphapnoiniaaDoor
open Go.RowKit

set_option maxRecDepth 100000 in
set_option maxHeartbeats 1000000 in
theorem run_digit (b : Nat) (s : ByteArray) (k : Nat) (o : Value) (w : World) (h : Rd w b s k o) (hk : k ≤ s.size) (hm : s.size ≤ 1000000) :
    Calls Tryd.prog 31 #[.pointer (some ⟨b, 0, none⟩), .func (.func 24) #[] #[]] w fun e w' =>
      e = .returned (.string (s.extract k (k + ((s.data.toList.drop k).takeWhile Lexy.isDigit).length))) ∧ Rd w' b s (k + ((s.data.toList.drop k).takeWhile Lexy.isDigit).length) o ∧ Upd w w' b := by
  obtain ⟨l, hl⟩ : ∃ l, s.data.toList = l := ⟨_, rfl⟩
  have hsz : l.length = s.size := by rw [← hl]; simp
  rw [hl]
  obtain ⟨M, hT⟩ : ∃ M, ((l.drop k).takeWhile Lexy.isDigit).length = M := ⟨_, rfl⟩
  have hM : k + M ≤ s.size := by
    have := tw_len Lexy.isDigit (l.drop k); rw [hT, List.length_drop, hsz] at this; omega
  rw [hT]
  have HL := Lib.hid hl; clear hl
  have HT := Lib.hid hT; clear hT
  have HS := Lib.hid hsz; clear hsz
  have hp0 := h.place
  go_enter Tryd.func31, Tryd.ntmps31
  go_wp2
  go_loopg [] M (fun g wr => ∃ j, g = M - j ∧ j ≤ M ∧ Rd wr b s (k + j) o ∧ Upd w wr b ∧ Hid (j + ((l.drop (k + j)).takeWhile Lexy.isDigit).length = M))
  case atStart => exact ⟨0, rfl, Nat.zero_le _, h, Upd.refl _ _, Lib.hid (by rw [Nat.zero_add]; exact HT.out)⟩
  case round =>
    obtain ⟨j, hg, hjM, hr, hu, H⟩ := hrel
    have HG := Lib.hid hg; clear hg
    clear hp0
    obtain ⟨k', hk'⟩ : ∃ k', k + j = k' := ⟨_, rfl⟩
    rw [hk'] at hr H
    have HK := Lib.hid hk'
    have hkk : k' ≤ s.size := by omega
    clear hk'
    have hs0 := hr.text; have hp0 := hr.place; have hf := hr.free 1
    by_cases hlt : k' < s.size
    · obtain ⟨c, hc⟩ : ∃ c, l[k']? = some c := ⟨_, List.getElem?_eq_getElem (by rw [HS.out]; exact hlt)⟩
      have hl1 : decide ((k' : Int) < s.size) = true := by simp; omega
      have hi := fun w => run_at s c (k' : Int) (by omega) (by rw [HL.out]; exact hc) w
      have hd : l.drop k' = c :: l.drop (k' + 1) := by
        obtain ⟨h1, h2⟩ := List.getElem?_eq_some_iff.1 hc
        rw [List.drop_eq_getElem_cons h1, h2]
      have HC := Lib.hid hc; clear hc
      have HD := Lib.hid hd; clear hd
      cases hpc : Lexy.isDigit c with
      | true =>
        have H1 : Hid (j + 1 + ((l.drop (k' + 1)).takeWhile Lexy.isDigit).length = M) := by
          have := H.out; rw [HD.out, tw_cons hpc] at this; exact Lib.hid (by omega)
        have hj1 : j + 1 ≤ M := by have := H1.out; omega
        have HP := Lib.hid hpc; clear hpc
        go_wp2
        go_quiet ((go_at_call 24; exact Calls.quiet_of ((digit_any c _).mono fun _ _ ⟨he, hw⟩ => ⟨by rw [he, HP.out], 0, hw.symm⟩)))
        go_wp2
        go_roundg (M - (j + 1))
        case measure => rw [HG.out]; omega
        case rel => exact ⟨j + 1, rfl, hj1, (hr.drewN _).moveI _ _ (by rw [← HK.out]; omega), (hu.drewN _).set (.inl rfl) _, by rw [← Nat.add_assoc, HK.out]; exact H1⟩
      | false =>
        have HJ : Hid (M = j) := by
          have := H.out; rw [HD.out, tw_stop hpc] at this; exact Lib.hid (by omega)
        have HP := Lib.hid hpc; clear hpc
        have hle : (k : Int) ≤ (k' : Int) := by have := HK.out; omega
        have hle2 : (k' : Int) ≤ (s.size : Int) := by omega
        go_wp2
        go_quiet ((go_at_call 24; exact Calls.quiet_of ((digit_any c _).mono fun _ _ ⟨he, hw⟩ => ⟨by rw [he, HP.out], 0, hw.symm⟩)))
        go_wp2
        go_quiet (fail)
        go_wp2
        go_ret
        rw [HJ.out, HK.out]
        exact ⟨rfl, hr, (hu.drewN _).drewN _⟩
    · have hl1 : decide ((k' : Int) < s.size) = false := by simp; omega
      have HJ : Hid (M = j) := by
        have := H.out; rw [List.drop_eq_nil_of_le (by rw [HS.out]; omega)] at this; exact Lib.hid (by simpa using this.symm)
      have hle : (k : Int) ≤ (k' : Int) := by have := HK.out; omega
      have hle2 : (k' : Int) ≤ (s.size : Int) := by omega
      go_wp2
      go_quiet (fail)
      go_wp2
      go_quiet (fail)
      go_wp2
      go_ret
      rw [HJ.out, HK.out]
      exact ⟨rfl, hr, (hu.drewN _).drewN _⟩

theorem name1_any (c : UInt8) (w : World) : Calls Tryd.prog 32 #[.int .u8 (c.toNat : Int)] w fun e w' => e = .returned (.bool (Lexy.isNameB c)) ∧ w = w' := by
  have hd : Lexy.isNameB c = (Lexy.isLetter c || Lexy.isDigit c) := rfl
  rw [hd]
  clear hd
  have HLt := Lib.hid (fun w => letter_any c w)
  have HDg := Lib.hid (fun w => digit_any c w)
  obtain ⟨p, hp⟩ : ∃ p, Lexy.isLetter c = p := ⟨_, rfl⟩
  obtain ⟨q, hq⟩ : ∃ q, Lexy.isDigit c = q := ⟨_, rfl⟩
  rw [hp] at HLt ⊢
  rw [hq] at HDg ⊢
  clear hp hq
  cases p with
  | true =>
    go_enter Tryd.func32, Tryd.ntmps32
    go_wp2_with (go_at_call 22; refine (HLt.out _).mono ?_; rintro e w' ⟨rfl, rfl⟩)
    go_ret
    exact ⟨rfl, rfl⟩
  | false =>
    go_enter Tryd.func32, Tryd.ntmps32
    go_wp2_with (first | (go_at_call 22; refine (HLt.out _).mono ?_; rintro e w' ⟨rfl, rfl⟩) | (go_at_call 24; refine (HDg.out _).mono ?_; rintro e w' ⟨rfl, rfl⟩))
    go_ret
    exact ⟨rfl, rfl⟩

set_option maxRecDepth 100000 in
set_option maxHeartbeats 1000000 in
theorem run_name (b : Nat) (s : ByteArray) (k : Nat) (o : Value) (w : World) (h : Rd w b s k o) (hk : k ≤ s.size) (hm : s.size ≤ 1000000) :
    Calls Tryd.prog 31 #[.pointer (some ⟨b, 0, none⟩), .func (.func 32) #[] #[]] w fun e w' =>
      e = .returned (.string (s.extract k (k + ((s.data.toList.drop k).takeWhile Lexy.isNameB).length))) ∧ Rd w' b s (k + ((s.data.toList.drop k).takeWhile Lexy.isNameB).length) o ∧ Upd w w' b := by
  obtain ⟨l, hl⟩ : ∃ l, s.data.toList = l := ⟨_, rfl⟩
  have hsz : l.length = s.size := by rw [← hl]; simp
  rw [hl]
  obtain ⟨M, hT⟩ : ∃ M, ((l.drop k).takeWhile Lexy.isNameB).length = M := ⟨_, rfl⟩
  have hM : k + M ≤ s.size := by
    have := tw_len Lexy.isNameB (l.drop k); rw [hT, List.length_drop, hsz] at this; omega
  rw [hT]
  have HL := Lib.hid hl; clear hl
  have HT := Lib.hid hT; clear hT
  have HS := Lib.hid hsz; clear hsz
  have hp0 := h.place
  go_enter Tryd.func31, Tryd.ntmps31
  go_wp2
  go_loopg [] M (fun g wr => ∃ j, g = M - j ∧ j ≤ M ∧ Rd wr b s (k + j) o ∧ Upd w wr b ∧ Hid (j + ((l.drop (k + j)).takeWhile Lexy.isNameB).length = M))
  case atStart => exact ⟨0, rfl, Nat.zero_le _, h, Upd.refl _ _, Lib.hid (by rw [Nat.zero_add]; exact HT.out)⟩
  case round =>
    obtain ⟨j, hg, hjM, hr, hu, H⟩ := hrel
    have HG := Lib.hid hg; clear hg
    clear hp0
    obtain ⟨k', hk'⟩ : ∃ k', k + j = k' := ⟨_, rfl⟩
    rw [hk'] at hr H
    have HK := Lib.hid hk'
    have hkk : k' ≤ s.size := by omega
    clear hk'
    have hs0 := hr.text; have hp0 := hr.place; have hf := hr.free 1
    by_cases hlt : k' < s.size
    · obtain ⟨c, hc⟩ : ∃ c, l[k']? = some c := ⟨_, List.getElem?_eq_getElem (by rw [HS.out]; exact hlt)⟩
      have hl1 : decide ((k' : Int) < s.size) = true := by simp; omega
      have hi := fun w => run_at s c (k' : Int) (by omega) (by rw [HL.out]; exact hc) w
      have hd : l.drop k' = c :: l.drop (k' + 1) := by
        obtain ⟨h1, h2⟩ := List.getElem?_eq_some_iff.1 hc
        rw [List.drop_eq_getElem_cons h1, h2]
      have HC := Lib.hid hc; clear hc
      have HD := Lib.hid hd; clear hd
      cases hpc : Lexy.isNameB c with
      | true =>
        have H1 : Hid (j + 1 + ((l.drop (k' + 1)).takeWhile Lexy.isNameB).length = M) := by
          have := H.out; rw [HD.out, tw_cons hpc] at this; exact Lib.hid (by omega)
        have hj1 : j + 1 ≤ M := by have := H1.out; omega
        have HP := Lib.hid hpc; clear hpc
        go_wp2
        go_quiet ((go_at_call 32; exact Calls.quiet_of ((name1_any c _).mono fun _ _ ⟨he, hw⟩ => ⟨by rw [he, HP.out], 0, hw.symm⟩)))
        go_wp2
        go_roundg (M - (j + 1))
        case measure => rw [HG.out]; omega
        case rel => exact ⟨j + 1, rfl, hj1, (hr.drewN _).moveI _ _ (by rw [← HK.out]; omega), (hu.drewN _).set (.inl rfl) _, by rw [← Nat.add_assoc, HK.out]; exact H1⟩
      | false =>
        have HJ : Hid (M = j) := by
          have := H.out; rw [HD.out, tw_stop hpc] at this; exact Lib.hid (by omega)
        have HP := Lib.hid hpc; clear hpc
        have hle : (k : Int) ≤ (k' : Int) := by have := HK.out; omega
        have hle2 : (k' : Int) ≤ (s.size : Int) := by omega
        go_wp2
        go_quiet ((go_at_call 32; exact Calls.quiet_of ((name1_any c _).mono fun _ _ ⟨he, hw⟩ => ⟨by rw [he, HP.out], 0, hw.symm⟩)))
        go_wp2
        go_quiet (fail)
        go_wp2
        go_ret
        rw [HJ.out, HK.out]
        exact ⟨rfl, hr, (hu.drewN _).drewN _⟩
    · have hl1 : decide ((k' : Int) < s.size) = false := by simp; omega
      have HJ : Hid (M = j) := by
        have := H.out; rw [List.drop_eq_nil_of_le (by rw [HS.out]; omega)] at this; exact Lib.hid (by simpa using this.symm)
      have hle : (k : Int) ≤ (k' : Int) := by have := HK.out; omega
      have hle2 : (k' : Int) ≤ (s.size : Int) := by omega
      go_wp2
      go_quiet (fail)
      go_wp2
      go_quiet (fail)
      go_wp2
      go_ret
      rw [HJ.out, HK.out]
      exact ⟨rfl, hr, (hu.drewN _).drewN _⟩

end Go.Proofs.YtgeaphapnoiniaaDoor
