/-
  The walks of the laws of addresses: bytes, again, dots, back. Conditions: the library's variables hold what they hold; of UrlBytes: the text is no longer than 1048576 bytes.
-/
import Derived.Test.YtlepbooegofoeaaGreatDoorUsF
import Derived.Test.YtlepbooegofoeaaGreatDoorUrM
namespace Go.Proofs.YtlepbooegofoeaaGreatDoor
set_option linter.unusedSimpArgs false
set_option linter.unusedVariables false
open Go.RowKit

theorem beside_no0 {b : Urly.U} {r : List UInt8} {n : Nat} (h : Urly.beside b r = .error n) : n ≠ 0 := by
  unfold Urly.beside at h
  simp only at h
  split at h
  · split at h <;> cases h
  · injection h with h; omega
theorem resolve_no0 {base ref : List UInt8} {n : Nat} (h : Urly.resolve base ref = .error n) : n ≠ 0 := by
  have key : ∀ n, Urly.resolveU base ref = .error n → n ≠ 0 := by
    intro n h
    unfold Urly.resolveU at h
    cases hp : Urly.parse base with
    | error k => rw [hp] at h; injection h with h; subst h; exact parse_no0 hp
    | ok b =>
      rw [hp] at h
      simp only at h
      split at h
      · injection h with h; omega
      · split at h
        · exact parse_no0 h
        · split at h
          · exact parse_no0 h
          · exact beside_no0 h
  unfold Urly.resolve at h
  cases hu : Urly.resolveU base ref with
  | error k => rw [hu] at h; injection h with h; subst h; exact key _ hu
  | ok u =>
    rw [hu] at h
    simp only at h
    split at h
    · injection h with h; omega
    · cases h
theorem origin_no0 {s : List UInt8} {n : Nat} (h : Urly.originOf s = .error n) : n ≠ 0 := by
  unfold Urly.originOf at h
  cases hp : Urly.parse s with
  | error k => rw [hp] at h; injection h with h; subst h; exact parse_no0 hp
  | ok b => rw [hp] at h; cases h
/-- a text and an error, as told. -/
def Told (r : Except Nat (List UInt8)) (s : List UInt8) (m : Int) : Prop := (m = 0 ∧ r = .ok s) ∨ (m ≠ 0 ∧ s = [] ∧ ∃ n : Nat, r = .error n ∧ m = n)
theorem told_of {r : Except Nat (List UInt8)} {w w' : World} {e : Ending} (h0 : ∀ n, r = .error n → n ≠ 0) (h : WriteOut r w e w') : ∃ s m, e = .returned (.tuple #[.string (byt s), .int .i64 m]) ∧ Told r s m ∧ Below w.heap.size w w' := by
  unfold WriteOut at h
  cases hr : r with
  | ok s => rw [hr] at h; exact ⟨s, 0, h.1, .inl ⟨rfl, rfl⟩, h.2⟩
  | error n => rw [hr] at h; exact ⟨[], n, h.1, .inr ⟨by have := h0 n hr; omega, rfl, n, rfl, rfl⟩, h.2⟩
def ResC (base ref : List UInt8) (w : World) : Prop := Calls Tryz.prog 15 #[.string (byt base), .string (byt ref)] w fun e w' => ∃ s m, e = .returned (.tuple #[.string (byt s), .int .i64 m]) ∧ Told (Urly.resolve base ref) s m ∧ Below w.heap.size w w'
theorem resC (base ref : List UInt8) (w : World) (he : Env w) : ResC base ref w := (resolve_any base ref w he).mono fun _ _ h => told_of (fun _ => resolve_no0) h
def OriC (s : List UInt8) (w : World) : Prop := Calls Tryz.prog 19 #[.string (byt s)] w fun e w' => ∃ o m, e = .returned (.tuple #[.string (byt o), .int .i64 m]) ∧ Told (Urly.originOf s) o m ∧ Below w.heap.size w w'
theorem oriC (s : List UInt8) (w : World) (he : Env w) : OriC s w := (uorigin_any s w he).mono fun _ _ h => told_of (fun _ => origin_no0) h
theorem env_keep {w w1 : World} (he : Env w) : Below w.heap.size w w1 → Env w1 := fun h => he.below h
/-! ### UrlBytes -/
set_option maxRecDepth 100000 in
set_option maxHeartbeats 4000000 in
theorem bytes_walk (s : List UInt8) (w : World) (he : Env w) (hs : s.length ≤ 1048576) :
    Calls Tryz.prog 3 #[.string (byt s)] w (TruthOut w) := by
  have HEN : Hid (Calls Tryz.prog 11 #[.string (byt s)] w (fun e w' => e = .returned (.string (byt (Urly.enc s))) ∧ Below w.heap.size w w')) := Lib.hid (encode_any s w hs)
  have hel := Urly.enc_len s
  have HDE : Hid (∀ w, Calls Tryz.prog 12 #[.string (byt (Urly.enc s))] w (fun e w' => e = .returned (.tuple #[.string (byt s), .int .i64 0]) ∧ Below w.heap.size w w')) := Lib.hid (fun w => by
    have := decode_any (Urly.enc s) w (by omega)
    unfold DecOut at this
    rw [Urly.dec_enc] at this
    exact this)
  have HL : Hid (∀ w1, Below w.heap.size w w1 → Calls Tryz.prog 13 #[] w1 (TruthOut w1)) := Lib.hid (fun w1 h1 => urlLives_true w1 (he.below h1))
  have HTR : Hid (∀ w, Calls Tryz.prog 14 #[.string (byt (Urly.enc s)), .string (byt Urly.set400)] w (fun e w' => ∃ T : ByteArray, e = .returned (.string T) ∧ T.toList.isEmpty = true ∧ Below w.heap.size w w')) := Lib.hid (fun w => by
    have := trim_any (Urly.enc s) Urly.set400 (by decide +kernel) (by decide +kernel) w (by omega)
    unfold TrimOut at this
    rw [Urly.enc_in] at this
    exact this)
  obtain ⟨S, hS⟩ : ∃ S, byt s = S := ⟨_, rfl⟩
  obtain ⟨C, hC⟩ : ∃ S, byt (Urly.enc s) = S := ⟨_, rfl⟩
  rw [hS] at HEN HDE ⊢
  rw [hC] at HEN HDE HTR
  clear hS hC hel hs he
  go_enter Tryz.func3, Tryz.ntmps3
  go_wp2_with (fail)
  refine HEN.out.mono ?_
  rintro e w1 ⟨rfl, hw1⟩
  have HW1 := Lib.hid hw1
  clear hw1
  go_wp2_with (fail)
  refine (HDE.out _).mono ?_
  rintro e w2 ⟨rfl, hw2⟩
  have HW2 := Lib.hid (HW1.out.trans (hw2.mono HW1.out.size))
  clear hw2
  go_wp2_with (fail)
  refine (HL.out _ HW2.out).mono ?_
  rintro e w3 ⟨rfl, hw3⟩
  have HW3 := Lib.hid (HW2.out.trans (hw3.mono HW2.out.size))
  clear hw3
  go_wp2_with (fail)
  refine (HTR.out _).mono ?_
  rintro e w4 ⟨T, rfl, hT, hw4⟩
  have HW4 := Lib.hid (HW3.out.trans (hw4.mono HW3.out.size))
  clear hw4
  go_wp2
  go_ret
  exact ⟨by simp, HW4.out⟩
/-! ### UrlAgain -/
set_option maxRecDepth 100000 in
set_option maxHeartbeats 4000000 in
theorem again_walk (base ref other : List UInt8) (w : World) (he : Env w) :
    Calls Tryz.prog 4 #[.string (byt base), .string (byt ref), .string (byt other)] w (TruthOut w) := by
  have HE : Hid (Env w) := Lib.hid he
  have HR1 : Hid (ResC base ref w) := Lib.hid (resC base ref w he)
  have HR : Hid (∀ b r w1, Below w.heap.size w w1 → ResC b r w1) := Lib.hid (fun b r w1 h1 => resC b r w1 (he.below h1))
  have HL : Hid (∀ w1, Below w.heap.size w w1 → Calls Tryz.prog 13 #[] w1 (TruthOut w1)) := Lib.hid (fun w1 h1 => urlLives_true w1 (he.below h1))
  clear he
  go_enter Tryz.func4, Tryz.ntmps4
  go_wp2_with (fail)
  refine HR1.out.mono ?_
  rintro e w1 ⟨s, m, rfl, ht, hw1⟩
  have HW1 := Lib.hid hw1
  have HT := Lib.hid ht
  clear hw1 ht HR1
  go_wp2_with (fail)
  refine (HR.out other s _ HW1.out).mono ?_
  rintro e w2 ⟨t, m2, rfl, ht, hw2⟩
  have HW2 := Lib.hid (HW1.out.trans (hw2.mono HW1.out.size))
  have HT2 := Lib.hid ht
  clear hw2 ht
  go_wp2_with (fail)
  refine (HR.out base s _ HW2.out).mono ?_
  rintro e w3 ⟨u, m3, rfl, ht, hw3⟩
  have HW3 := Lib.hid (HW2.out.trans (hw3.mono HW2.out.size))
  have HT3 := Lib.hid ht
  clear hw3 ht
  go_wp2_with (fail)
  refine (HL.out _ HW3.out).mono ?_
  rintro e w4 ⟨rfl, hw4⟩
  have HW4 := Lib.hid (HW3.out.trans (hw4.mono HW3.out.size))
  clear hw4
  rcases HT.out with ⟨hm, hr⟩ | ⟨hm, _⟩
  · obtain ⟨a1, a2⟩ := Urly.again_law hr
    subst hm
    have h3 : m3 = 0 ∧ u = s := by
      rcases HT3.out with ⟨h, hr3⟩ | ⟨h, _, n, hr3, _⟩
      · rw [a1] at hr3; injection hr3 with hr3; exact ⟨h, hr3.symm⟩
      · rw [a1] at hr3; cases hr3
    obtain ⟨rfl, rfl⟩ := h3
    have hbs : ((byt u).toList == (byt u).toList) = true := by simp
    rcases HT2.out with ⟨hm2, hr2⟩ | ⟨hm2, _⟩
    · have := a2 other t hr2
      subst this; subst hm2
      obtain ⟨S, hS⟩ : ∃ S, byt t = S := ⟨_, rfl⟩
      rw [hS] at hbs ⊢
      clear hS a1 a2 hr hr2
      go_wp2
      go_ret
      exact ⟨by simp, HW4.out⟩
    · have h2 : (m2 != 0) = true := by rw [bne, beq_no hm2]; rfl
      clear hm2 a1 a2 hr
      go_wp2
      go_ret
      exact ⟨by simp, HW4.out⟩
  · have h2 : (m != 0) = true := by rw [bne, beq_no hm]; rfl
    clear hm
    go_wp2
    go_ret
    exact ⟨by simp, HW4.out⟩
end Go.Proofs.YtlepbooegofoeaaGreatDoor
