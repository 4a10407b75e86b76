/-
  The port of a scheme; a host in small letters, ASCII or not; host and port of an address. Conditions: the library's variables hold what they hold; the text is no longer than 1048576 bytes.
-/
import Derived.Test.YtdolmjeiakdfhaaGreatDoorUrR
import Derived.Lib.TrimUEq
import Derived.Lib.MapLaws
namespace Go.Proofs.YtdolmjeiakdfhaaGreatDoor
set_option linter.unusedSimpArgs false
set_option linter.unusedVariables false
open Go.RowKit

theorem own_ret {s : List UInt8} {n : Nat} {e : Ending} (h : Urly.own s = n) (he : e = .returned (.int .i64 (n : Int))) : e = .returned (.int .i64 (Urly.own s : Int)) := by rw [h]; exact he
theorem own_any (s : List UInt8) (w : World) : Calls Tryz.prog 70 #[.string (byt s)] w fun e w' => e = .returned (.int .i64 (Urly.own s : Int)) ∧ w = w' := by
  have hl : (byt s).toList = s := byt_list s
  have h1 : s = [104, 116, 116, 112] → Urly.own s = 80 := by rintro rfl; rfl
  have h2 : s ≠ [104, 116, 116, 112] → s = [104, 116, 116, 112, 115] → Urly.own s = 443 := by rintro _ rfl; rfl
  have h3 : s ≠ [104, 116, 116, 112] → s ≠ [104, 116, 116, 112, 115] → Urly.own s = 0 := by intro a b; unfold Urly.own; rw [if_neg a, if_neg b]
  by_cases c1 : s = [104, 116, 116, 112]
  · have H := Lib.hid (h1 c1)
    obtain ⟨S, hS⟩ : ∃ S, byt s = S := ⟨_, rfl⟩
    rw [hS] at hl ⊢
    have q : (S.toList == [104, 116, 116, 112]) = true := by rw [hl, c1]; rfl
    clear h1 h2 h3 c1 hS hl
    go_enter Tryz.func70, Tryz.ntmps70
    go_wp2
    go_ret
    exact ⟨own_ret H.out rfl, rfl⟩
  · by_cases c2 : s = [104, 116, 116, 112, 115]
    · have H := Lib.hid (h2 c1 c2)
      obtain ⟨S, hS⟩ : ∃ S, byt s = S := ⟨_, rfl⟩
      rw [hS] at hl ⊢
      have q : (S.toList == [104, 116, 116, 112]) = false := by rw [hl, beq_eq_false_iff_ne]; exact c1
      have q2 : (S.toList == [104, 116, 116, 112, 115]) = true := by rw [hl, c2]; rfl
      clear h1 h2 h3 c1 c2 hS hl
      go_enter Tryz.func70, Tryz.ntmps70
      go_wp2
      go_ret
      exact ⟨own_ret H.out rfl, rfl⟩
    · have H := Lib.hid (h3 c1 c2)
      obtain ⟨S, hS⟩ : ∃ S, byt s = S := ⟨_, rfl⟩
      rw [hS] at hl ⊢
      have q : (S.toList == [104, 116, 116, 112]) = false := by rw [hl, beq_eq_false_iff_ne]; exact c1
      have q2 : (S.toList == [104, 116, 116, 112, 115]) = false := by rw [hl, beq_eq_false_iff_ne]; exact c2
      clear h1 h2 h3 c1 c2 hS hl
      go_enter Tryz.func70, Tryz.ntmps70
      go_wp2
      go_ret
      exact ⟨own_ret H.out rfl, rfl⟩
/-! ### a host in small letters -/
theorem dec_high (b : UInt8) (t : List UInt8) (h : 128 ≤ b.toNat) : 128 ≤ (Lib.decodeL (b :: t)).1 := by
  rw [Lib.decodeL_N]
  have h0 : ((b :: t).getD 0 0).toNat = b.toNat := rfl
  rcases Lib.decodeN_shape (b :: t).length ((b :: t).getD 0 0).toNat ((b :: t).getD 1 0).toNat ((b :: t).getD 2 0).toNat ((b :: t).getD 3 0).toNat with ⟨c, e⟩ | ⟨c1, c2, c3, cv, e⟩ | ⟨c1, c2, c3, c4, cv, cs, e⟩ | ⟨c1, c2, c3, c4, c5, cv, cw, e⟩ | e
  · omega
  all_goals (rw [e]; dsimp only; omega)
theorem enc_high (r : Int) (h : 128 ≤ r) : ∃ x ∈ Lib.encodeRune r, 128 ≤ x.toNat := by
  unfold Lib.encodeRune
  have key : ∃ z ∈ Lib.encodeRuneZ r, 128 ≤ z ∧ z < 256 := by
    have hb := Lib.encodeRuneZ_byte r
    unfold Lib.encodeRuneZ at hb ⊢
    rw [if_neg (by omega)] at hb ⊢
    split
    · rename_i h2; rw [if_pos h2] at hb; exact ⟨192 + r / 64, by simp, by omega, (hb _ (by simp)).2⟩
    · rename_i h2; rw [if_neg h2] at hb
      split
      · rename_i h3; rw [if_pos h3] at hb; exact ⟨224 + r / 4096, by simp, by omega, (hb _ (by simp)).2⟩
      · rename_i h3; rw [if_neg h3] at hb
        split
        · rename_i h4; rw [if_pos h4] at hb; exact ⟨240 + r / 262144, by simp, by omega, (hb _ (by simp)).2⟩
        · exact ⟨239, by simp, by omega, by omega⟩
  obtain ⟨z, hz, h1, h2⟩ := key
  refine ⟨z.toNat.toUInt8, List.mem_map.2 ⟨z, hz, rfl⟩, ?_⟩
  simp only [Nat.toUInt8, UInt8.toNat_ofNat']
  omega
theorem low_high {r : Int} (h : 128 ≤ r) : lowR r = r := by unfold lowR; rw [if_neg (by omega)]
/-- a byte of 128 or more stays one. -/
theorem mapD_high : ∀ (n : Nat) (s : List UInt8), s.length ≤ n → (∃ b ∈ s, 128 ≤ b.toNat) → ∃ x ∈ Lib.mapD lowR s, 128 ≤ x.toNat
  | 0, s, hn, ⟨b, hb, _⟩ => by
    have : s = [] := List.eq_nil_of_length_eq_zero (by omega)
    subst this; simp at hb
  | n + 1, [], hn, ⟨b, hb, _⟩ => by simp at hb
  | n + 1, c :: t, hn, ⟨b, hb, hb2⟩ => by
    rw [Lib.mapD_step lowR (c :: t) (by simp)]
    by_cases hc : c.toNat < 128
    · rw [Lib.decodeL_ascii c t hc]
      have hbt : b ∈ t := by
        rcases List.mem_cons.1 hb with rfl | hb
        · omega
        · exact hb
      obtain ⟨x, hx, hx2⟩ := mapD_high n t (by simpa using hn) ⟨b, hbt, hb2⟩
      exact ⟨x, List.mem_append_right _ (by simpa using hx), hx2⟩
    · have hd := dec_high c t (by omega)
      have hl : lowR ((Lib.decodeL (c :: t)).1 : Int) = ((Lib.decodeL (c :: t)).1 : Int) := low_high (by omega)
      rw [hl, if_pos (by omega)]
      obtain ⟨x, hx, hx2⟩ := enc_high ((Lib.decodeL (c :: t)).1 : Int) (by omega)
      exact ⟨x, List.mem_append_left _ hx, hx2⟩
theorem host_low {s : List UInt8} (h : Urly.host s = true) : (s.all fun b => decide (b.toNat < 128)) = true :=
  List.all_eq_true.2 fun x hx => by simpa using (Urly.hc_byte x (Urly.host_chars h x hx)).2.2
theorem lower_high (c : UInt8) : c.toNat < 128 ∨ 128 ≤ (Urly.lower c).toNat := byte_all (p := fun c => c.toNat < 128 ∨ 128 ≤ (Urly.lower c).toNat) (by decide +kernel) c
/-- of a host the small letters are those of its bytes. -/
theorem host_mapD (s : List UInt8) : Urly.host (Lib.mapD lowR s) = Urly.host (Urly.small s) ∧ (Urly.host (Urly.small s) = true → Lib.mapD lowR s = Urly.small s) := by
  by_cases ha : (s.all fun b => decide (b.toNat < 128)) = true
  · rw [small_ascii s ha]; exact ⟨rfl, fun _ => rfl⟩
  · have hex : ∃ b ∈ s, 128 ≤ b.toNat := by
      rw [List.all_eq_true] at ha
      simp only [decide_eq_true_eq, Classical.not_forall] at ha
      obtain ⟨b, hb, h⟩ := ha
      exact ⟨b, hb, by omega⟩
    have h1 : Urly.host (Lib.mapD lowR s) = false := by
      rw [← Bool.not_eq_true]
      intro h
      obtain ⟨x, hx, hx2⟩ := mapD_high s.length s (Nat.le_refl _) hex
      have := List.all_eq_true.1 (host_low h) x hx
      simp at this; omega
    have h2 : Urly.host (Urly.small s) = false := by
      rw [← Bool.not_eq_true]
      intro h
      obtain ⟨b, hb, hb2⟩ := hex
      have := List.all_eq_true.1 (host_low h) (Urly.lower b) (List.mem_map.2 ⟨b, hb, rfl⟩)
      rcases lower_high b with h3 | h3 <;> simp at this <;> omega
    rw [h1, h2]; exact ⟨rfl, fun h => by cases h⟩
theorem mapD_len (s : List UInt8) : ∀ n, s.length ≤ n → (Lib.mapD lowR s).length ≤ 4 * s.length
  | n, hn => by
    induction n generalizing s with
    | zero =>
      have : s = [] := List.eq_nil_of_length_eq_zero (by omega)
      subst this; simp [Lib.mapD_nil]
    | succ n ih =>
      cases s with
      | nil => simp [Lib.mapD_nil]
      | cons c t =>
        rw [Lib.mapD_step lowR (c :: t) (by simp), List.length_append]
        have hw := Lib.decodeL_width (c :: t)
        have hle := Lib.decodeL_le (c :: t) (by simp)
        have h1 := ih ((c :: t).drop (Lib.decodeL (c :: t)).2) (by simp at hn ⊢; omega)
        have h2 : (if 0 ≤ lowR ((Lib.decodeL (c :: t)).1 : Int) then Lib.encodeRune (lowR ((Lib.decodeL (c :: t)).1 : Int)) else []).length ≤ 4 := by
          split
          · unfold Lib.encodeRune; rw [List.length_map]; exact (Lib.encodeRuneZ_length _).2
          · simp
        rw [List.length_drop] at h1
        omega
end Go.Proofs.YtdolmjeiakdfhaaGreatDoor
