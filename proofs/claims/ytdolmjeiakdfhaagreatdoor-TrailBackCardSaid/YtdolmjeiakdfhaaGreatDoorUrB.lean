/-
  Small words of an address: in, plain, the value of a digit of sixteen. Conditions: none.
-/
import Derived.Test.YtdolmjeiakdfhaaGreatDoorGen
import Derived.Test.YtdolmjeiakdfhaaGreatDoorShelf
import Derived.Test.YtdolmjeiakdfhaaGreatDoorUrA
import Derived.Lib.IndexLaws
namespace Go.Proofs.YtdolmjeiakdfhaaGreatDoor
set_option linter.unusedSimpArgs false
set_option linter.unusedVariables false
open Go.RowKit

theorem index_has (l : List UInt8) (c : UInt8) : decide (0 ≤ Lib.indexByte l c) = l.contains c := by
  have hge := Lib.indexByte_ge l c
  rw [Bool.eq_iff_iff, decide_eq_true_iff, List.contains_iff_mem]
  constructor
  · intro h
    obtain ⟨o, ho⟩ : ∃ o : Nat, Lib.indexByte l c = o := ⟨(Lib.indexByte l c).toNat, by omega⟩
    exact List.mem_of_getElem? (Lib.indexByte_some ho).1
  · intro hm
    by_cases h : Lib.indexByte l c = -1
    · obtain ⟨k, hk⟩ := List.getElem?_of_mem hm
      exact absurd hk (Lib.indexByte_none h k)
    · omega
theorem find_byte (f : List UInt8) (c : UInt8) (w : World) :
    Calls Tryz.prog 84 #[.string (byt f), .int .u8 (c.toNat : Int)] w fun e w' => e = .returned (.int .i64 (Lib.indexByte f c)) ∧ w' = w := by
  have h := Tryz.strings_IndexByte (byt f) (c.toNat : Int) w
  have e : ((c.toNat : Int).toNat).toUInt8 = c := by simp
  rw [e] at h
  exact h
/-- a property of each byte, by trying all of them. -/
theorem byte_all {p : UInt8 → Prop} [DecidablePred p] (h : ∀ n, n < 256 → p (UInt8.ofNat n)) (c : UInt8) : p c := by
  have := h c.toNat c.toNat_lt
  rwa [UInt8.ofNat_toNat] at this
theorem in_any (c : UInt8) (f : List UInt8) (w : World) :
    Calls Tryz.prog 61 #[.int .u8 (c.toNat : Int), .string (byt f)] w fun e w' => e = .returned (.bool (f.contains c)) ∧ w' = w := by
  have HF := Lib.hid (find_byte f c w)
  rw [← index_has]
  obtain ⟨I, hI⟩ : ∃ I, Lib.indexByte f c = I := ⟨_, rfl⟩
  rw [hI] at HF ⊢
  clear hI
  go_enter Tryz.func61, Tryz.ntmps61
  go_wp2_with (fail)
  refine (HF.out).mono ?_
  rintro e w1 ⟨rfl, rfl⟩
  go_wp2
  go_ret
  exact ⟨ret_bool rfl, rfl⟩
def plainSet : List UInt8 := [48, 49, 50, 51, 52, 53, 54, 55, 56, 57, 45, 46, 95, 126]
theorem plain_eq (c : UInt8) : Urly.plain c = (Urly.letter c || plainSet.contains c) := byte_all (p := fun c => Urly.plain c = (Urly.letter c || plainSet.contains c)) (by decide +kernel) c
theorem plain_any (c : UInt8) (w : World) :
    Calls Tryz.prog 98 #[.int .u8 (c.toNat : Int)] w fun e w' => e = .returned (.bool (Urly.plain c)) ∧ w' = w := by
  have HL := Lib.hid (letter_any c w)
  have HI := Lib.hid (in_any c plainSet w)
  rw [plain_eq]
  obtain ⟨a, ha⟩ : ∃ a, Urly.letter c = a := ⟨_, rfl⟩
  obtain ⟨b, hb⟩ : ∃ b, plainSet.contains c = b := ⟨_, rfl⟩
  rw [ha] at HL ⊢
  rw [hb] at HI ⊢
  clear ha hb
  go_enter Tryz.func98, Tryz.ntmps98
  go_wp2_with (fail)
  refine (HL.out).mono ?_
  rintro e w1 ⟨rfl, rfl⟩
  cases a with
  | true =>
    go_wp2
    go_ret
    exact ⟨rfl, rfl⟩
  | false =>
    go_wp2_with (fail)
    refine (HI.out).mono ?_
    rintro e w1 ⟨rfl, rfl⟩
    go_wp2
    go_ret
    exact ⟨rfl, rfl⟩
/-- what a digit of sixteen stands for, as the program tells it. -/
def vint (c : UInt8) : Int := match Urly.value c with
  | some n => n
  | none => -1
theorem vint_eq (c : UInt8) : Lib.indexByte Urly.sixteen (Urly.upper c) = vint c := byte_all (p := fun c => Lib.indexByte Urly.sixteen (Urly.upper c) = vint c) (by decide +kernel) c
theorem value_any (c : UInt8) (w : World) :
    Calls Tryz.prog 121 #[.int .u8 (c.toNat : Int)] w fun e w' => e = .returned (.int .i64 (vint c)) ∧ w' = w := by
  have HF := Lib.hid (find_byte Urly.sixteen (Urly.upper c) w)
  rw [vint_eq] at HF
  by_cases h1 : 97 ≤ c.toNat
  · by_cases h2 : c.toNat ≤ 102
    · have hu : ((Urly.upper c).toNat : Int) = (c.toNat : Int) - 32 := by
        have : ∀ c : UInt8, 97 ≤ c.toNat → c.toNat ≤ 102 → (Urly.upper c).toNat = c.toNat - 32 := fun c => byte_all (p := fun c => 97 ≤ c.toNat → c.toNat ≤ 102 → (Urly.upper c).toNat = c.toNat - 32) (by decide +kernel) c
        have := this c h1 h2
        omega
      rw [hu] at HF
      obtain ⟨n, hn⟩ : ∃ n : Int, (c.toNat : Int) = n := ⟨_, rfl⟩
      have g1 : decide (n ≥ 97) = true := decide_eq_true (by omega)
      have g2 : decide (n ≤ 102) = true := decide_eq_true (by omega)
      have g3 : (97 : Int) ≤ n := by omega
      have g4 : n ≤ 102 := by omega
      have gw : IntKind.u8.wrap (n - 32) = n - 32 := by rw [IntKind.wrap_u8]; omega
      rw [hn] at HF ⊢
      clear hn hu
      go_enter Tryz.func121, Tryz.ntmps121
      go_wp2_with (fail)
      refine (HF.out).mono ?_
      rintro e w1 ⟨rfl, rfl⟩
      go_wp2
      go_ret
      exact ⟨rfl, rfl⟩
    · have hu : Urly.upper c = c := by unfold Urly.upper; rw [if_neg]; rw [UInt8.le_iff_toNat_le, UInt8.le_iff_toNat_le]; simp; omega
      rw [hu] at HF
      obtain ⟨n, hn⟩ : ∃ n : Int, (c.toNat : Int) = n := ⟨_, rfl⟩
      have g1 : decide (n ≥ 97) = true := decide_eq_true (by omega)
      have g2 : decide (n ≤ 102) = false := decide_eq_false (by omega)
      have g3 : (97 : Int) ≤ n := by omega
      have g4 : ¬ n ≤ 102 := by omega
      rw [hn] at HF ⊢
      clear hn hu
      go_enter Tryz.func121, Tryz.ntmps121
      go_wp2_with (fail)
      refine (HF.out).mono ?_
      rintro e w1 ⟨rfl, rfl⟩
      go_wp2
      go_ret
      exact ⟨rfl, rfl⟩
  · have hu : Urly.upper c = c := by unfold Urly.upper; rw [if_neg]; rw [UInt8.le_iff_toNat_le, UInt8.le_iff_toNat_le]; simp; omega
    rw [hu] at HF
    obtain ⟨n, hn⟩ : ∃ n : Int, (c.toNat : Int) = n := ⟨_, rfl⟩
    have g1 : decide (n ≥ 97) = false := decide_eq_false (by omega)
    have g3 : ¬ (97 : Int) ≤ n := by omega
    rw [hn] at HF ⊢
    clear hn hu
    go_enter Tryz.func121, Tryz.ntmps121
    go_wp2_with (fail)
    refine (HF.out).mono ?_
    rintro e w1 ⟨rfl, rfl⟩
    go_wp2
    go_ret
    exact ⟨rfl, rfl⟩
end Go.Proofs.YtdolmjeiakdfhaaGreatDoor
