/-
  The number that a row of digits tells, as the library reckons it. Conditions: digits alone, at least one.
-/
import Derived.Test.YtdolmjeiakdfhaaGreatDoorUrK
import Derived.Lib.Atoi
namespace Go.Proofs.YtdolmjeiakdfhaaGreatDoor
set_option linter.unusedSimpArgs false
set_option linter.unusedVariables false

def dset : List UInt8 := [48, 49, 50, 51, 52, 53, 54, 55, 56, 57]
theorem dset_eq (c : UInt8) : Urly.digit c = dset.contains c := Urly.byte_all (p := fun c => Urly.digit c = dset.contains c) (by decide +kernel) c
theorem digit_val (c : UInt8) : Urly.digit c = true → Lib.digitVal c = some (c.toNat - 48) := Urly.byte_all (p := fun c => Urly.digit c = true → Lib.digitVal c = some (c.toNat - 48)) (by decide +kernel) c
theorem digit_sign (c : UInt8) : Urly.digit c = true → c ≠ 45 ∧ c ≠ 43 := Urly.byte_all (p := fun c => Urly.digit c = true → c ≠ 45 ∧ c ≠ 43) (by decide +kernel) c
theorem decFrom_num : ∀ (l : List UInt8) (n : Nat), l.all Urly.digit = true → Lib.decFrom n l = some (l.foldl (fun n c => n * 10 + (c.toNat - 48)) n)
  | [], n, _ => rfl
  | c :: r, n, h => by
    simp only [List.all_cons, Bool.and_eq_true] at h
    rw [Lib.decFrom, digit_val c h.1]
    exact decFrom_num r _ h.2
theorem atoi_num {p : List UInt8} (h1 : p ≠ []) (h : p.all Urly.digit = true) : Lib.atoi p = some (Urly.number p : Int) := by
  cases p with
  | nil => exact absurd rfl h1
  | cons c r =>
    have hc := List.all_eq_true.1 h c (by simp)
    obtain ⟨h2, h3⟩ := digit_sign c hc
    show (if (c == 45) = true then (Lib.decNat r).map (fun (m : Nat) => -(m : Int)) else if (c == 43) = true then (Lib.decNat r).map (fun (m : Nat) => (m : Int)) else (Lib.decNat (c :: r)).map fun (m : Nat) => (m : Int)) = _
    rw [if_neg (by simpa using h2), if_neg (by simpa using h3), Lib.decNat]
    rw [if_neg (by simp), decFrom_num _ _ h]
    rfl
end Go.Proofs.YtdolmjeiakdfhaaGreatDoor
