/-
  strings.Cut at one byte: a text of whatever length. Conditions: the text is no longer than an int tells.
-/
import Derived.Test.YtdolmjeiakdfhaaGreatDoorTxt
import Derived.Test.YtdolmjeiakdfhaaGreatDoorShelf
import Derived.Lib.IndexLaws
import Derived.BigQuiet
namespace Go.Proofs.YtdolmjeiakdfhaaGreatDoor
set_option linter.unusedSimpArgs false
set_option linter.unusedVariables false
open Go.RowKit

theorem ib_no {s : List UInt8} {c : UInt8} (h : c ∉ s) : Lib.indexByte s c = -1 := by
  have hge := Lib.indexByte_ge s c
  by_cases e : Lib.indexByte s c = -1
  · exact e
  · obtain ⟨o, ho⟩ : ∃ o : Nat, Lib.indexByte s c = o := ⟨(Lib.indexByte s c).toNat, by omega⟩
    exact absurd (List.mem_of_getElem? (Lib.indexByte_some ho).1) h
theorem ib_yes {a b : List UInt8} {c : UInt8} (h : c ∉ a) : Lib.indexByte (a ++ c :: b) c = a.length := by
  have hge := Lib.indexByte_ge (a ++ c :: b) c
  by_cases e : Lib.indexByte (a ++ c :: b) c = -1
  · exact absurd (by simp) (Lib.indexByte_none e a.length)
  · obtain ⟨o, ho⟩ : ∃ o : Nat, Lib.indexByte (a ++ c :: b) c = o := ⟨(Lib.indexByte (a ++ c :: b) c).toNat, by omega⟩
    obtain ⟨h1, h2⟩ := Lib.indexByte_some ho
    rw [ho]
    rcases Nat.lt_trichotomy o a.length with hl | hl | hl
    · rw [List.getElem?_append_left hl] at h1
      exact absurd (List.mem_of_getElem? h1) h
    · omega
    · exact absurd (by simp) (h2 a.length hl)
/-- up to a byte, and behind it; and whether it is there. -/
def cutAt (c : UInt8) (s : List UInt8) : List UInt8 × List UInt8 × Bool := if s.contains c then (s.takeWhile (· != c), (s.dropWhile (· != c)).drop 1, true) else (s, [], false)
theorem cutAt_no {c : UInt8} {s : List UInt8} (h : c ∉ s) : cutAt c s = (s, [], false) := by
  unfold cutAt
  rw [if_neg (by simpa using h)]
theorem cutAt_yes {c : UInt8} : ∀ {a : List UInt8} (b : List UInt8), c ∉ a → cutAt c (a ++ c :: b) = (a, b, true) := by
  intro a b h
  have hw : ∀ a : List UInt8, c ∉ a → (a ++ c :: b).takeWhile (· != c) = a ∧ (a ++ c :: b).dropWhile (· != c) = c :: b := by
    intro a
    induction a with
    | nil => intro _; simp
    | cons x a ih =>
      intro hx
      simp only [List.mem_cons, not_or] at hx
      have h1 : (x != c) = true := by simp; exact fun e => hx.1 e.symm
      have := ih hx.2
      simp [h1, this.1, this.2]
  unfold cutAt
  have := hw a h
  rw [if_pos (by simp), this.1, this.2]
  rfl
def CutOut (c : UInt8) (s : List UInt8) (w : World) (e : Ending) (w' : World) : Prop :=
  e = .returned (.tuple #[.string (byt (cutAt c s).1), .string (byt (cutAt c s).2.1), .bool (cutAt c s).2.2]) ∧ Below w.heap.size w w'
theorem cutOut_mk {c : UInt8} {s a b : List UInt8} {t : Bool} {w w' : World} {e : Ending} (h : cutAt c s = (a, b, t)) (he : e = .returned (.tuple #[.string (byt a), .string (byt b), .bool t])) (hb : Below w.heap.size w w') : CutOut c s w e w' := by
  unfold CutOut; rw [h]; exact ⟨he, hb⟩
set_option maxRecDepth 100000 in
set_option maxHeartbeats 1000000 in
theorem lite_cut (s : List UInt8) (c : UInt8) (w : World) (hs : s.length ≤ 9223372036854775807) :
    Calls Tryz.prog 80 #[.string (byt s), .string ⟨#[c]⟩] w (CutOut c s w) := by
  have HI := Lib.hid (fun w => Tryz.stringslite_Index_one (byt s) c w)
  have hd : (byt s).data.toList = s := rfl
  simp only [hd] at HI
  by_cases hc : c ∈ s
  · obtain ⟨a, b, rfl, ha⟩ := List.eq_append_cons_of_mem hc
    rw [ib_yes ha] at HI
    have HC := Lib.hid (cutAt_yes (c := c) b ha)
    have hl : (a ++ c :: b).length = a.length + 1 + b.length := by simp; omega
    have h1 := fun w => run_upto (a ++ c :: b) (a.length : Int) (by omega) (by omega) w
    have h2 := fun w => run_from (a ++ c :: b) ((a.length : Int) + 1) (by omega) (by omega) w
    have e1 : (a ++ c :: b).take ((a.length : Int)).toNat = a := by simp
    have e2 : (a ++ c :: b).drop ((a.length : Int) + 1).toNat = b := by
      rw [show ((a.length : Int) + 1).toNat = a.length + 1 by omega, List.drop_append]
      simp
    rw [e1] at h1
    rw [e2] at h2
    have x1 : (byt (a ++ c :: b)).extract 0 (a.length) = byt a := by rw [ext_upto]; congr 1
    have x2 : (byt (a ++ c :: b)).extract (a.length + 1) (byt (a ++ c :: b)).size = byt b := by rw [ext_from _ _ _ (by rw [byt_size]; exact Nat.le_refl _)]; congr 1
    obtain ⟨S, hS⟩ : ∃ S, byt (a ++ c :: b) = S := ⟨_, rfl⟩
    have hz : S.size = a.length + 1 + b.length := by rw [← hS, byt_size, hl]
    obtain ⟨I, hI⟩ : ∃ I : Int, (a.length : Int) = I := ⟨_, rfl⟩
    have hIn : a.length = I.toNat := by omega
    have hI1 : a.length + 1 = (I + 1).toNat := by omega
    have g0 : (0 : Int) ≤ I := by omega
    have g1 : I ≤ (S.size : Int) := by omega
    have g2 : I + 1 ≤ (S.size : Int) := by omega
    have g3 : decide (I ≥ 0) = true := decide_eq_true (by omega)
    have g5 : (0 : Int) ≤ I + 1 := by omega
    have g4 : IntKind.i64.wrap (I + 1) = I + 1 := by rw [IntKind.wrap_i64]; omega
    have hsc : ((⟨#[c]⟩ : ByteArray).size : Int) = 1 := rfl
    rw [hS] at HI h1 h2 x1 x2
    rw [hI] at HI h1 h2
    rw [hIn] at x1
    rw [hI1] at x2
    rw [hS]
    clear hS hz hI hIn hI1 hl e1 e2 hs hd hc ha
    go_enter Tryz.func80, Tryz.ntmps80
    go_wp2_with (fail)
    refine (HI.out _).mono ?_
    rintro e w1 ⟨rfl, hw⟩
    subst hw
    go_wp2
    go_quiet (fail)
    go_wp2
    go_returns
    exact cutOut_mk HC.out rfl (below_drewN (Below.refl _ _) _)
  · rw [ib_no hc] at HI
    have HC := Lib.hid (cutAt_no hc)
    obtain ⟨S, hS⟩ : ∃ S, byt s = S := ⟨_, rfl⟩
    rw [hS] at HI ⊢
    have HS := Lib.hid hS
    clear hS hc hs hd
    go_enter Tryz.func80, Tryz.ntmps80
    go_wp2_with (fail)
    refine (HI.out _).mono ?_
    rintro e w1 ⟨rfl, hw⟩
    subst hw
    go_wp2
    go_returns
    exact cutOut_mk HC.out (by rw [HS.out]; rfl) (Below.refl _ _)
theorem cut_any (s : List UInt8) (c : UInt8) (w : World) (hs : s.length ≤ 9223372036854775807) :
    Calls Tryz.prog 54 #[.string (byt s), .string ⟨#[c]⟩] w (CutOut c s w) := by
  have HI : Hid (Calls Tryz.prog 80 #[.string (byt s), .string ⟨#[c]⟩] w (CutOut c s w)) := Lib.hid (lite_cut s c w hs)
  obtain ⟨S, hS⟩ : ∃ S, byt s = S := ⟨_, rfl⟩
  rw [hS] at HI ⊢
  clear hS hs
  go_enter Tryz.func54, Tryz.ntmps54
  go_wp2_with (fail)
  refine HI.out.mono ?_
  rintro e w1 ⟨rfl, hw⟩
  have HW := Lib.hid hw
  clear hw
  go_wp2
  go_returns
  exact ⟨rfl, HW.out⟩
end Go.Proofs.YtdolmjeiakdfhaaGreatDoor
