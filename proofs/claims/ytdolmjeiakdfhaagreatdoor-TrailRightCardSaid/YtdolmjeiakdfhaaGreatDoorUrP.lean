/-
  The clean form of a query: what clean tells of a text. Conditions: the text is no longer than 1048576 bytes.
-/
import Derived.Test.YtdolmjeiakdfhaaGreatDoorUrO
namespace Go.Proofs.YtdolmjeiakdfhaaGreatDoor
set_option linter.unusedSimpArgs false
set_option linter.unusedVariables false
open Go.RowKit

/-- what is left and what was written. -/
def CleanAt (s r acc : List UInt8) : Prop := Urly.clean s = (Urly.clean r).map (acc ++ ·) ∧ acc.length + 3 * r.length ≤ 3 * s.length
theorem CleanAt.start (s : List UInt8) : CleanAt s s [] := ⟨by cases Urly.clean s <;> simp, by simp⟩
theorem cl_len (c : UInt8) (t : Bool) : (Urly.cl c t).length ≤ 3 := by unfold Urly.cl Urly.triple; split <;> simp
theorem CleanAt.more {s r acc : List UInt8} {c : UInt8} {t : Bool} {k : Nat} (h : CleanAt s r acc) (hr : r ≠ []) (e : Urly.read r = some (c, t, r.drop k)) (hk : 1 ≤ k) (hl : k ≤ r.length) : CleanAt s (r.drop k) (acc ++ Urly.cl c t) := by
  refine ⟨?_, by have := h.2; have := cl_len c t; simp; omega⟩
  rw [h.1, Urly.clean_step hr, e]
  simp only
  cases Urly.clean (r.drop k) <;> simp
theorem CleanAt.bad {s r acc : List UInt8} (h : CleanAt s r acc) (hr : r ≠ []) (e : Urly.read r = none) : Urly.clean s = none := by
  rw [h.1, Urly.clean_step hr, e]; rfl
theorem CleanAt.done {s acc : List UInt8} (h : CleanAt s [] acc) : Urly.clean s = some acc := by rw [h.1, Urly.clean_nil]; simp
def CleanOut (s : List UInt8) (w : World) (e : Ending) (w' : World) : Prop :=
  e = .returned (.tuple #[.string (byt ((Urly.clean s).getD [])), .bool (Urly.clean s).isSome]) ∧ Below w.heap.size w w'
theorem cleanOut_bad {s : List UInt8} {w w' : World} {e : Ending} (h : Urly.clean s = none) (he : e = .returned (.tuple #[.string (byt []), .bool false])) (hb : Below w.heap.size w w') : CleanOut s w e w' := by
  unfold CleanOut; rw [h]; exact ⟨he, hb⟩
theorem cleanOut_ok {s acc : List UInt8} {w w' : World} {e : Ending} (h : Urly.clean s = some acc) (he : e = .returned (.tuple #[.string (byt acc), .bool true])) (hb : Below w.heap.size w w') : CleanOut s w e w' := by
  unfold CleanOut; rw [h]; exact ⟨he, hb⟩

set_option maxRecDepth 100000 in
set_option maxHeartbeats 4000000 in
theorem clean_any (s : List UInt8) (w : World) (hs : s.length ≤ 1048576) :
    Calls Tryz.prog 71 #[.string (byt s)] w (CleanOut s w) := by
  have HR := Lib.hid readC
  have HP : Hid PlainC := Lib.hid plainC
  have HT : Hid TripleC := Lib.hid tripleC
  have HI : Hid InC := Lib.hid inC
  have HB : Hid WB := Lib.hid wb
  have HW : Hid WS := Lib.hid ws
  have HE : Hid BS := Lib.hid bs
  have HS := Lib.hid hs
  clear hs
  go_enter Tryz.func71, Tryz.ntmps71
  go_wp2
  go_loopg [0] s.length (fun g a wr => ∃ (r acc : List UInt8), a = .string (byt r) ∧ g = r.length ∧ CleanAt s r acc ∧ Bld w.heap.size w.heap.size acc wr ∧ Below w.heap.size w wr)
  case atStart => exact ⟨s, [], rfl, rfl, .start s, bld_new w, (Below.refl _ w).alloc (Nat.le_refl _) _⟩
  case round =>
    obtain ⟨r, acc, rfl, hg, hat, hbl, hw⟩ := hrel
    have HG := Lib.hid hg
    have HAT := Lib.hid hat
    have HWW := Lib.hid hw
    have HBL := Lib.hid hbl
    have hz := hw.size
    clear hg hat hw hbl
    by_cases hr : r = []
    · subst hr
      have e0 : (byt []).toList.isEmpty = true := by rw [byt_empty]; rfl
      go_wp2_with (fail)
      refine (HE.out w.heap.size w.heap.size _ _ HBL.out hz).mono ?_
      rintro e w2 ⟨rfl, hw2⟩
      have HW2 := Lib.hid (HWW.out.trans hw2)
      clear hw2
      go_wp2
      go_returns
      exact cleanOut_ok HAT.out.done rfl HW2.out
    · have e0 : (byt r).toList.isEmpty = false := by rw [byt_empty]; simpa using hr
      have HC := Lib.hid (HR.out r hr wr)
      rcases read_cases r hr with ⟨hn, ho⟩ | ⟨c, t, hn, ho, hl⟩
      · rw [ho] at HC
        have HN : Hid (Urly.clean s = none) := Lib.hid (HAT.out.bad hr hn)
        obtain ⟨S, hS⟩ : ∃ S, byt r = S := ⟨_, rfl⟩
        rw [hS] at HC e0 ⊢
        clear hS hn ho HAT
        go_wp2_with (fail)
        refine HC.out.mono ?_
        rintro e w1 ⟨rfl, hb⟩
        go_wp2
        go_returns
        exact cleanOut_bad HN.out rfl (HWW.out.trans (hb.mono hz))
      · have HM : Hid (CleanAt s (r.drop (if t then 3 else 1)) (acc ++ Urly.cl c t)) := Lib.hid (HAT.out.more hr hn (by cases t <;> simp) hl)
        have HB2 : Hid (acc.length ≤ 5000000) := Lib.hid (by have := HAT.out.2; have := HS.out; omega)
        rw [ho] at HC
        obtain ⟨S, hS⟩ : ∃ S, byt r = S := ⟨_, rfl⟩
        obtain ⟨n, hn2⟩ : ∃ n : Nat, (if t = true then 3 else 1) = n := ⟨_, rfl⟩
        have hn1 : (n = 1 ∧ t = false) ∨ (n = 3 ∧ t = true) := by subst hn2; cases t <;> simp
        rw [hn2] at HC HM hl
        have HSL : Hid (∀ w, (Instr.slice 9 (.string S) (some (.int .i64 (n : Int))) none none).run Tryz.prog w = .ok (.string (byt (r.drop n))) w) := by
          refine Lib.hid (fun w => ?_)
          rw [← hS]
          exact run_from r n (by omega) (by omega) w
        have HL : Hid ((r.drop n).length < r.length) := Lib.hid (by simp; omega)
        have HSZ : Hid (S.size = r.length) := Lib.hid (by rw [← hS, byt_size])
        have HEX : Hid (S.extract n S.size = byt (r.drop n)) := by
          refine Lib.hid ?_
          rw [← hS]
          exact ext_from r n _ (by rw [byt_size]; exact Nat.le_refl _)
        have hN3 : (n : Int) ≤ (S.size : Int) := by rw [HSZ.out]; omega
        rw [hS] at HC e0 ⊢
        clear hS hn ho HAT hn2 hl
        obtain ⟨R, hR⟩ : ∃ R, r.drop n = R := ⟨_, rfl⟩
        rw [hR] at HM HSL HL HEX
        clear hR
        obtain ⟨N, hN⟩ : ∃ N : Int, (n : Int) = N := ⟨_, rfl⟩
        have hNt : n = N.toNat := by omega
        rw [hNt] at HEX
        rw [hN] at HSL hN3
        simp only [hN] at HC
        have hN0 : (N == 0) = false := by rw [beq_eq_false_iff_ne]; omega
        have hN1 : 0 ≤ N := by omega
        have hn1' : (N == 1) = !t := by rcases hn1 with ⟨h1, h2⟩ | ⟨h1, h2⟩ <;> subst h2 <;> rw [← hN, h1] <;> rfl
        clear hN hNt hn1
        have HPC := Lib.hid (fun w => HP.out c w)
        have HTC := Lib.hid (fun w => HT.out c w)
        have HIC := Lib.hid (fun w => HI.out c Urly.extra w)
        have HBC := Lib.hid (fun w1 h1 h2 h3 => HB.out w.heap.size w.heap.size acc c w1 h1 h2 h3)
        have HWC := Lib.hid (fun w1 h1 h2 h3 h4 => HW.out w.heap.size w.heap.size acc (Urly.triple c) w1 h1 h2 h3 h4)
        have HCL : Hid (Urly.cl c t = if Urly.plain c || (!t && Urly.extra.contains c) then [c] else Urly.triple c) := Lib.hid rfl
        obtain ⟨m, hm⟩ : ∃ m : Int, (c.toNat : Int) = m := ⟨_, rfl⟩
        simp only [hm] at HC HPC HTC HIC HBC
        clear hm
        cases hp : Urly.plain c with
        | true =>
          rw [hp] at HPC HCL
          clear hp
          have hcl : Urly.cl c t = [c] := by rw [HCL.out]; simp
          replace HCL := Lib.hid hcl
          clear hcl
          go_wp2_with (fail)
          refine HC.out.mono ?_
          rintro e w1 ⟨rfl, hb⟩
          have hsl := HSL.out
          have hex := HEX.out
          have HW1 : Hid (Below w.heap.size w w1) := Lib.hid (HWW.out.trans (hb.mono hz))
          have HB1 := Lib.hid (bld_below HBL.out hb)
          have hz1 : w.heap.size ≤ w1.heap.size := HW1.out.size
          clear hb
          go_wp2_with (fail)
          refine (HPC.out _).mono ?_
          rintro e w2 ⟨rfl, hw2⟩
          subst hw2
          go_wp2_with (fail)
          refine (HBC.out _ HB1.out HB2.out hz1).mono ?_
          rintro e w3 ⟨rfl, hb3, hw3⟩
          have HB3 := Lib.hid hb3
          have HW3 := Lib.hid (HW1.out.trans hw3)
          clear hb3 hw3
          go_wp2
          go_roundg R.length
          case measure => rw [HG.out]; exact HL.out
          case rel => exact ⟨R, acc ++ Urly.cl c t, rfl, rfl, HM.out, by rw [HCL.out]; exact HB3.out, HW3.out⟩
        | false =>
          rw [hp] at HPC HCL
          clear hp
          cases t with
          | true =>
            have hcl : Urly.cl c true = Urly.triple c := by rw [HCL.out]; simp
            replace HCL := Lib.hid hcl
            clear hcl
            simp only [Bool.not_true] at hn1'
            go_wp2_with (fail)
            refine HC.out.mono ?_
            rintro e w1 ⟨rfl, hb⟩
            have hsl := HSL.out
            have hex := HEX.out
            have HW1 : Hid (Below w.heap.size w w1) := Lib.hid (HWW.out.trans (hb.mono hz))
            have HB1 := Lib.hid (bld_below HBL.out hb)
            have hz1 : w.heap.size ≤ w1.heap.size := HW1.out.size
            clear hb
            go_wp2_with (fail)
            refine (HPC.out _).mono ?_
            rintro e w2 ⟨rfl, hw2⟩
            subst hw2
            go_wp2_with (fail)
            refine (HTC.out _).mono ?_
            rintro e w4 ⟨rfl, hw4⟩
            have HW4 := Lib.hid hw4
            have hz4 := hw4.size
            clear hw4
            go_wp2_with (fail)
            refine (HWC.out _ (bld_below HB1.out HW4.out) HB2.out (by simp [Urly.triple]) (by omega)).mono ?_
            rintro e w3 ⟨⟨v, rfl⟩, hb3, hw3⟩
            have HB3 := Lib.hid hb3
            have HW3 := Lib.hid ((HW1.out.trans (HW4.out.mono hz1)).trans hw3)
            clear hb3 hw3
            go_wp2
            go_roundg R.length
            case measure => rw [HG.out]; exact HL.out
            case rel => exact ⟨R, acc ++ Urly.cl c true, rfl, rfl, HM.out, by rw [HCL.out]; exact HB3.out, HW3.out⟩
          | false =>
            simp only [Bool.not_false] at hn1'
            cases hx : Urly.extra.contains c with
            | true =>
              rw [hx] at HIC HCL
              clear hx
              have hcl : Urly.cl c false = [c] := by rw [HCL.out]; simp
              replace HCL := Lib.hid hcl
              clear hcl
              go_wp2_with (fail)
              refine HC.out.mono ?_
              rintro e w1 ⟨rfl, hb⟩
              have hsl := HSL.out
              have hex := HEX.out
              have HW1 : Hid (Below w.heap.size w w1) := Lib.hid (HWW.out.trans (hb.mono hz))
              have HB1 := Lib.hid (bld_below HBL.out hb)
              have hz1 : w.heap.size ≤ w1.heap.size := HW1.out.size
              clear hb
              go_wp2_with (fail)
              refine (HPC.out _).mono ?_
              rintro e w2 ⟨rfl, hw2⟩
              subst hw2
              go_wp2_with (fail)
              refine (HIC.out _).mono ?_
              rintro e w2 ⟨rfl, hw2⟩
              subst hw2
              go_wp2_with (fail)
              refine (HBC.out _ HB1.out HB2.out hz1).mono ?_
              rintro e w3 ⟨rfl, hb3, hw3⟩
              have HB3 := Lib.hid hb3
              have HW3 := Lib.hid (HW1.out.trans hw3)
              clear hb3 hw3
              go_wp2
              go_roundg R.length
              case measure => rw [HG.out]; exact HL.out
              case rel => exact ⟨R, acc ++ Urly.cl c false, rfl, rfl, HM.out, by rw [HCL.out]; exact HB3.out, HW3.out⟩
            | false =>
              rw [hx] at HIC HCL
              clear hx
              have hcl : Urly.cl c false = Urly.triple c := by rw [HCL.out]; simp
              replace HCL := Lib.hid hcl
              clear hcl
              go_wp2_with (fail)
              refine HC.out.mono ?_
              rintro e w1 ⟨rfl, hb⟩
              have hsl := HSL.out
              have hex := HEX.out
              have HW1 : Hid (Below w.heap.size w w1) := Lib.hid (HWW.out.trans (hb.mono hz))
              have HB1 := Lib.hid (bld_below HBL.out hb)
              have hz1 : w.heap.size ≤ w1.heap.size := HW1.out.size
              clear hb
              go_wp2_with (fail)
              refine (HPC.out _).mono ?_
              rintro e w2 ⟨rfl, hw2⟩
              subst hw2
              go_wp2_with (fail)
              refine (HIC.out _).mono ?_
              rintro e w2 ⟨rfl, hw2⟩
              subst hw2
              go_wp2_with (fail)
              refine (HTC.out _).mono ?_
              rintro e w4 ⟨rfl, hw4⟩
              have HW4 := Lib.hid hw4
              have hz4 := hw4.size
              clear hw4
              go_wp2_with (fail)
              refine (HWC.out _ (bld_below HB1.out HW4.out) HB2.out (by simp [Urly.triple]) (by omega)).mono ?_
              rintro e w3 ⟨⟨v, rfl⟩, hb3, hw3⟩
              have HB3 := Lib.hid hb3
              have HW3 := Lib.hid ((HW1.out.trans (HW4.out.mono hz1)).trans hw3)
              clear hb3 hw3
              go_wp2
              go_roundg R.length
              case measure => rw [HG.out]; exact HL.out
              case rel => exact ⟨R, acc ++ Urly.cl c false, rfl, rfl, HM.out, by rw [HCL.out]; exact HB3.out, HW3.out⟩
end Go.Proofs.YtdolmjeiakdfhaaGreatDoor
