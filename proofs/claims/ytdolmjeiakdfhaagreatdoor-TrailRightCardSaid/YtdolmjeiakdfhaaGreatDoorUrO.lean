/-
  Encode, and the clean form of a query: what they tell of a text. Conditions: the text is no longer than 1048576 bytes.
-/
import Derived.Test.YtdolmjeiakdfhaaGreatDoorBld
import Derived.Test.YtdolmjeiakdfhaaGreatDoorUrN
import Derived.Test.YtdolmjeiakdfhaaGreatDoorUrK
namespace Go.Proofs.YtdolmjeiakdfhaaGreatDoor
set_option linter.unusedSimpArgs false
set_option linter.unusedVariables false
open Go.RowKit

def PlainC : Prop := ∀ (c : UInt8) (w : World), Calls Tryz.prog 98 #[.int .u8 (c.toNat : Int)] w fun e w' => e = .returned (.bool (Urly.plain c)) ∧ w' = w
theorem plainC : PlainC := plain_any
def TripleC : Prop := ∀ (c : UInt8) (w : World), Calls Tryz.prog 101 #[.int .u8 (c.toNat : Int)] w fun e w' => e = .returned (.string (byt (Urly.triple c))) ∧ Below w.heap.size w w'
theorem tripleC : TripleC := triple_any
def InC : Prop := ∀ (c : UInt8) (f : List UInt8) (w : World), Calls Tryz.prog 61 #[.int .u8 (c.toNat : Int), .string (byt f)] w fun e w' => e = .returned (.bool (f.contains c)) ∧ w' = w
theorem inC : InC := in_any
theorem enc_take (s : List UInt8) (k : Nat) (c : UInt8) (h : s[k]? = some c) : Urly.enc (s.take (k + 1)) = Urly.enc (s.take k) ++ (if Urly.plain c then [c] else Urly.triple c) := by
  unfold Urly.enc
  rw [List.take_add_one, h]; simp
set_option maxRecDepth 100000 in
set_option maxHeartbeats 2000000 in
theorem encode_any (s : List UInt8) (w : World) (hs : s.length ≤ 1048576) :
    Calls Tryz.prog 106 #[.string (byt s)] w fun e w' => e = .returned (.string (byt (Urly.enc s))) ∧ Below w.heap.size w w' := by
  have HP : Hid PlainC := Lib.hid plainC
  have HT : Hid TripleC := Lib.hid tripleC
  have HB : Hid WB := Lib.hid wb
  have HW : Hid WS := Lib.hid ws
  have HE : Hid BS := Lib.hid bs
  obtain ⟨S, hS⟩ : ∃ S, byt s = S := ⟨_, rfl⟩
  have hsz : S.size = s.length := by rw [← hS, byt_size]
  have HX : Hid (∀ (k : Nat) (c : UInt8), s[k]? = some c → ∀ w, (Instr.index 9 (.string S) (.int .i64 (k : Int))).run Tryz.prog w = .ok (.int .u8 (c.toNat : Int)) w) := by
    refine Lib.hid (fun k c h w => run_at S c (k : Int) (by omega) ?_ w)
    rw [← hS]; exact h
  have HSZ := Lib.hid hsz
  have HLS := Lib.hid hs
  have hm : (S.size : Int) ≤ 1048576 := by omega
  rw [hS]
  clear hS hsz hs
  go_enter Tryz.func106, Tryz.ntmps106
  go_wp2
  go_loopg [7] (S.size - 0) (fun g v wr => ∃ (k : Nat), k ≤ S.size ∧ g = S.size - k ∧ v = .int .i64 (k : Int) ∧ Bld w.heap.size w.heap.size (Urly.enc (s.take k)) wr ∧ Below w.heap.size w wr)
  case atStart => exact ⟨0, by omega, rfl, rfl, by rw [List.take_zero]; exact bld_new w, (Below.refl _ w).alloc (Nat.le_refl _) _⟩
  case round =>
    obtain ⟨k, hk, hg, rfl, hb, hw⟩ := hrel
    have HG := Lib.hid hg; clear hg
    have HBL := Lib.hid hb; clear hb
    have HWW := Lib.hid hw
    have hz := hw.size
    clear hw
    have hq : Hid ((Urly.enc (s.take k)).length ≤ 5000000) := by
      refine Lib.hid ?_
      have := Urly.enc_len (s.take k)
      have h2 : (s.take k).length ≤ k := by simp; omega
      omega
    by_cases hlt : k < S.size
    · obtain ⟨c, hc⟩ : ∃ c, s[k]? = some c := ⟨_, List.getElem?_eq_getElem (by rw [← HSZ.out]; exact hlt)⟩
      have hl1 : decide ((k : Int) < S.size) = true := by simp; omega
      have hx := HX.out k c hc
      have HN := Lib.hid (enc_take s k c hc)
      have HPC := Lib.hid (HP.out c wr)
      have HTC := Lib.hid (fun w => HT.out c w)
      have HBC := Lib.hid (fun w1 h1 h2 h3 => HB.out w.heap.size w.heap.size (Urly.enc (s.take k)) c w1 h1 h2 h3)
      clear hc
      obtain ⟨m, hm2⟩ : ∃ m : Int, (c.toNat : Int) = m := ⟨_, rfl⟩
      rw [hm2] at hx
      simp only [hm2] at HPC HTC HBC
      clear hm2
      cases hp : Urly.plain c with
      | true =>
        rw [hp] at HPC HN
        clear hp
        go_wp2_with (fail)
        refine HPC.out.mono ?_
        rintro e w1 ⟨rfl, hw1⟩
        subst hw1
        go_wp2_with (fail)
        refine (HBC.out _ HBL.out hq.out hz).mono ?_
        rintro e w2 ⟨rfl, hb2, hw2⟩
        have HB2 := Lib.hid hb2
        have HW2 := Lib.hid (HWW.out.trans hw2)
        clear hb2 hw2
        go_wp2
        go_roundg (S.size - (k + 1))
        case measure => rw [HG.out]; omega
        case rel =>
          refine ⟨k + 1, by omega, rfl, by go_num, ?_, HW2.out⟩
          rw [HN.out]
          simpa using HB2.out
      | false =>
        rw [hp] at HPC HN
        clear hp
        go_wp2_with (fail)
        refine HPC.out.mono ?_
        rintro e w1 ⟨rfl, hw1⟩
        subst hw1
        go_wp2_with (fail)
        refine (HTC.out _).mono ?_
        rintro e w2 ⟨rfl, hw2⟩
        have HW2 := Lib.hid hw2
        have hz2 := hw2.size
        clear hw2
        go_wp2_with (fail)
        refine (HW.out w.heap.size w.heap.size _ (Urly.triple c) _ (bld_below HBL.out HW2.out) hq.out (by simp [Urly.triple]) (by omega)).mono ?_
        rintro e w3 ⟨⟨v, rfl⟩, hb3, hw3⟩
        have HB3 := Lib.hid hb3
        have HW3 := Lib.hid ((HWW.out.trans (HW2.out.mono hz)).trans hw3)
        clear hb3 hw3
        go_wp2
        go_roundg (S.size - (k + 1))
        case measure => rw [HG.out]; omega
        case rel =>
          refine ⟨k + 1, by omega, rfl, by go_num, ?_, HW3.out⟩
          rw [HN.out]
          simpa using HB3.out
    · have hl1 : decide ((k : Int) < S.size) = false := by simp; omega
      have hl2 : ¬ ((k : Int) < S.size) := by omega
      have HF : Hid (s.take k = s) := Lib.hid (List.take_of_length_le (by have := HSZ.out; omega))
      go_wp2_with (fail)
      refine (HE.out w.heap.size w.heap.size _ _ HBL.out hz).mono ?_
      rintro e w2 ⟨rfl, hw2⟩
      have HW2 := Lib.hid (HWW.out.trans hw2)
      clear hw2
      go_wp2
      go_ret
      exact ⟨by rw [HF.out]; rfl, HW2.out⟩
end Go.Proofs.YtdolmjeiakdfhaaGreatDoor
