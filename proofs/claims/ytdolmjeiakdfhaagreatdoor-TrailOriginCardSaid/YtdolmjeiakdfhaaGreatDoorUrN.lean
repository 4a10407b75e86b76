/-
  Decode: what it tells of a text. Conditions: the text is no longer than 5000000 bytes.
-/
import Derived.Test.YtdolmjeiakdfhaaGreatDoorTxt
import Derived.Test.YtdolmjeiakdfhaaGreatDoorUrF
import Derived.Test.YtdolmjeiakdfhaaGreatDoorUrI
namespace Go.Proofs.YtdolmjeiakdfhaaGreatDoor
set_option linter.unusedSimpArgs false
set_option linter.unusedVariables false
open Go.RowKit

theorem by_info : (Tryz.prog.info? 5).map (fun i => (i.zero, i.size, i.bytes)) = some (some (.int .u8 0), 1, 1) := by kernel_rfl
def ReadC : Prop := ∀ (s : List UInt8), s ≠ [] → ∀ w, Calls Tryz.prog 97 #[.string (byt s)] w fun e w' => e = .returned (.tuple #[.int .u8 ((readOut s).1.toNat : Int), .int .i64 ((readOut s).2 : Int)]) ∧ Below w.heap.size w w'
theorem readC : ReadC := fun s hs w => read_any s hs w
/-- how a text is read. -/
theorem read_cases (s : List UInt8) (hs : s ≠ []) : (Urly.read s = none ∧ readOut s = (0, 0)) ∨ (∃ c t, Urly.read s = some (c, t, s.drop (if t then 3 else 1)) ∧ readOut s = (c, if t then 3 else 1) ∧ (if t then 3 else 1) ≤ s.length) := by
  unfold readOut
  cases hr : Urly.read s with
  | none => exact .inl ⟨rfl, rfl⟩
  | some x =>
    obtain ⟨c, t, r⟩ := x
    refine .inr ⟨c, t, ?_, rfl, ?_⟩
    all_goals
      unfold Urly.read at hr
      match s, hs with
      | x :: r0, _ =>
        simp only at hr
        split at hr
        · injection hr with hr; injection hr with h1 h2; injection h2 with h2 h3; subst h2 h3
          simp [h1]
        · split at hr
          · split at hr
            · injection hr with hr; injection hr with h1 h2; injection h2 with h2 h3; subst h2 h3
              simp [h1]
            · cases hr
          · cases hr
/-- what is left and what was read. -/
def DecAt (s r acc : List UInt8) : Prop := Urly.dec s = (Urly.dec r).map (acc ++ ·) ∧ acc.length + r.length ≤ s.length
theorem DecAt.start (s : List UInt8) : DecAt s s [] := ⟨by cases Urly.dec s <;> simp, by simp⟩
theorem DecAt.more {s r acc : List UInt8} {c : UInt8} {t : Bool} {k : Nat} (h : DecAt s r acc) (hr : r ≠ []) (e : Urly.read r = some (c, t, r.drop k)) (hk : 1 ≤ k) (hl : k ≤ r.length) : DecAt s (r.drop k) (acc ++ [c]) := by
  refine ⟨?_, by have := h.2; simp; omega⟩
  rw [h.1, Urly.dec_step hr, e]
  simp only
  cases Urly.dec (r.drop k) <;> simp
theorem DecAt.bad {s r acc : List UInt8} (h : DecAt s r acc) (hr : r ≠ []) (e : Urly.read r = none) : Urly.dec s = none := by
  rw [h.1, Urly.dec_step hr, e]; rfl
theorem DecAt.done {s acc : List UInt8} (h : DecAt s [] acc) : Urly.dec s = some acc := by rw [h.1, Urly.dec_nil]; simp
def DecOut (s : List UInt8) (w : World) (e : Ending) (w' : World) : Prop :=
  e = .returned (.tuple #[.string (byt ((Urly.dec s).getD [])), .int .i64 (if (Urly.dec s).isSome then 0 else 3)]) ∧ Below w.heap.size w w'
theorem decOut_bad {s : List UInt8} {w w' : World} {e : Ending} (h : Urly.dec s = none) (he : e = .returned (.tuple #[.string (byt []), .int .i64 3])) (hb : Below w.heap.size w w') : DecOut s w e w' := by
  unfold DecOut; rw [h]; exact ⟨he, hb⟩
theorem decOut_ok {s acc : List UInt8} {w w' : World} {e : Ending} (h : Urly.dec s = some acc) (he : e = .returned (.tuple #[.string (byt acc), .int .i64 0])) (hb : Below w.heap.size w w') : DecOut s w e w' := by
  unfold DecOut; rw [h]; exact ⟨he, hb⟩

set_option maxRecDepth 100000 in
set_option maxHeartbeats 2000000 in
theorem decode_any (s : List UInt8) (w : World) (hs : s.length ≤ 5000000) :
    Calls Tryz.prog 73 #[.string (byt s)] w (DecOut s w) := by
  have HR := Lib.hid readC
  obtain ⟨i0, hi, hi0, hi1, hi2⟩ := info_parts by_info
  have HS := Lib.hid hs
  clear hs
  go_enter Tryz.func73, Tryz.ntmps73
  go_wp2
  go_loopg [0, 4] s.length (fun g a v wr => ∃ (r acc : List UInt8), a = .string (byt r) ∧ g = r.length ∧ DecAt s r acc ∧ wr.ownsRow w.heap.size 5 1 v acc.length (Lib.byteCells acc) ∧ Below w.heap.size w wr)
  case atStart => exact ⟨s, [], rfl, rfl, .start s, ⟨rfl, .inl ⟨rfl, rfl⟩⟩, .refl _ _⟩
  case round =>
    obtain ⟨r, acc, rfl, hg, hat, hown, hw⟩ := hrel
    have HG := Lib.hid hg
    have HAT := Lib.hid hat
    have HW := Lib.hid hw
    have hz := hw.size
    clear hg hat hw
    by_cases hr : r = []
    · subst hr
      have e0 : (byt []).toList.isEmpty = true := by rw [byt_empty]; rfl
      have HC := Lib.hid (run_own_text hown)
      obtain ⟨T, hT⟩ : ∃ T, byt acc = T := ⟨_, rfl⟩
      rw [hT] at HC
      have HT := Lib.hid hT
      clear hT hown
      go_wp2_with (refine wpList_text rfl 134 9 (.tmp 23) rfl _ _ rfl HC.out ?_)
      go_returns
      exact decOut_ok HAT.out.done (by rw [HT.out]; rfl) HW.out
    · have e0 : (byt r).toList.isEmpty = false := by rw [byt_empty]; simpa using hr
      have HC := Lib.hid (HR.out r hr wr)
      rcases read_cases r hr with ⟨hn, ho⟩ | ⟨c, t, hn, ho, hl⟩
      · rw [ho] at HC
        have HN : Hid (Urly.dec s = none) := Lib.hid (HAT.out.bad hr hn)
        obtain ⟨S, hS⟩ : ∃ S, byt r = S := ⟨_, rfl⟩
        rw [hS] at HC e0 ⊢
        clear hS hn ho hown HAT
        go_wp2_with (fail)
        refine HC.out.mono ?_
        rintro e w1 ⟨rfl, hb⟩
        go_wp2
        go_returns
        exact decOut_bad HN.out rfl (HW.out.trans (hb.mono hz))
      · have HM : Hid (DecAt s (r.drop (if t then 3 else 1)) (acc ++ [c])) := Lib.hid (HAT.out.more hr hn (by cases t <;> simp) hl)
        have hb2 : acc.length ≤ 5000000 := by have := HAT.out.2; have := HS.out; omega
        have HB2 := Lib.hid hb2
        rw [ho] at HC
        have HO : Hid (wr.ownsRow w.heap.size 5 1 u4 acc.length (Lib.byteCells acc)) := Lib.hid hown
        obtain ⟨S, hS⟩ : ∃ S, byt r = S := ⟨_, rfl⟩
        obtain ⟨n, hn2⟩ : ∃ n : Nat, (if t = true then 3 else 1) = n := ⟨_, rfl⟩
        have hn1 : n = 1 ∨ n = 3 := by subst hn2; cases t <;> simp
        rw [hn2] at HC HM hl
        have HSL : Hid (∀ w, (Instr.slice 9 (.string S) (some (.int .i64 (n : Int))) none none).run Tryz.prog w = .ok (.string (byt (r.drop n))) w) := by
          refine Lib.hid (fun w => ?_)
          rw [← hS]
          exact run_from r n (by omega) (by omega) w
        have HL : Hid ((r.drop n).length < r.length) := Lib.hid (by simp; omega)
        have HSZ : Hid (S.size = r.length) := Lib.hid (by rw [← hS, byt_size])
        have HEX : Hid (S.extract n S.size = byt (r.drop n)) := by
          refine Lib.hid ?_
          rw [← hS]
          exact ext_from r n _ (by rw [byt_size]; exact Nat.le_refl _)
        have hN3 : (n : Int) ≤ (S.size : Int) := by rw [HSZ.out]; omega
        rw [hS] at HC e0 ⊢
        clear hS hn ho hown HAT hn2 hl hb2
        obtain ⟨R, hR⟩ : ∃ R, r.drop n = R := ⟨_, rfl⟩
        rw [hR] at HM HSL HL HEX
        clear hR
        obtain ⟨N, hN⟩ : ∃ N : Int, (n : Int) = N := ⟨_, rfl⟩
        have hNt : n = N.toNat := by omega
        rw [hNt] at HEX
        rw [hN] at HSL hN3
        simp only [hN] at HC
        have hN0 : (N == 0) = false := by rw [beq_eq_false_iff_ne]; omega
        have hN1 : 0 ≤ N := by omega
        clear hN hNt hn1
        obtain ⟨m, hm⟩ : ∃ m : Int, (c.toNat : Int) = m := ⟨_, rfl⟩
        have HMM := Lib.hid hm
        simp only [hm] at HC
        clear hm
        all_goals
          go_wp2_with (fail)
          refine HC.out.mono ?_
          rintro e w1 ⟨rfl, hb⟩
          have hsl := HSL.out
          have hex := HEX.out
          have ho1 := own_below HO.out hb
          have HW1 : Hid (Below w.heap.size w w1) := Lib.hid (HW.out.trans (hb.mono hz))
          have hz1 : w.heap.size ≤ w1.heap.size := HW1.out.size
          clear hb
          go_wp2_with (at_builtin; refine wpList_append_own _ rfl (.tmp 16) (.tmp 18) 134 rfl w.heap.size 5 i0 (.int .u8 0) 1 1 Tryz.underlying134 hi hi0 hi1 hi2 rfl (by decide) u4 acc.length (Lib.byteCells acc) rfl (ho1.alloc _) ⟨w1.heap.size, 0, none⟩ 1 1 [.int .u8 m] rfl rfl (one_new _ _ _ _ rfl) (one_byte _) ?c3 ?c4 ?c5 ?_)
          case c3 => have := HB2.out; unfold maxLen; omega
          case c4 => have := HB2.out; omega
          case c5 => simp; omega
          intro v' w2 hown' hgrow _
          have HOW := Lib.hid hown'
          have HGR := Lib.hid hgrow
          have HA := Lib.hid ho1
          clear hown' hgrow ho1
          go_wp2
          go_roundg R.length
          case measure => rw [HG.out]; exact HL.out
          case rel =>
            refine ⟨R, acc ++ [c], rfl, rfl, HM.out, ?_, ?_⟩
            · have := HOW.out
              rw [← cells_cat]
              rw [← HMM.out] at this
              simpa [Lib.byteCells] using this
            · exact grown_below (HW1.out.alloc hz1 _) HGR.out (HA.out.alloc _) (by simp; omega)
end Go.Proofs.YtdolmjeiakdfhaaGreatDoor
