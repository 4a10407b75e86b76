/-
  strings.IndexAny of a text at "/?#": the first of these bytes. Conditions: the text is shorter than 4294967281 bytes.
-/
import Derived.Test.YtdolmjeiakdfhaaGreatDoorIdr
import Derived.Test.YtdolmjeiakdfhaaGreatDoorUrV
import Derived.Lib.OthersKept
namespace Go.Proofs.YtdolmjeiakdfhaaGreatDoor
set_option linter.unusedSimpArgs false
set_option linter.unusedVariables false
open Go.RowKit Go.Lib

theorem ir_none (r : Int) (h1 : 128 ≤ r) (w : World) : Calls Tryz.prog 63 #[.string ends3, .int .i32 r] w (NoOut w) := by
  by_cases h : r = 65533
  · subst h; exact ir_error w
  · exact ir_high r h1 h w
theorem irA (r : Int) (w : World) (h0 : 0 ≤ r) (h1 : r < 128) : Calls Tryz.prog 63 #[.string ends3, .int .i32 r] w fun e w' => e = .returned (.int .i64 (Lib.indexByte ends3.data.toList r.toNat.toUInt8)) ∧ w' = w := Any.strings_IndexRune_ascii { Tryz.lays153 with } ends3 r w h0 h1
theorem useA (n : Int) (w : World) : Calls Tryz.prog 64 #[.int .i64 n] w fun e w' => e = .returned (.bool (decide (8 < n))) ∧ w' = w := Any.strings_shouldUseASCIISet { Tryz.lays153 with } n w
theorem skip_none {s : List UInt8} {i n : Nat} (h : Lib.NoAny s [47, 63, 35] i) (hn : ∀ (j : Nat) (b : UInt8), j < n → (s.drop i)[j]? = some b → 128 ≤ b.toNat) : Lib.NoAny s [47, 63, 35] (i + n) := by
  intro j b hj hb
  by_cases hji : j < i
  · exact h j b hji hb
  · have := hn (j - i) b (by omega) (by rw [List.getElem?_drop, show i + (j - i) = j by omega]; exact hb)
    rw [← Bool.not_eq_true]
    intro hc
    simp at hc
    rcases hc with rfl | rfl | rfl <;> simp at this
def IAOut (s : List UInt8) (w : World) (e : Ending) (w' : World) : Prop := e = .returned (.int .i64 (Lib.indexAny s [47, 63, 35])) ∧ Below w.heap.size w w'
theorem iaOut_mk {s : List UInt8} {v : Int} {w w' : World} {e : Ending} (h : Lib.indexAny s [47, 63, 35] = v) (he : e = .returned (.int .i64 v)) (hb : Below w.heap.size w w') : IAOut s w e w' := ⟨by rw [h]; exact he, hb⟩
set_option maxRecDepth 1000000 in
set_option maxHeartbeats 8000000 in
theorem ia_short (s : List UInt8) (h8 : s.length ≤ 8) (w : World) : Calls Tryz.prog 45 #[.string (byt s), .string ends3] w (IAOut s w) := by
  have HU : Hid (Calls Tryz.prog 64 #[.int .i64 (s.length : Int)] w fun e w' => e = .returned (.bool false) ∧ w' = w) := Lib.hid (by
    have := useA (s.length : Int) w
    rwa [decide_eq_false (by omega)] at this)
  have HA : Hid (∀ (x : UInt8) w, x.toNat < 128 → Calls Tryz.prog 63 #[.string ends3, .int .i32 (x.toNat : Int)] w fun e w' => e = .returned (.int .i64 (Lib.indexByte [47, 63, 35] x)) ∧ w' = w) := Lib.hid (fun x w hx => by
    have := irA (x.toNat : Int) w (by omega) (by omega)
    have e1 : ((x.toNat : Int)).toNat.toUInt8 = x := by simp
    rw [e1] at this; exact this)
  have HN : Hid (∀ (r : Int) w, 128 ≤ r → Calls Tryz.prog 63 #[.string ends3, .int .i32 r] w (NoOut w)) := Lib.hid (fun r w h => ir_none r h w)
  have hz := byt_size s
  have HDL : Hid (∀ i, Lib.decodeL (s.drop i) = Utf8.decode (byt s) i) := Lib.hid (fun i => by have := Lib.decodeL_drop (byt s) i; rwa [byt_data] at this)
  have HAT : Hid (∀ (i : Nat) (h : i < (byt s).size), s[i]? = some ((byt s)[i]'h)) := Lib.hid (fun i h => Lib.data_getElem? (byt s) i h)
  obtain ⟨S, hS⟩ : ∃ S, byt s = S := ⟨_, rfl⟩
  rw [hS] at hz HDL HAT ⊢
  have HZ := Lib.hid hz
  rw [← hz] at HU
  have e3 : ends3.toList.isEmpty = false := by rw [show ends3 = byt [47, 63, 35] from rfl, byt_empty]; rfl
  have e3n : (ends3.size : Int) = 3 := rfl
  clear hS hz h8
  go_enter Tryz.func45, Tryz.ntmps45
  go_wp2_with (fail)
  refine HU.out.mono ?_
  rintro e w1 ⟨rfl, rfl⟩
  go_wp2
  go_loopg [9, 10] S.size (fun g _ _ wx => ∃ i : Nat, i ≤ S.size ∧ g = S.size - i ∧ wx.heap[w1.heap.size]? = some (.stringIter S i) ∧ Below w1.heap.size w1 wx ∧ Lib.NoAny s [47, 63, 35] i)
  case atStart => exact ⟨0, by omega, rfl, World.iter_heap w1 S 0, below_iter _ _ _, Lib.NoAny.zero _ _⟩
  case round =>
    obtain ⟨i, hi, hg, hit, hb, hno⟩ := hrel
    have HNO := Lib.hid hno
    have HG := Lib.hid hg
    have HB := Lib.hid hb
    have HIT := Lib.hid hit
    clear hno hg hb hit
    by_cases hlt : i < S.size
    · obtain ⟨x, hx⟩ : ∃ x : UInt8, S[i]'hlt = x := ⟨_, rfl⟩
      have Hx : Hid (s[i]? = some x) := Lib.hid (by rw [← hx]; exact HAT.out i hlt)
      have hnx := fun ty => run_next_any_at (P := Tryz.prog) wr w1.heap.size S i ty HIT.out hlt
      obtain ⟨r, n, hrn⟩ : ∃ r n, Utf8.decode S i = (r, n) := ⟨_, _, rfl⟩
      rw [hrn] at hnx
      have HIT2 : Hid (∀ k, (wr.iterAt w1.heap.size S k).heap[w1.heap.size]? = some (.stringIter S k)) := Lib.hid (fun k => iterAt_heap wr w1.heap.size S i k HIT.out)
      have HB2 : Hid (∀ k, Below w1.heap.size w1 (wr.iterAt w1.heap.size S k)) := Lib.hid (fun k => below_iterAt HB.out (Nat.le_refl _) S k)
      have hdl := HDL.out i
      rw [hrn, drop_at Hx.out] at hdl
      have HDD := Lib.hid hdl
      clear hrn hx hdl
      by_cases hx128 : x.toNat < 128
      · have h2 := HDD.out
        rw [Lib.decodeL_ascii x _ hx128] at h2
        injection h2 with h3 h4
        subst h3
        subst h4
        have HAA := Lib.hid (fun w => HA.out x w hx128)
        have hcon := Lib.contains_iff_indexByte [47, 63, 35] x
        have HIT3 := Lib.hid (HIT2.out (i + 1))
        have HB3 := Lib.hid (HB2.out (i + 1))
        obtain ⟨w2, hw2⟩ : ∃ w2, wr.iterAt w1.heap.size S (i + 1) = w2 := ⟨_, rfl⟩
        simp only [hw2] at hnx HIT3 HB3
        obtain ⟨K, hK⟩ : ∃ K, Lib.indexByte [47, 63, 35] x = K := ⟨_, rfl⟩
        simp only [hK] at HAA hcon
        obtain ⟨m, hm⟩ : ∃ m : Int, (x.toNat : Int) = m := ⟨_, rfl⟩
        simp only [hm] at HAA hnx
        clear hm hK hw2 HIT2 HB2 HDD hx128 HIT HB
        cases hin : ([47, 63, 35] : List UInt8).contains x with
        | false =>
          rw [hin] at hcon
          have hge : decide (K ≥ 0) = false := hcon.symm
          have hge2 : ¬ (0 : Int) ≤ K := of_decide_eq_false hcon.symm
          have HS := Lib.hid (HNO.out.succ Hx.out hin)
          clear hcon hin
          go_wp2_with (fail)
          refine (HAA.out _).mono ?_
          rintro e w3 ⟨rfl, hw3⟩
          subst hw3
          go_wp2
          go_roundg (S.size - (i + 1))
          case measure => rw [HG.out]; omega
          case rel => exact ⟨i + 1, by omega, rfl, HIT3.out, HB3.out, HS.out⟩
        | true =>
          rw [hin] at hcon
          have hge : decide (K ≥ 0) = true := hcon.symm
          have hge2 : (0 : Int) ≤ K := of_decide_eq_true hcon.symm
          have HS := Lib.hid (Lib.indexAny_hit HNO.out Hx.out hin)
          clear hcon hin
          go_wp2_with (fail)
          refine (HAA.out _).mono ?_
          rintro e w3 ⟨rfl, hw3⟩
          subst hw3
          go_wp2
          go_ret
          exact iaOut_mk HS.out rfl HB3.out
      · have hsk := dec_skip (x :: s.drop (i + 1)) (by simp) (by simpa using hx128)
        rw [HDD.out] at hsk
        obtain ⟨k1, k2, k3⟩ := hsk
        simp only at k1 k2 k3
        have k4 : 1 ≤ n := by have := Lib.decodeL_width (x :: s.drop (i + 1)); rwa [HDD.out] at this
        have k5 : i + n ≤ S.size := by
          simp only [List.length_cons, List.length_drop] at k2
          have := HZ.out; omega
        have HS := Lib.hid (skip_none (n := n) HNO.out (by rw [drop_at Hx.out]; exact k3))
        have HNN := Lib.hid (fun w => HN.out (r : Int) w (by omega))
        have HIT3 := Lib.hid (HIT2.out (i + n))
        have HB3 := Lib.hid (HB2.out (i + n))
        obtain ⟨w2, hw2⟩ : ∃ w2, wr.iterAt w1.heap.size S (i + n) = w2 := ⟨_, rfl⟩
        simp only [hw2] at hnx HIT3 HB3
        clear hw2 HIT2 HB2 HDD hx128 HIT HB k2 k3
        go_wp2_with (fail)
        refine (HNN.out _).mono ?_
        rintro e w3 ⟨rfl, hw3⟩
        have HIT4 : Hid (w3.heap[w1.heap.size]? = some (.stringIter S (i + n))) := Lib.hid (by rw [hw3.block _ (Array.getElem?_eq_some_iff.1 HIT3.out).1]; exact HIT3.out)
        have HB4 : Hid (Below w1.heap.size w1 w3) := Lib.hid (HB3.out.trans (hw3.mono HB3.out.size))
        clear hw3 HIT3 HB3
        go_wp2
        go_roundg (S.size - (i + n))
        case measure => rw [HG.out]; omega
        case rel => exact ⟨i + n, k5, rfl, HIT4.out, HB4.out, HS.out⟩
    · have hie : i = S.size := by omega
      have hnx := fun ty => run_next_end_at (P := Tryz.prog) wr w1.heap.size S i ty HIT.out hlt
      have HS : Hid (Lib.indexAny s [47, 63, 35] = -1) := Lib.hid (Lib.indexAny_none (by rw [← HZ.out, ← hie]; exact HNO.out))
      clear hie hlt
      go_wp2
      go_ret
      exact iaOut_mk HS.out rfl HB.out
set_option maxRecDepth 1000000 in
theorem ia_any (s : List UInt8) (hs : s.length < 4294967281) (w : World) : Calls Tryz.prog 45 #[.string (byt s), .string ends3] w (IAOut s w) := by
  by_cases h8 : s.length ≤ 8
  · exact ia_short s h8 w
  · refine (Tryz.strings_IndexAny_long (zero_of_info set_info).1 (byt s) ends3 w (by show 2 ≤ 3; omega) (by rw [byt_size]; omega) (by rw [byt_size]; exact hs) (by show 3 < 4294967281; omega) (ascii_of_all (by rw [show ends3 = byt [47, 63, 35] from rfl, byt_data]; decide))).mono fun e w' ⟨h1, h2⟩ => ⟨h1, ?_⟩
    rw [h2]
    exact ((Below.refl _ _).alloc (Nat.le_refl _) _).alloc (by simp) _
end Go.Proofs.YtdolmjeiakdfhaaGreatDoor
