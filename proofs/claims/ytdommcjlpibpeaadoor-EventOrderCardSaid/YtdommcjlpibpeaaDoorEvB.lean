/-
  Names of elements and attributes. Conditions: none.
-/
import Derived.Test.YtdommcjlpibpeaaDoorEvA
import Derived.Test.YtdommcjlpibpeaaDoorShelf
import Derived.Shelf.Strings.SlTrimAscii
import Derived.Lib.IndexLaws
namespace Go.Proofs.YtdommcjlpibpeaaDoor
set_option linter.unusedSimpArgs false
set_option linter.unusedVariables false
open Go.RowKit

theorem drop_all (p : UInt8 → Bool) : ∀ l : List UInt8, (l.dropWhile p = []) ↔ l.all p = true
  | [] => by simp
  | a :: l => by
    have := drop_all p l
    cases h : p a <;> simp [List.dropWhile, h, this]
theorem drop_head (p : UInt8 → Bool) : ∀ (l : List UInt8) (x : UInt8) (t : List UInt8), l.dropWhile p = x :: t → p x = false
  | [], _, _, h => by simp at h
  | a :: l, x, t, h => by
    cases ha : p a
    · simp [List.dropWhile, ha] at h; rw [← h.1]; exact ha
    · simp [List.dropWhile, ha] at h; exact drop_head p l x t h
theorem trim_all (s cs : List UInt8) : (Lib.trimS s cs).isEmpty = s.all cs.contains := by
  have h1 : (Lib.trimS s cs = []) ↔ s.all cs.contains = true := by
    unfold Lib.trimS Lib.trimLeftS Lib.trimRightS
    rw [drop_all]
    cases hd : s.reverse.dropWhile cs.contains with
    | nil =>
      have := (drop_all cs.contains s.reverse).1 hd
      simp only [List.reverse_nil, List.all_nil, true_iff]
      simpa using this
    | cons x t =>
      have h0 := drop_head _ _ _ _ hd
      constructor
      · intro h
        have : x ∈ (x :: t).reverse := by simp
        have := List.all_eq_true.1 h x this
        rw [h0] at this; cases this
      · intro h
        have h2 : s.reverse.all cs.contains = true := by simpa using h
        have := (drop_all cs.contains s.reverse).2 h2
        rw [hd] at this; cases this
  rw [Bool.eq_iff_iff, List.isEmpty_iff]
  exact h1
theorem index_has (l : List UInt8) (c : UInt8) : decide (0 ≤ Lib.indexByte l c) = l.contains c := by
  have hge := Lib.indexByte_ge l c
  rw [Bool.eq_iff_iff, decide_eq_true_iff, List.contains_iff_mem]
  constructor
  · intro h
    obtain ⟨o, ho⟩ : ∃ o : Nat, Lib.indexByte l c = o := ⟨(Lib.indexByte l c).toNat, by omega⟩
    exact List.mem_of_getElem? (Lib.indexByte_some ho).1
  · intro hm
    by_cases h : Lib.indexByte l c = -1
    · obtain ⟨k, hk⟩ := List.getElem?_of_mem hm
      exact absurd hk (Lib.indexByte_none h k)
    · omega
def signsB : ByteArray := ⟨#[97, 98, 99, 100, 101, 102, 103, 104, 105, 106, 107, 108, 109, 110, 111, 112, 113, 114, 115, 116, 117, 118, 119, 120, 121, 122, 48, 49, 50, 51, 52, 53, 54, 55, 56, 57, 45, 95, 58]⟩
theorem signs_eq : signsB = byt Domy.signs := rfl
theorem set_info : (Tryd.prog.info? 88).map (fun i => (i.zero, i.size)) = some (some (.agg (Array.replicate 256 (.bool false))), 256) := by kernel_rfl
set_option maxRecDepth 100000 in
theorem trim_any (s : List UInt8) (w : World) (hs : s.length ≤ 9223372036854775807) :
    Calls Tryd.prog 45 #[.string (byt s), .string signsB] w fun e w' => e = .returned (.string (byt (Lib.trimS s Domy.signs))) ∧ Below w.heap.size w w' := by
  have h := Any.strings_Trim_laid Tryd.lays160 set_info (byt s) signsB w (by rw [byt_size]; exact hs) (by decide) (ascii_of_all (by decide +kernel))
  exact h
theorem find_byte (f : List UInt8) (c : UInt8) (w : World) :
    Calls Tryd.prog 44 #[.string (byt f), .int .u8 (c.toNat : Int)] w fun e w' => e = .returned (.int .i64 (Lib.indexByte f c)) ∧ w' = w := by
  have h := Tryd.strings_IndexByte (byt f) (c.toNat : Int) w
  have e : ((c.toNat : Int).toNat).toUInt8 = c := by simp
  rw [e] at h
  exact h
theorem run_at (s : ByteArray) (c : UInt8) (i : Int) (h0 : 0 ≤ i) (h : s.data.toList[i.toNat]? = some c) (w : World) :
    (Instr.index 9 (.string s) (.int .i64 i)).run Tryd.prog w = .ok (.int .u8 (c.toNat : Int)) w := by
  have hlt : i.toNat < s.size := by
    have := (List.getElem?_eq_some_iff.1 h).1
    simpa using this
  have hg : s[i.toNat]'hlt = c := by
    obtain ⟨h1, h2⟩ := List.getElem?_eq_some_iff.1 h
    rw [← h2]; rfl
  rw [run_index_string (P := Tryd.prog) w 9 s .i64 i Tryd.underlying9]
  rw [dif_pos ⟨by omega, by omega⟩]
  simp only [hg]
set_option maxRecDepth 100000 in
set_option maxHeartbeats 2000000 in
theorem named_any (s f : List UInt8) (w : World) :
    Calls Tryd.prog 41 #[.string (byt s), .string (byt f)] w fun e w' => e = .returned (.bool (Domy.named s f)) ∧ Below w.heap.size w w' := by
  cases s with
  | nil =>
    have e0 : (byt []).toList.isEmpty = true := by rw [byt_empty]; rfl
    go_enter Tryd.func41, Tryd.ntmps41
    go_wp2
    go_ret
    exact ⟨rfl, Below.refl _ _⟩
  | cons c r =>
    have e0 : (byt (c :: r)).toList.isEmpty = false := by rw [byt_empty]; simp
    obtain ⟨S, hS⟩ : ∃ S, byt (c :: r) = S := ⟨_, rfl⟩
    have hsz : S.size = r.length + 1 := by rw [← hS, byt_size]; rfl
    have hc0 : S.data.toList[0]? = some c := by rw [← hS]; rfl
    by_cases hl : r.length + 1 ≤ 40
    · have hl1 : (S.size : Int) ≤ 40 := by rw [hsz]; omega
      have hl2 : (0 : Int) < (S.size : Int) := by rw [hsz]; omega
      have dl : decide ((S.size : Int) ≤ 40) = true := decide_eq_true hl1
      have HT := Lib.hid (fun w => trim_any (c :: r) w (by simp; omega))
      have HI := Lib.hid (fun w => find_byte f c w)
      have HX := index_has f c
      have HE := trim_all (c :: r) Domy.signs
      have hnm : Domy.named (c :: r) f = (f.contains c && (c :: r).all Domy.signs.contains) := by unfold Domy.named; rw [show decide ((c :: r).length ≤ 40) = true from by (simp; omega)]; simp
      rw [hnm, ← HX, ← HE]
      obtain ⟨I, hI⟩ : ∃ I, Lib.indexByte f c = I := ⟨_, rfl⟩
      obtain ⟨t, ht⟩ : ∃ t, Lib.trimS (c :: r) Domy.signs = t := ⟨_, rfl⟩
      rw [hI] at HI ⊢
      rw [ht] at HT ⊢
      rw [hS] at e0 HT ⊢
      have hat := fun w => run_at S c 0 (by omega) hc0 w
      have het := byt_empty t
      clear HX HE hnm hI ht hS hc0 hsz hl1
      by_cases hi : 0 ≤ I
      · have di : decide (I ≥ 0) = true := decide_eq_true hi
        have di2 : decide (0 ≤ I) = true := decide_eq_true hi
        rw [di2]
        go_enter Tryd.func41, Tryd.ntmps41
        go_wp2_with (fail)
        refine (HI.out _).mono ?_
        rintro e w1 ⟨rfl, hw⟩
        subst hw
        go_wp2_with (fail)
        refine (HT.out _).mono ?_
        rintro e w2 ⟨rfl, hb⟩
        go_wp2
        go_ret
        refine ⟨ret_bool ?_, hb⟩
        cases t <;> simp
      · have di : decide (I ≥ 0) = false := decide_eq_false hi
        have di2 : decide (0 ≤ I) = false := decide_eq_false hi
        rw [di2]
        go_enter Tryd.func41, Tryd.ntmps41
        go_wp2_with (fail)
        refine (HI.out _).mono ?_
        rintro e w1 ⟨rfl, hw⟩
        subst hw
        go_wp2
        go_ret
        exact ⟨rfl, Below.refl _ _⟩
    · have hnm : Domy.named (c :: r) f = false := by simp [Domy.named]; omega
      have dl : decide ((S.size : Int) ≤ 40) = false := decide_eq_false (by rw [hsz]; omega)
      rw [hnm]
      rw [hS] at e0 ⊢
      clear hnm hS hc0 hsz
      go_enter Tryd.func41, Tryd.ntmps41
      go_wp2
      go_ret
      exact ⟨rfl, Below.refl _ _⟩
theorem letters_slice : signsB.extract 0 26 = byt Domy.letters := by decide +kernel
theorem attr_first : byt Domy.letters ++ (⟨#[45, 95]⟩ : ByteArray) = byt (Domy.letters ++ [45, 95]) := byt_append Domy.letters [45, 95]
set_option maxRecDepth 100000 in
set_option maxHeartbeats 1000000 in
theorem name_any (s : List UInt8) (w : World) :
    Calls Tryd.prog 38 #[.string (byt s)] w fun e w' => e = .returned (.bool (Domy.isName s)) ∧ Below w.heap.size w w' := by
  have HN := Lib.hid (named_any s Domy.letters w)
  have hl := letters_slice
  unfold signsB at hl
  go_enter Tryd.func38, Tryd.ntmps38
  go_wp2_with (fail)
  refine (HN.out).mono ?_
  rintro e w1 ⟨rfl, hb⟩
  go_wp2
  go_ret
  exact ⟨rfl, hb⟩
set_option maxRecDepth 100000 in
set_option maxHeartbeats 1000000 in
theorem attrName_any (s : List UInt8) (w : World) :
    Calls Tryd.prog 42 #[.string (byt s)] w fun e w' => e = .returned (.bool (Domy.isAttr s)) ∧ Below w.heap.size w w' := by
  have HN := Lib.hid (named_any s (Domy.letters ++ [45, 95]) w)
  have hl := letters_slice
  unfold signsB at hl
  have ha := attr_first
  go_enter Tryd.func42, Tryd.ntmps42
  go_wp2_with (fail)
  refine (HN.out).mono ?_
  rintro e w1 ⟨rfl, hb⟩
  go_wp2
  go_ret
  exact ⟨rfl, hb⟩
end Go.Proofs.YtdommcjlpibpeaaDoor
