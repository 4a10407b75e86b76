/-
  The tail of an address: query and fragment are read, the path is told. Conditions: the text is no longer than 1000 bytes; the address lies in a block that is known whole.
-/
import Derived.Test.YtdolmjeiakdfhaaGreatDoorIda
import Derived.Test.YtdolmjeiakdfhaaGreatDoorUrTp
import Derived.Test.YtdolmjeiakdfhaaGreatDoorUrU
namespace Go.Proofs.YtdolmjeiakdfhaaGreatDoor
set_option linter.unusedSimpArgs false
set_option linter.unusedVariables false
open Go.RowKit

theorem tail_form {s s1 f p q : List UInt8} {po aa : Bool} (h1 : cutAt 35 s = (s1, f, po)) (h2 : cutAt 63 s1 = (p, q, aa)) : Urly.tail s = ⟨p, Urly.clean q, aa, Urly.clean f, po⟩ := by
  have h1' : Urly.cut 35 s = (s1, f, po) := h1
  have h2' : Urly.cut 63 s1 = (p, q, aa) := h2
  unfold Urly.tail
  rw [h1']
  simp only
  rw [h2']
theorem clean_fin {s : List UInt8} {w w' : World} {e : Ending} (h : CleanOut s w e w') : e = .returned (.tuple #[.string (byt ((Urly.clean s).getD [])), .bool (Urly.clean s).isSome]) ∧ Below w.heap.size w w' := by
  exact h
/-- the cells of an address whose tail was read. -/
def tcells (c0 c1 c2 c3 : Value) (t : Urly.Tail) : Array Value := #[c0, c1, c2, c3, .string (byt (t.query.getD [])), .bool t.asks, .string (byt (t.fragment.getD [])), .bool t.points]
def TailOut (b : Nat) (s : List UInt8) (c0 c1 c2 c3 : Value) (w : World) (e : Ending) (w' : World) : Prop :=
  e = .returned (.tuple #[.string (byt (Urly.tail s).path), .bool ((Urly.tail s).query.isSome && (Urly.tail s).fragment.isSome)]) ∧ Box w' b 62 (tcells c0 c1 c2 c3 (Urly.tail s)) ∧ Upd w w' b
theorem tailOut_mk {b : Nat} {s : List UInt8} {c0 c1 c2 c3 : Value} {w w' : World} {e : Ending} {p : List UInt8} {q f : Option (List UInt8)} {aa po : Bool} {P Q F : ByteArray} {k1 k2 : Bool} (h : Urly.tail s = ⟨p, q, aa, f, po⟩)
    (hP : byt p = P) (hQ : byt (q.getD []) = Q) (hF : byt (f.getD []) = F) (h1 : q.isSome = k1) (h2 : f.isSome = k2)
    (he : e = .returned (.tuple #[.string P, .bool (k1 && k2)])) (hb : Box w' b 62 #[c0, c1, c2, c3, .string Q, .bool aa, .string F, .bool po]) (hu : Upd w w' b) : TailOut b s c0 c1 c2 c3 w e w' := by
  unfold TailOut tcells
  rw [h]
  subst hP; subst hQ; subst hF; subst h1; subst h2
  exact ⟨he, hb, hu⟩
set_option maxRecDepth 100000 in
set_option maxHeartbeats 4000000 in
theorem tail_any (s : List UInt8) (b : Nat) (c0 c1 c2 c3 c4 c5 c6 c7 : Value) (w : World) (hB : Box w b 62 #[c0, c1, c2, c3, c4, c5, c6, c7]) (hs : s.length ≤ 1000) :
    Calls Tryz.prog 47 #[.pointer (some ⟨b, 0, none⟩), .string (byt s)] w (TailOut b s c0 c1 c2 c3 w) := by
  obtain ⟨s1, f, po, hc1⟩ : ∃ s1 f po, cutAt 35 s = (s1, f, po) := ⟨_, _, _, rfl⟩
  obtain ⟨p, q, aa, hc2⟩ : ∃ p q aa, cutAt 63 s1 = (p, q, aa) := ⟨_, _, _, rfl⟩
  have hl1 := cut_len 35 s
  rw [hc1] at hl1
  have hl2 := cut_len 63 s1
  rw [hc2] at hl2
  simp only at hl1 hl2
  have HT := Lib.hid (tail_form hc1 hc2)
  have HC1 : Hid (∀ w, Calls Tryz.prog 54 #[.string (byt s), .string ⟨#[35]⟩] w (fun e w' => e = .returned (.tuple #[.string (byt s1), .string (byt f), .bool po]) ∧ Below w.heap.size w w')) := Lib.hid (fun w => by
    have := cut_any s 35 w (by omega)
    unfold CutOut at this
    rwa [hc1] at this)
  have HC2 : Hid (∀ w, Calls Tryz.prog 54 #[.string (byt s1), .string ⟨#[63]⟩] w (fun e w' => e = .returned (.tuple #[.string (byt p), .string (byt q), .bool aa]) ∧ Below w.heap.size w w')) := Lib.hid (fun w => by
    have := cut_any s1 63 w (by omega)
    unfold CutOut at this
    rwa [hc2] at this)
  obtain ⟨Q, hQ⟩ : ∃ Q, byt ((Urly.clean q).getD []) = Q := ⟨_, rfl⟩
  obtain ⟨F, hF⟩ : ∃ F, byt ((Urly.clean f).getD []) = F := ⟨_, rfl⟩
  obtain ⟨k1, hk1⟩ : ∃ k1, (Urly.clean q).isSome = k1 := ⟨_, rfl⟩
  obtain ⟨k2, hk2⟩ : ∃ k2, (Urly.clean f).isSome = k2 := ⟨_, rfl⟩
  have HQ : Hid (∀ w, Calls Tryz.prog 71 #[.string (byt q)] w (fun e w' => e = .returned (.tuple #[.string Q, .bool k1]) ∧ Below w.heap.size w w')) := Lib.hid (fun w => (clean_any q w (by omega)).mono fun e w' h => by
    have := clean_fin h
    rwa [hQ, hk1] at this)
  have HF : Hid (∀ w, Calls Tryz.prog 71 #[.string (byt f)] w (fun e w' => e = .returned (.tuple #[.string F, .bool k2]) ∧ Below w.heap.size w w')) := Lib.hid (fun w => (clean_any f w (by omega)).mono fun e w' h => by
    have := clean_fin h
    rwa [hF, hk2] at this)
  have HH := Lib.hid (And.intro hQ (And.intro hF (And.intro hk1 hk2)))
  obtain ⟨S, hS⟩ : ∃ S : ByteArray, byt s = S := ⟨_, rfl⟩
  obtain ⟨S1, hS1⟩ : ∃ S : ByteArray, byt s1 = S := ⟨_, rfl⟩
  obtain ⟨P, hP⟩ : ∃ S : ByteArray, byt p = S := ⟨_, rfl⟩
  obtain ⟨Q1, hQ1⟩ : ∃ S : ByteArray, byt q = S := ⟨_, rfl⟩
  obtain ⟨F1, hF1⟩ : ∃ S : ByteArray, byt f = S := ⟨_, rfl⟩
  rw [hS, hS1, hF1] at HC1
  rw [hS1, hP, hQ1] at HC2
  rw [hQ1] at HQ
  rw [hF1] at HF
  rw [hS]
  have HPP := Lib.hid hP
  have HB0 := Lib.hid hB
  have hblt : b < w.heap.size := hB.lt
  clear hc1 hc2 hl1 hl2 hQ hF hk1 hk2 hS hS1 hP hQ1 hF1 hs hB
  go_enter Tryz.func47, Tryz.ntmps47
  go_wp2_with (fail)
  refine (HC1.out _).mono ?_
  rintro e w1 ⟨rfl, hw1⟩
  have HW1 := Lib.hid hw1
  clear hw1 HC1
  go_wp2_with (fail)
  refine (HC2.out _).mono ?_
  rintro e w2 ⟨rfl, hw2⟩
  have HW2 : Hid (Below w.heap.size w w2) := Lib.hid (HW1.out.trans (hw2.mono HW1.out.size))
  have HB2 : Hid (Box w2 b 62 #[c0, c1, c2, c3, c4, c5, c6, c7]) := Lib.hid (HB0.out.below HW2.out hblt)
  have x5 : w2.cell? ⟨b, 5, none⟩ = some c5 := HB2.out.cell 5
  have z5 : w2.frozen? ⟨b, 5, none⟩ = false := HB2.out.frozen 5
  have x7 : w2.cell? ⟨b, 7, none⟩ = some c7 := HB2.out.cell 7
  have z7 : w2.frozen? ⟨b, 7, none⟩ = false := HB2.out.frozen 7
  clear hw2 HW1 HC2 HB0
  go_wp2_with (fail)
  obtain ⟨w3, hw3⟩ : ∃ w3, (w2.setCell ⟨b, 5, none⟩ (.bool aa)).setCell ⟨b, 7, none⟩ (.bool po) = w3 := ⟨_, rfl⟩
  rw [hw3]
  have HB3 : Hid (Box w3 b 62 #[c0, c1, c2, c3, c4, .bool aa, c6, .bool po]) := Lib.hid (by rw [← hw3]; exact (HB2.out.set 5 _).set 7 _)
  have HW3 : Hid (Upd w w3 b) := Lib.hid (by rw [← hw3]; exact ((Upd.below HW2.out b).set (.inl rfl) _).set (.inl rfl) _)
  clear hw3 x5 z5 x7 z7 HB2 HW2
  refine (HQ.out _).mono ?_
  rintro e w4 ⟨rfl, hw4⟩
  have HB4 : Hid (Box w4 b 62 #[c0, c1, c2, c3, c4, .bool aa, c6, .bool po]) := Lib.hid (HB3.out.below hw4 HB3.out.lt)
  have HW4 : Hid (Upd w w4 b) := Lib.hid (HW3.out.step hw4)
  have x4 : w4.cell? ⟨b, 4, none⟩ = some c4 := HB4.out.cell 4
  have z4 : w4.frozen? ⟨b, 4, none⟩ = false := HB4.out.frozen 4
  clear hw4 HQ HB3 HW3
  go_wp2_with (fail)
  obtain ⟨w5, hw5⟩ : ∃ w5, w4.setCell ⟨b, 4, none⟩ (.string Q) = w5 := ⟨_, rfl⟩
  rw [hw5]
  have HB5 : Hid (Box w5 b 62 #[c0, c1, c2, c3, .string Q, .bool aa, c6, .bool po]) := Lib.hid (by rw [← hw5]; exact HB4.out.set 4 _)
  have HW5 : Hid (Upd w w5 b) := Lib.hid (by rw [← hw5]; exact HW4.out.set (.inl rfl) _)
  clear hw5 x4 z4 HB4 HW4
  refine (HF.out _).mono ?_
  rintro e w6 ⟨rfl, hw6⟩
  have HB6 : Hid (Box w6 b 62 #[c0, c1, c2, c3, .string Q, .bool aa, c6, .bool po]) := Lib.hid (HB5.out.below hw6 HB5.out.lt)
  have HW6 : Hid (Upd w w6 b) := Lib.hid (HW5.out.step hw6)
  have x6 : w6.cell? ⟨b, 6, none⟩ = some c6 := HB6.out.cell 6
  have z6 : w6.frozen? ⟨b, 6, none⟩ = false := HB6.out.frozen 6
  clear hw6 HF HB5 HW5
  cases k1 with
  | false =>
    go_wp2
    go_returns
    exact tailOut_mk HT.out HPP.out HH.out.1 HH.out.2.1 HH.out.2.2.1 HH.out.2.2.2 rfl (HB6.out.set 6 _) (HW6.out.set (.inl rfl) _)
  | true =>
    go_wp2
    go_returns
    exact tailOut_mk HT.out HPP.out HH.out.1 HH.out.2.1 HH.out.2.2.1 HH.out.2.2.2 rfl (HB6.out.set 6 _) (HW6.out.set (.inl rfl) _)
end Go.Proofs.YtdolmjeiakdfhaaGreatDoor
