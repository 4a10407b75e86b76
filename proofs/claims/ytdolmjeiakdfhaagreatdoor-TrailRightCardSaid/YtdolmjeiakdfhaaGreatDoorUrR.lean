/-
  A host. Conditions: the library's variables hold what they hold; the text is no longer than 1048576 bytes.
-/
import Derived.Test.YtdolmjeiakdfhaaGreatDoorUrQ
namespace Go.Proofs.YtdolmjeiakdfhaaGreatDoor
set_option linter.unusedSimpArgs false
set_option linter.unusedVariables false
open Go.RowKit

def hset : List UInt8 := [97, 98, 99, 100, 101, 102, 103, 104, 105, 106, 107, 108, 109, 110, 111, 112, 113, 114, 115, 116, 117, 118, 119, 120, 121, 122, 48, 49, 50, 51, 52, 53, 54, 55, 56, 57, 45]
theorem hset_eq (c : UInt8) : Urly.hc c = hset.contains c := byte_all (p := fun c => Urly.hc c = hset.contains c) (by decide +kernel) c
/-- whether a piece of a host is one. -/
def okp (p : List UInt8) : Bool := !p.isEmpty && p.all hset.contains
theorem host_eq (s : List UInt8) : Urly.host s = (decide (s.length ≤ 100) && (Urly.splitOn 46 s).all okp) := by
  unfold Urly.host okp
  congr 1
  have : Urly.hc = hset.contains := funext hset_eq
  rw [this]
theorem txts_at {l : List (List UInt8)} {k : Nat} {p : List UInt8} (h : l[k]? = some p) : (txts l).toArray[k]? = some (.string (byt p)) := by
  simp [txts, h]
theorem all_more {l : List (List UInt8)} {k : Nat} {p : List UInt8} (f : List UInt8 → Bool) (h : l[k]? = some p) (ha : (l.take k).all f = true) (hp : f p = true) : (l.take (k + 1)).all f = true := by
  rw [List.take_add_one, h]; simp [List.all_append, ha, hp]
theorem all_not {l : List (List UInt8)} {k : Nat} {p : List UInt8} (f : List UInt8 → Bool) (h : l[k]? = some p) (hp : f p = false) : l.all f = false := by
  rw [← Bool.not_eq_true]
  intro ha
  have := List.all_eq_true.1 ha p (List.mem_of_getElem? h)
  rw [hp] at this; cases this
def BoolOut (b : Bool) (w : World) (e : Ending) (w' : World) : Prop := e = .returned (.bool b) ∧ Below w.heap.size w w'
theorem boolOut_mk {b c : Bool} {w w' : World} {e : Ending} (h : b = c) (he : e = .returned (.bool c)) (hb : Below w.heap.size w w') : BoolOut b w e w' := by subst h; exact ⟨he, hb⟩
set_option maxRecDepth 100000 in
set_option maxHeartbeats 2000000 in
theorem host_any (s : List UInt8) (w : World) (hs : s.length ≤ 1048576) (he : Env w) :
    Calls Tryz.prog 67 #[.string (byt s)] w (BoolOut (Urly.host s) w) := by
  have hz : (byt s).size = s.length := byt_size s
  by_cases hl : s.length ≤ 100
  · have hq : Hid (Urly.host s = (Urly.splitOn 46 s).all okp) := Lib.hid (by rw [host_eq, decide_eq_true hl]; rfl)
    have HSP := Lib.hid (split_any s 46 w hs he)
    obtain ⟨hp1, hp2⟩ := splitOn_le 46 s
    have HT : Hid (∀ p ∈ Urly.splitOn 46 s, ∀ w, Calls Tryz.prog 68 #[.string (byt p), .string (byt hset)] w (TrimOut p hset w)) := Lib.hid (fun p hp w => trim_any p hset (by decide +kernel) (by decide) w (by have := hp2 p hp; omega))
    obtain ⟨P, hP⟩ : ∃ P, Urly.splitOn 46 s = P := ⟨_, rfl⟩
    have HSP2 : Hid (Calls Tryz.prog 72 #[.string (byt s), .string ⟨#[46]⟩] w (fun e w' => e = .returned (.slice (some ⟨w.heap.size, 0, none⟩) P.length P.length) ∧ w' = w.alloc (.cells (txts P).toArray 9))) := by
      have := HSP.out
      unfold SplitOut at this
      rw [hP] at this
      exact Lib.hid this
    rw [hP] at hq HT hp1
    have HP := Lib.hid hP
    have hPl : P.length ≤ 101 := by omega
    obtain ⟨S, hS⟩ : ∃ S, byt s = S := ⟨_, rfl⟩
    have hd : decide ((S.size : Int) > 100) = false := decide_eq_false (by rw [← hS, hz]; omega)
    have hd2 : ¬ (100 : Int) < (S.size : Int) := by rw [← hS, hz]; omega
    rw [hS] at HSP2
    rw [hS]
    clear hP hp1 hp2 hS hz hl HSP hs he
    go_enter Tryz.func67, Tryz.ntmps67
    go_wp2_with (fail)
    refine HSP2.out.mono ?_
    rintro e w1 ⟨rfl, hw1⟩
    have HBX : Hid (Box w1 w.heap.size 9 (txts P).toArray) := Lib.hid (by rw [hw1]; exact Box.new w _ _)
    have HW1 : Hid (Below w.heap.size w w1) := Lib.hid (by rw [hw1]; exact below1 w _)
    have hz1 : w.heap.size < w1.heap.size := HBX.out.lt
    clear hw1 HSP2
    go_wp2
    go_loopg [11] (P.length - 0) (fun g v wr => ∃ (k : Nat), k ≤ P.length ∧ g = P.length - k ∧ v = .int .i64 (k : Int) ∧ (P.take k).all okp = true ∧ Below w1.heap.size w1 wr)
    case atStart => exact ⟨0, by omega, rfl, rfl, by simp, Below.refl _ _⟩
    case round =>
      obtain ⟨k, hk, hg, rfl, hall, hw⟩ := hrel
      have HG := Lib.hid hg
      have HA := Lib.hid hall
      have HW := Lib.hid hw
      clear hg hall hw
      by_cases hlt : k < P.length
      · obtain ⟨p, hp⟩ : ∃ p, P[k]? = some p := ⟨_, List.getElem?_eq_getElem hlt⟩
        have hl1 : decide ((k : Int) < (P.length : Int)) = true := decide_eq_true (by omega)
        have hl2 : (k : Int) < (P.length : Int) := by omega
        have hc : wr.cell? ⟨w.heap.size, k, none⟩ = some (.string (byt p)) := by
          rw [HW.out.cell (p := ⟨w.heap.size, k, none⟩) hz1, HBX.out.cell k]
          exact txts_at hp
        have HTC := Lib.hid (HT.out p (List.mem_of_getElem? hp) wr)
        have HPP := Lib.hid hp
        clear hp
        by_cases hpe : p = []
        · subst hpe
          have e0 : (byt []).toList.isEmpty = true := by rw [byt_empty]; rfl
          have HF : Hid (Urly.host s = false) := Lib.hid (by rw [hq.out]; exact all_not okp HPP.out rfl)
          go_wp2
          go_ret
          exact boolOut_mk HF.out rfl (HW1.out.trans (HW.out.mono (by omega)))
        · have e0 : (byt p).toList.isEmpty = false := by rw [byt_empty]; simpa using hpe
          have HOK : Hid (okp p = p.all hset.contains) := Lib.hid (by unfold okp; cases p <;> simp at hpe ⊢)
          obtain ⟨X, hX⟩ : ∃ X, byt p = X := ⟨_, rfl⟩
          rw [hX] at hc e0 HTC
          clear hX hpe
          cases hb : p.all hset.contains with
          | true =>
            have HTD : Hid (Calls Tryz.prog 68 #[.string X, .string (byt hset)] wr (fun e w' => ∃ T : ByteArray, e = .returned (.string T) ∧ T.toList.isEmpty = true ∧ Below wr.heap.size wr w')) := Lib.hid (by have := HTC.out; unfold TrimOut at this; rwa [hb] at this)
            rw [hb] at HOK
            clear hb HTC
            go_wp2_with (fail)
            refine HTD.out.mono ?_
            rintro e w2 ⟨T, rfl, hT, hw2⟩
            have HW2 := Lib.hid (HW.out.trans (hw2.mono HW.out.size))
            clear hw2
            go_wp2
            go_roundg (P.length - (k + 1))
            case measure => rw [HG.out]; omega
            case rel => exact ⟨k + 1, by omega, rfl, by go_num, all_more okp HPP.out HA.out HOK.out, HW2.out⟩
          | false =>
            have HTD : Hid (Calls Tryz.prog 68 #[.string X, .string (byt hset)] wr (fun e w' => ∃ T : ByteArray, e = .returned (.string T) ∧ T.toList.isEmpty = false ∧ Below wr.heap.size wr w')) := Lib.hid (by have := HTC.out; unfold TrimOut at this; rwa [hb] at this)
            rw [hb] at HOK
            clear hb HTC
            have HF : Hid (Urly.host s = false) := Lib.hid (by rw [hq.out]; exact all_not okp HPP.out HOK.out)
            go_wp2_with (fail)
            refine HTD.out.mono ?_
            rintro e w2 ⟨T, rfl, hT, hw2⟩
            have HW2 := Lib.hid (HW.out.trans (hw2.mono HW.out.size))
            clear hw2
            go_wp2
            go_ret
            exact boolOut_mk HF.out rfl (HW1.out.trans (HW2.out.mono (by omega)))
      · have hl1 : decide ((k : Int) < (P.length : Int)) = false := decide_eq_false (by omega)
        have hl2 : ¬ (k : Int) < (P.length : Int) := by omega
        have HF : Hid (Urly.host s = true) := Lib.hid (by rw [hq.out, ← List.take_of_length_le (show P.length ≤ k by omega)]; exact HA.out)
        go_wp2
        go_ret
        exact boolOut_mk HF.out rfl (HW1.out.trans (HW.out.mono (by omega)))
  · have hq : Hid (Urly.host s = false) := Lib.hid (by rw [host_eq, decide_eq_false hl]; rfl)
    obtain ⟨S, hS⟩ : ∃ S, byt s = S := ⟨_, rfl⟩
    have hd : decide ((S.size : Int) > 100) = true := decide_eq_true (by rw [← hS, hz]; omega)
    have hd2 : (100 : Int) < (S.size : Int) := by rw [← hS, hz]; omega
    rw [hS]
    clear hS hz hl hs he
    go_enter Tryz.func67, Tryz.ntmps67
    go_wp2
    go_ret
    exact boolOut_mk hq.out rfl (Below.refl _ _)
end Go.Proofs.YtdolmjeiakdfhaaGreatDoor
