/-
  The segments of a path. Conditions: the library's variables hold what they hold; the text is no longer than 1048576 bytes.
-/
import Derived.Test.YtdolmjeiakdfhaaGreatDoorUrR
namespace Go.Proofs.YtdolmjeiakdfhaaGreatDoor
set_option linter.unusedSimpArgs false
set_option linter.unusedVariables false
open Go.RowKit

theorem txt_info : (Tryz.prog.info? 9).map (fun i => (i.zero, i.size, i.bytes)) = some (some (.string ByteArray.empty), 1, 16) := by kernel_rfl
theorem txts_len (l : List (List UInt8)) : (txts l).length = l.length := by simp [txts]
theorem txts_snoc (l : List (List UInt8)) (p : List UInt8) : txts (l ++ [p]) = txts l ++ [.string (byt p)] := by simp [txts]
/-- the pieces so far. -/
def SegAt (P : List (List UInt8)) (k : Nat) (acc : List (List UInt8)) : Prop := Urly.decs P = (Urly.decs (P.drop k)).map (acc ++ ·) ∧ acc.length ≤ k
theorem SegAt.start (P : List (List UInt8)) : SegAt P 0 [] := ⟨by rw [List.drop_zero]; cases Urly.decs P <;> simp, by simp⟩
theorem drop_at {α : Type} {P : List α} {k : Nat} {p : α} (h : P[k]? = some p) : P.drop k = p :: P.drop (k + 1) := by
  obtain ⟨h1, h2⟩ := List.getElem?_eq_some_iff.1 h
  rw [List.drop_eq_getElem_cons h1, h2]
theorem SegAt.more {P acc : List (List UInt8)} {k : Nat} {p d : List UInt8} (h : SegAt P k acc) (hp : P[k]? = some p) (hd : Urly.dec p = some d) : SegAt P (k + 1) (acc ++ [d]) := by
  refine ⟨?_, by have := h.2; simp; omega⟩
  rw [h.1, drop_at hp, Urly.decs, hd]
  simp only
  cases Urly.decs (P.drop (k + 1)) <;> simp
theorem SegAt.bad {P acc : List (List UInt8)} {k : Nat} {p : List UInt8} (h : SegAt P k acc) (hp : P[k]? = some p) (hd : Urly.dec p = none) : Urly.decs P = none := by
  rw [h.1, drop_at hp, Urly.decs, hd]; rfl
theorem SegAt.done {P acc : List (List UInt8)} {k : Nat} (h : SegAt P k acc) (hk : P.length ≤ k) : Urly.decs P = some acc := by
  rw [h.1, List.drop_eq_nil_of_le hk]; simp [Urly.decs]
def SegOut (s : List UInt8) (w : World) (e : Ending) (w' : World) : Prop :=
  (∃ l v, Urly.segments s = some l ∧ e = .returned (.tuple #[v, .bool true]) ∧ w'.ownsRow w.heap.size 9 1 v l.length (txts l) ∧ l.length ≤ s.length + 1 ∧ Below w.heap.size w w') ∨ (Urly.segments s = none ∧ e = .returned (.tuple #[.slice none 0 0, .bool false]) ∧ Below w.heap.size w w')
def DecodeC : Prop := ∀ (s : List UInt8) (w : World), s.length ≤ 5000000 → Calls Tryz.prog 73 #[.string (byt s)] w (DecOut s w)
theorem decodeC : DecodeC := fun s w h => decode_any s w h
theorem segOut_no {s : List UInt8} {w w' : World} {e : Ending} (h : Urly.segments s = none) (he : e = .returned (.tuple #[.slice none 0 0, .bool false])) (hb : Below w.heap.size w w') : SegOut s w e w' := .inr ⟨h, he, hb⟩
theorem segOut_yes {s : List UInt8} {l : List (List UInt8)} {w w' : World} {v : Value} {e : Ending} (h : Urly.segments s = some l) (he : e = .returned (.tuple #[v, .bool true])) (ho : w'.ownsRow w.heap.size 9 1 v l.length (txts l)) (hl : l.length ≤ s.length + 1) (hb : Below w.heap.size w w') : SegOut s w e w' := .inl ⟨l, v, h, he, ho, hl, hb⟩
set_option maxRecDepth 100000 in
set_option maxHeartbeats 4000000 in
theorem segments_any (s : List UInt8) (w : World) (hs : s.length ≤ 1048576) (he : Env w) :
    Calls Tryz.prog 48 #[.string (byt s)] w (SegOut s w) := by
  have HD : Hid DecodeC := Lib.hid decodeC
  have HSP := Lib.hid (split_any s 47 w hs he)
  obtain ⟨hp1, hp2⟩ := splitOn_le 47 s
  obtain ⟨i0, hi, hi0, hi1, hi2⟩ := info_parts txt_info
  obtain ⟨P, hP⟩ : ∃ P, Urly.splitOn 47 s = P := ⟨_, rfl⟩
  have HSP2 : Hid (Calls Tryz.prog 72 #[.string (byt s), .string ⟨#[47]⟩] w (fun e w' => e = .returned (.slice (some ⟨w.heap.size, 0, none⟩) P.length P.length) ∧ w' = w.alloc (.cells (txts P).toArray 9))) := by
    have := HSP.out
    unfold SplitOut at this
    rw [hP] at this
    exact Lib.hid this
  have HQ : Hid (Urly.segments s = Urly.decs P) := Lib.hid (by unfold Urly.segments; rw [hP])
  rw [hP] at hp1 hp2
  have HP2 := Lib.hid hp2
  have HPL := Lib.hid hp1
  have HLS := Lib.hid hs
  have hPl : P.length ≤ 1048577 := by omega
  obtain ⟨S, hS⟩ : ∃ S, byt s = S := ⟨_, rfl⟩
  rw [hS] at HSP2 ⊢
  clear hP hp1 hp2 hS HSP hs he
  go_enter Tryz.func48, Tryz.ntmps48
  go_wp2_with (fail)
  refine HSP2.out.mono ?_
  rintro e w1 ⟨rfl, hw1⟩
  have HBX : Hid (Box w1 w.heap.size 9 (txts P).toArray) := Lib.hid (by rw [hw1]; exact Box.new w _ _)
  have HW1 : Hid (Below w.heap.size w w1) := Lib.hid (by rw [hw1]; exact below1 w _)
  have hz1 : w.heap.size < w1.heap.size := HBX.out.lt
  clear hw1 HSP2
  go_wp2
  go_loopg [4, 12] (P.length - 0) (fun g u v wr => ∃ (k : Nat) (acc : List (List UInt8)), k ≤ P.length ∧ g = P.length - k ∧ v = .int .i64 (k : Int) ∧ SegAt P k acc ∧ wr.ownsRow w1.heap.size 9 1 u acc.length (txts acc) ∧ Below w1.heap.size w1 wr)
  case atStart => exact ⟨0, [], by omega, rfl, rfl, .start P, ⟨rfl, .inl ⟨rfl, rfl⟩⟩, Below.refl _ _⟩
  case round =>
    obtain ⟨k, acc, hk, hg, rfl, ha, ho, hw⟩ := hrel
    have HG := Lib.hid hg
    have HA := Lib.hid ha
    have HW := Lib.hid hw
    have HO := Lib.hid ho
    have hacc : acc.length ≤ k := ha.2
    have hzr := hw.size
    clear hg ha hw ho
    by_cases hlt : k < P.length
    · obtain ⟨p, hp⟩ : ∃ p, P[k]? = some p := ⟨_, List.getElem?_eq_getElem hlt⟩
      have hl1 : decide ((k : Int) < (P.length : Int)) = true := decide_eq_true (by omega)
      have hl2 : (k : Int) < (P.length : Int) := by omega
      have hc : wr.cell? ⟨w.heap.size, k, none⟩ = some (.string (byt p)) := by
        rw [HW.out.cell (p := ⟨w.heap.size, k, none⟩) hz1, HBX.out.cell k]
        exact txts_at hp
      have HDC := Lib.hid (HD.out p wr (by have := HP2.out p (List.mem_of_getElem? hp); have := HLS.out; omega))
      have HPP := Lib.hid hp
      clear hp
      obtain ⟨X, hX⟩ : ∃ X, byt p = X := ⟨_, rfl⟩
      rw [hX] at hc HDC
      clear hX
      cases hd : Urly.dec p with
      | none =>
        have HDD : Hid (Calls Tryz.prog 73 #[.string X] wr (fun e w' => e = .returned (.tuple #[.string (byt []), .int .i64 3]) ∧ Below wr.heap.size wr w')) := Lib.hid (by have := HDC.out; unfold DecOut at this; rw [hd] at this; exact this)
        have HF : Hid (Urly.segments s = none) := Lib.hid (by rw [HQ.out]; exact HA.out.bad HPP.out hd)
        clear hd HDC
        go_wp2_with (fail)
        refine HDD.out.mono ?_
        rintro e w2 ⟨rfl, hw2⟩
        have HW2 := Lib.hid (HW.out.trans (hw2.mono hzr))
        clear hw2
        go_wp2
        go_returns
        exact segOut_no HF.out rfl (HW1.out.trans (HW2.out.mono (by omega)))
      | some d =>
        have HDD : Hid (Calls Tryz.prog 73 #[.string X] wr (fun e w' => e = .returned (.tuple #[.string (byt d), .int .i64 0]) ∧ Below wr.heap.size wr w')) := Lib.hid (by have := HDC.out; unfold DecOut at this; rw [hd] at this; exact this)
        have HF := Lib.hid (HA.out.more HPP.out hd)
        clear hd HDC
        go_wp2_with (fail)
        refine HDD.out.mono ?_
        rintro e w2 ⟨rfl, hw2⟩
        have HO2 := Lib.hid (own_below HO.out hw2)
        have HW2 := Lib.hid (HW.out.trans (hw2.mono hzr))
        have hz2 := HW2.out.size
        clear hw2
        obtain ⟨D, hD⟩ : ∃ D, byt d = D := ⟨_, rfl⟩
        have HDD2 := Lib.hid hD
        rw [hD]
        clear hD
        go_wp2_with (at_builtin; refine wpList_append_own _ rfl (.tmp 23) (.tmp 25) 33 rfl w1.heap.size 9 i0 (.string ByteArray.empty) 1 16 Tryz.underlying33 hi hi0 hi1 hi2 rfl (by decide) u4 acc.length (txts acc) rfl (HO2.out.alloc _) ⟨w2.heap.size, 0, none⟩ 1 1 [.string D] rfl rfl (one_new _ _ _ _ rfl) (one_text _) ?c3 ?c4 ?c5 ?_)
        case c3 => unfold maxLen; omega
        case c4 => omega
        case c5 => simp; omega
        intro v' w3 hown' hgrow _
        have HOW := Lib.hid hown'
        have HGR := Lib.hid hgrow
        clear hown' hgrow
        go_wp2
        go_roundg (P.length - (k + 1))
        case measure => rw [HG.out]; omega
        case rel =>
          refine ⟨k + 1, acc ++ [d], by omega, rfl, by go_num, HF.out, ?_, ?_⟩
          · have := HOW.out
            rw [txts_snoc, HDD2.out]
            simpa using this
          · exact grown_below (HW2.out.alloc hz2 _) HGR.out (HO2.out.alloc _) (by simp; omega)
    · have hl1 : decide ((k : Int) < (P.length : Int)) = false := decide_eq_false (by omega)
      have hl2 : ¬ (k : Int) < (P.length : Int) := by omega
      have HF : Hid (Urly.segments s = some acc) := Lib.hid (by rw [HQ.out]; exact HA.out.done (by omega))
      go_wp2
      go_returns
      exact segOut_yes HF.out rfl (own_base HO.out (by omega)) (by have := HPL.out; omega) (HW1.out.trans (HW.out.mono (by omega)))
end Go.Proofs.YtdolmjeiakdfhaaGreatDoor
