/-
  Texts that the law leans on: JlA, JlS, JlB, JlC, JlD, JlE. Conditions: as each says.
-/
import Derived.Test.YtonjdlialejedaaGreatDoorXAc
import Derived.WalkKit
import Derived.WalkSpells
import Derived.Deep.QuietTactic
import Derived.BigQuiet
import Derived.Below
import Derived.Lib.Hide
import Derived.Handy
import Derived.Test.YtonjdlialejedaaGreatDoorXAb
import Derived.Test.YtonjdlialejedaaGreatDoorShelf
import Derived.WalkSmall
import Derived.Lib.Space
import Derived.Deep.LoopGhost
import Derived.Outline
import Derived.Test.YtonjdlialejedaaGreatDoorXAa
set_option linter.unusedSimpArgs false
set_option linter.unusedVariables false
namespace Go.Proofs.YtonjdlialejedaaGreatDoor.Jl
open Go.Lib (hid)
open Go.RowKit
theorem run_at (s : ByteArray) (c : UInt8) (i : Int) (h0 : 0 ≤ i) (h : s.data.toList[i.toNat]? = some c) (w : World) :
  (Instr.index 9 (.string s) (.int .i64 i)).run Tryz.prog w = .ok (.int .u8 (c.toNat : Int)) w := by
 have hlt : i.toNat < s.size := by
  have := (List.getElem?_eq_some_iff.1 h).1
  simpa using this
 have hg : s[i.toNat]'hlt = c := by
  obtain ⟨h1, h2⟩ := List.getElem?_eq_some_iff.1 h
  rw [← h2]; rfl
 rw [run_index_string (P := Tryz.prog) w 9 s .i64 i Tryz.underlying9]
 rw [dif_pos ⟨by omega, by omega⟩]
 simp only [hg]
set_option maxHeartbeats 400000 in
theorem peek_in (b : Nat) (s : ByteArray) (k j : Nat) (c : UInt8) (w : World) (hs : w.cell? ⟨b, 0, none⟩ = some (.string s)) (hk : w.cell? ⟨b, 1, none⟩ = some (.int .i64 k))
  (hm : s.size ≤ 1000000) (hj : j ≤ 1000) (hkm : k ≤ 1000000) (hlt : k + j < s.size) (hc : s.data.toList[k + j]? = some c) :
  Calls Tryz.prog 38 #[.pointer (some ⟨b, 0, none⟩), .int .i64 j] w fun e w' => e = .returned (.int .u8 c.toNat) ∧ ∃ n, w' = w.drewN n := by
 have hi := fun w => run_at s c ((k : Int) + (j : Int)) (by omega) (by rw [show ((k : Int) + (j : Int)).toNat = k + j by omega]; exact hc) w
 have h1 : decide ((k : Int) + j < s.size) = true := by simp; omega
 go_enter Tryz.func38, Tryz.ntmps38
 go_wp2
 go_quiet (fail)
 go_wp2
 go_quiet (fail)
 go_wp2
 go_ret
 exact ⟨rfl, _, World.drewN_drewN _ _ _⟩
set_option maxHeartbeats 400000 in
theorem peek_out (b : Nat) (s : ByteArray) (k j : Nat) (w : World) (hs : w.cell? ⟨b, 0, none⟩ = some (.string s)) (hk : w.cell? ⟨b, 1, none⟩ = some (.int .i64 k))
  (hm : s.size ≤ 1000000) (hj : j ≤ 1000) (hkm : k ≤ 1000000) (hge : s.size ≤ k + j) :
  Calls Tryz.prog 38 #[.pointer (some ⟨b, 0, none⟩), .int .i64 j] w fun e w' => e = .returned (.int .u8 0) ∧ ∃ n, w' = w.drewN n := by
 have h1 : decide ((k : Int) + j < s.size) = false := by simp; omega
 go_enter Tryz.func38, Tryz.ntmps38
 go_wp2
 go_quiet (fail)
 go_wp2
 go_ret
 exact ⟨rfl, _, rfl⟩
end Go.Proofs.YtonjdlialejedaaGreatDoor.Jl
namespace Go.Proofs.YtonjdlialejedaaGreatDoor.Jl
open Go.Lib (hid)
open Go.RowKit
theorem index_byte (s : ByteArray) (c : Int) (w : World) :
  Calls Tryz.prog 39 #[.string s, .int .u8 c] w fun e w' => e = .returned (.int .i64 (Lib.indexByte s.data.toList c.toNat.toUInt8)) ∧ w' = w := Tryz.strings_IndexByte s c w
def Env (w : World) : Prop := Lib.TabIs Tryz.prog w "strings.asciiSpace" .u8 Lib.asciiSpaceTab
theorem gSpace : Tryz.prog.globalNamed "strings.asciiSpace" = some 0 := by kernel_rfl
theorem Env.below {w w' : World} (h : Env w) {B : Nat} (hb : Below B w w') (hB : 4 ≤ B) : Env w' := var?_below hb gSpace (by omega) h
theorem Env.upd {w w' : World} (h : Env w) {b : Nat} (hu : Upd w w' b) (hb : 4 ≤ b) (hlt : b ≤ w.heap.size) : Env w' := h.below (hu.own (Nat.le_refl b) hlt) hb
theorem Env.drewN {w : World} (h : Env w) (n : Nat) : Env (w.drewN n) := h
theorem Env.alloc {w : World} (h : Env w) (hB : 4 ≤ w.heap.size) (o : Obj) : Env (w.alloc o) := h.below ((Below.refl _ _).alloc (Nat.le_refl _) o) hB
def bytes (l : Lexy.Bs) : ByteArray := ⟨l.toArray⟩
def kwText : Lexy.Bs := [108, 101, 116, 32, 102, 110, 32, 105, 102, 32, 101, 108, 115, 101, 32, 119, 104, 105, 108, 101, 32, 102, 111, 114, 32, 111, 102, 32, 114, 101, 116, 117, 114, 110, 32, 98, 114, 101, 97, 107, 32, 99, 111, 110, 116, 105, 110, 117, 101, 32, 116, 104, 114, 111, 119, 32, 116, 114, 121, 32, 99, 97, 116, 99, 104, 32, 102, 105, 110, 97, 108, 108, 121, 32, 116, 114, 117, 101, 32, 102, 97, 108, 115, 101, 32, 110, 117, 108, 108]
theorem kw_fields : Lib.fields kwText = Lexy.kws := by decide +kernel
def sgText : Lexy.Bs := [61, 61, 32, 33, 61, 32, 60, 61, 32, 62, 61, 32, 38, 38, 32, 124, 124, 32, 61, 32, 33, 32, 60, 32, 62, 32, 43, 32, 45, 32, 42, 32, 47, 32, 37, 32, 40, 32, 41, 32, 91, 32, 93, 32, 123, 32, 125, 32, 44, 32, 59, 32, 58, 32, 46, 32, 63]
theorem sg_fields : Lib.fields sgText = Lexy.signs := by decide +kernel
def wordCells (ls : List Lexy.Bs) : Array Value := (ls.map fun l => Value.string ⟨l.toArray⟩).toArray
theorem ascii_of {l : Lexy.Bs} (h : (l.all fun b => decide (b.toNat < 128)) = true) : ∀ (j : Nat) b, (bytes l).data.toList[j]? = some b → b.toNat < 128 := by
 intro j b hb
 have hm : b ∈ l := List.mem_of_getElem? hb
 simpa using List.all_eq_true.1 h b hm
theorem fields_kw (w : World) (he : Env w) :
  Calls Tryz.prog 15 #[.string (bytes kwText)] w fun e w' => e = .returned (.slice (some ⟨w.heap.size, 0, none⟩) 17 17) ∧ w' = w.alloc (.cells (wordCells Lexy.kws) 9) := by
 have h := Tryz.strings_Fields (bytes kwText) w (by decide) (ascii_of (by decide +kernel)) he
 have e : (bytes kwText).data.toList = kwText := rfl
 rw [e, kw_fields] at h
 exact h
theorem fields_sg (w : World) (he : Env w) :
  Calls Tryz.prog 15 #[.string (bytes sgText)] w fun e w' => e = .returned (.slice (some ⟨w.heap.size, 0, none⟩) 26 26) ∧ w' = w.alloc (.cells (wordCells Lexy.signs) 9) := by
 have h := Tryz.strings_Fields (bytes sgText) w (by decide) (ascii_of (by decide +kernel)) he
 have e : (bytes sgText).data.toList = sgText := rfl
 rw [e, sg_fields] at h
 exact h
theorem contains_words (ls : List Lexy.Bs) (n : Nat) (hn : n = ls.length) (hs : n ≤ 1000) (x : ByteArray) (b : Nat) (w : World) (hc : Box w b 9 (wordCells ls)) :
  Calls Tryz.prog 75 #[.slice (some ⟨b, 0, none⟩) n n, .string x] w fun e w' => e = .returned (.bool (decide (x.data.toList ∈ ls))) ∧ w = w' := by
 subst hn
 have h := Tryz.slices_Contains_string b 0 ls.length ls.length (ls.map bytes) x w (by simp) (by omega) (fun j hj => by
  rw [Nat.zero_add, hc.cell j]
  simp only [List.length_map] at hj
  simp [wordCells, bytes, hj])
 refine h.mono fun e w' ⟨he, hw⟩ => ⟨?_, hw.symm⟩
 rw [he]
 congr 2
 rw [List.take_of_length_le (by simp), Bool.eq_iff_iff, Lib.containsS_iff, decide_eq_true_iff]
 constructor
 ·intro hm
  obtain ⟨l, hl, rfl⟩ := List.mem_map.1 hm
  exact hl
 ·intro hm
  refine List.mem_map.2 ⟨_, hm, ?_⟩
  simp [bytes]
end Go.Proofs.YtonjdlialejedaaGreatDoor.Jl
namespace Go.Proofs.YtonjdlialejedaaGreatDoor.Jl
open Go.Lib (hid)
open Go.RowKit
def Rd (w : World) (b : Nat) (s : ByteArray) (k : Nat) (o : Value) : Prop := Box w b 65 #[.string s, .int .i64 (k : Int), o]
section
variable {w : World} {b k : Nat} {s : ByteArray} {o : Value}
theorem Rd.text (h : Rd w b s k o) : w.cell? ⟨b, 0, none⟩ = some (.string s) := by have := Box.cell h 0; simpa using this
theorem Rd.place (h : Rd w b s k o) : w.cell? ⟨b, 1, none⟩ = some (.int .i64 (k : Int)) := by have := Box.cell h 1; simpa using this
theorem Rd.told (h : Rd w b s k o) : w.cell? ⟨b, 2, none⟩ = some o := by have := Box.cell h 2; simpa using this
theorem Rd.free (h : Rd w b s k o) (i : Nat) : w.frozen? ⟨b, i, none⟩ = false := Box.frozen h i
theorem Rd.drewN (h : Rd w b s k o) (n : Nat) : Rd (w.drewN n) b s k o := h
theorem Rd.moveI (h : Rd w b s k o) (v : Int) (j : Nat) (e : v = (j : Int)) : Rd (w.setCell ⟨b, 1, none⟩ (.int .i64 v)) b s j o := by
 subst e
 have := Box.set h 1 (.int .i64 (j : Int)); simpa [Rd] using this
theorem Rd.move (h : Rd w b s k o) (j : Nat) : Rd (w.setCell ⟨b, 1, none⟩ (.int .i64 (j : Int))) b s j o := by
 have := Box.set h 1 (.int .i64 (j : Int)); simpa [Rd] using this
end
theorem blank_cases {c : UInt8} (h : Lexy.isBlank c = true) : c = 32 ∨ c = 9 ∨ c = 10 ∨ c = 13 := by
 simp only [Lexy.isBlank, Bool.or_eq_true, beq_iff_eq] at h
 rcases h with ((h | h) | h) | h <;> simp [h]
theorem nblank_ne {c : UInt8} (h : ¬ Lexy.isBlank c = true) : ((c.toNat : Int) == 32) = false ∧ ((c.toNat : Int) == 9) = false ∧ ((c.toNat : Int) == 10) = false ∧ ((c.toNat : Int) == 13) = false := by
 have hn : ∀ d : UInt8, c ≠ d → ((c.toNat : Int) == (d.toNat : Int)) = false := fun d hd => by
  have : c.toNat ≠ d.toNat := fun e => hd (UInt8.toNat_inj.1 e)
  simp; omega
 simp only [Lexy.isBlank, Bool.or_eq_true, beq_iff_eq, not_or] at h
 exact ⟨hn 32 h.1.1.1, hn 9 h.1.1.2, hn 10 h.1.2, hn 13 h.2⟩
theorem byte_ne {c d : UInt8} (h : c ≠ d) : ((c.toNat : Int) == (d.toNat : Int)) = false := by
 have : c.toNat ≠ d.toNat := fun e => h (UInt8.toNat_inj.1 e)
 simp; omega
theorem skp_comment : ∀ r : Lexy.Bs, Lexy.skp true r = if Lib.indexByte r 10 < 0 then r.length else (Lib.indexByte r 10).toNat + Lexy.skp false (r.drop (Lib.indexByte r 10).toNat) := by
 intro r
 induction r with
 | nil => simp [Lexy.skp, Lib.indexByte]
 | cons c r ih =>
  have hge := Lib.indexByte_ge r 10
  by_cases hc : (c == 10) = true
  ·have e : Lib.indexByte (c :: r) 10 = 0 := by simp [Lib.indexByte, hc]
   simp only [e]
   simp [Lexy.skp, Lexy.isBlank, eq_of_beq hc]
  ·have e1 : Lexy.skp true (c :: r) = 1 + Lexy.skp true r := by simp [Lexy.skp, hc]
   rw [e1, ih]
   by_cases hn : Lib.indexByte r 10 = -1
   ·have e : Lib.indexByte (c :: r) 10 = -1 := by simp [Lib.indexByte, hc, hn]
    simp only [e, hn]
    simp; omega
   ·have e : Lib.indexByte (c :: r) 10 = Lib.indexByte r 10 + 1 := by simp [Lib.indexByte, hc, hn]
    simp only [e]
    rw [if_neg (by omega), if_neg (by omega)]
    rw [show (Lib.indexByte r 10 + 1).toNat = (Lib.indexByte r 10).toNat + 1 by omega, List.drop_succ_cons]
    omega
theorem indexByte_lt (r : Lexy.Bs) (c : UInt8) : Lib.indexByte r c ≤ r.length := by
 induction r with
 | nil => simp [Lib.indexByte]
 | cons d r ih => simp only [Lib.indexByte, List.length_cons]; split <;> (try split) <;> omega
set_option maxRecDepth 100000 in
set_option maxHeartbeats 1000000 in
theorem skip_any (b : Nat) (s : ByteArray) (k : Nat) (o : Value) (w : World) (h : Rd w b s k o) (hk : k ≤ s.size) (hm : s.size ≤ 1000000) :
  Calls Tryz.prog 23 #[.pointer (some ⟨b, 0, none⟩)] w fun e w' =>
   e = .returned (.tuple #[]) ∧ Rd w' b s (k + Lexy.skp false (s.data.toList.drop k)) o ∧ Upd w w' b := by
 obtain ⟨l, hl⟩ : ∃ l, s.data.toList = l := ⟨_, rfl⟩
 have hsz : l.length = s.size := by rw [← hl]; simp
 rw [hl]
 obtain ⟨T, hT⟩ : ∃ T, k + Lexy.skp false (l.drop k) = T := ⟨_, rfl⟩
 rw [hT]
 have HL := hid hl; clear hl
 have HT := hid hT; clear hT
 have HS := hid hsz; clear hsz
 go_enter Tryz.func23, Tryz.ntmps23
 go_wp2
 go_loopg [] (s.size - k) (fun g wr => ∃ k', k' ≤ s.size ∧ g = s.size - k' ∧ Rd wr b s k' o ∧ Upd w wr b ∧ Hid (k' + Lexy.skp false (l.drop k') = T))
 case atStart => exact ⟨k, hk, rfl, h, Upd.refl _ _, HT⟩
 case round =>
  obtain ⟨k', hk', hg, hr, hu, H⟩ := hrel
  have HG := hid hg; clear hg
  have hs0 := hr.text; have hp0 := hr.place; have hf := hr.free 1
  by_cases hlt : k' < s.size
  ·obtain ⟨c, hc⟩ : ∃ c, l[k']? = some c := ⟨_, List.getElem?_eq_getElem (by rw [HS.out]; exact hlt)⟩
   have hl1 : decide ((k' : Int) < s.size) = true := by simp; omega
   have hi := fun w => run_at s c (k' : Int) (by omega) (by rw [HL.out]; exact hc) w
   have hd : l.drop k' = c :: l.drop (k' + 1) := by
    obtain ⟨h1, h2⟩ := List.getElem?_eq_some_iff.1 hc
    rw [List.drop_eq_getElem_cons h1, h2]
   have HC := hid hc; clear hc
   have HD := hid hd; clear hd
   by_cases hb : Lexy.isBlank c = true
   ·have HB := hid hb
    have H1 : Hid (k' + 1 + Lexy.skp false (l.drop (k' + 1)) = T) := by
     have := H.out; rw [HD.out] at this; simp only [Lexy.skp, HB.out, if_true] at this; exact hid (by omega)
    rcases blank_cases hb with rfl | rfl | rfl | rfl
    all_goals
     clear hb
     go_wp2
     go_quiet (fail)
     go_wp2
     go_quiet (fail)
     go_wp2
     go_roundg (s.size - (k' + 1))
     case measure => rw [HG.out]; omega
     case rel => exact ⟨k' + 1, by omega, rfl, (hr.drewN _).move (k' + 1), (hu.drewN _).set (.inl rfl) _, H1⟩
   ·have hnb := nblank_ne hb
    obtain ⟨n1, n2, n3, n4⟩ := hnb
    by_cases h47 : c = 47
    ·subst h47
     clear n1 n2 n3 n4
     by_cases h2 : l[k' + 1]? = some 47
     ·have hlt2 : k' + 1 < s.size := by rw [← HS.out]; exact (List.getElem?_eq_some_iff.1 h2).1
      have HPK := hid (fun w h0 h1 => peek_in b s k' 1 47 w h0 h1 hm (by omega) (by omega) hlt2 (by rw [HL.out]; exact h2))
      obtain ⟨N, hN⟩ : ∃ N, Lib.indexByte (l.drop k') 10 = N := ⟨_, rfl⟩
      have hNge := Lib.indexByte_ge (l.drop k') 10
      have hNle := indexByte_lt (l.drop k') 10
      have HT2 : Hid (Lexy.skp true (l.drop k') = Lexy.skp false (l.drop k')) := by
       have e2 : (l.drop (k' + 1)).head? = some 47 := by rw [List.head?_drop]; exact h2
       rw [HD.out]; simp [Lexy.skp, Lexy.isBlank, e2, Hid]
      have hex : (s.extract k' s.size).data.toList = l.drop k' := by
       rw [← HL.out]; simp; exact List.take_of_length_le (by simp)
      have HIB : Hid (∀ w, Calls Tryz.prog 39 #[.string (s.extract k' s.size), .int .u8 10] w fun e w' => e = .returned (.int .i64 N) ∧ w' = w) := by
       intro w
       have := index_byte (s.extract k' s.size) 10 w
       rw [hex] at this
       rw [← hN]; exact this
      have hlen : (l.drop k').length = s.size - k' := by rw [List.length_drop, HS.out]
      have hcm := skp_comment (l.drop k')
      rw [HT2.out] at hcm
      simp only [hN] at hcm
      rw [hlen] at hcm
      have HTT := H.out
      rw [hcm] at HTT
      rw [hN] at hNge hNle
      rw [hlen] at hNle
      have HN0 := hid hN
      clear hN hex hcm hlen h2 hb
      by_cases hN0 : N < 0
      ·rw [if_pos hN0] at HTT
       have HTT2 : Hid (s.size + Lexy.skp false (l.drop s.size) = T) := by
        have e : l.drop s.size = [] := List.drop_eq_nil_of_le (by rw [HS.out]; omega)
        rw [e]; simp only [Lexy.skp]; exact hid (by omega)
       clear HTT
       have hnn : decide (N < 0) = true := by simpa using hN0
       go_wp2
       go_quiet (fail)
       go_wp2
       go_quiet (fail)
       go_wp2_with fail
       refine (HPK.out _ (by go_simp) (by go_simp)).mono ?_
       rintro e w1 ⟨rfl, n1, rfl⟩
       go_wp2_with fail
       go_quiet ((go_at_call 39; exact quiet_more_same (HIB.out _)))
       go_wp2_with fail
       go_quiet (fail)
       go_wp2_with fail
       go_roundg 0
       case measure => rw [HG.out]; omega
       case rel => exact ⟨s.size, Nat.le_refl _, by omega, (hr.drewN _).moveI _ s.size (by omega), (hu.drewN _).set (.inl rfl) _, HTT2⟩
      ·rw [if_neg hN0] at HTT
       obtain ⟨m, rfl⟩ : ∃ m : Nat, N = (m : Int) := ⟨N.toNat, by omega⟩
       have hm2 : m ≤ s.size - k' := by omega
       have hm0 : 0 < m := by
        have h1 := HN0.out
        rcases Nat.eq_zero_or_pos m with h | h
        ·subst h; exact absurd h1 (by rw [HD.out]; simp [Lib.indexByte]; split <;> omega)
        ·exact h
       have HTT2 : Hid (k' + m + Lexy.skp false (l.drop (k' + m)) = T) := by
        rw [List.drop_drop] at HTT; simp only [Int.toNat_natCast] at HTT; exact hid (by omega)
       clear HTT
       have hnn : decide ((m : Int) < 0) = false := by simp
       go_wp2
       go_quiet (fail)
       go_wp2
       go_quiet (fail)
       go_wp2_with fail
       refine (HPK.out _ (by go_simp) (by go_simp)).mono ?_
       rintro e w1 ⟨rfl, n1, rfl⟩
       go_wp2_with fail
       go_quiet ((go_at_call 39; exact quiet_more_same (HIB.out _)))
       go_wp2_with fail
       go_roundg (s.size - (k' + m))
       case measure => rw [HG.out]; omega
       case rel => exact ⟨k' + m, by omega, rfl, (hr.drewN _).moveI _ (k' + m) (by omega), (hu.drewN _).set (.inl rfl) _, HTT2⟩
     ·have HT2 : Hid (k' = T) := by
       have := H.out; rw [HD.out] at this; simp only [Lexy.skp] at this
       rw [if_neg hb, if_neg (by rw [List.head?_drop]; simp [h2])] at this; exact this
      have HPK : Hid (∀ w : World, w.cell? ⟨b, 0, none⟩ = some (.string s) → w.cell? ⟨b, 1, none⟩ = some (.int .i64 k') →
        ∃ d : UInt8, ((d.toNat : Int) == 47) = false ∧ Calls Tryz.prog 38 #[.pointer (some ⟨b, 0, none⟩), .int .i64 1] w fun e w' => e = .returned (.int .u8 d.toNat) ∧ ∃ n, w' = w.drewN n) := by
       intro w h0 h1
       by_cases hlt2 : k' + 1 < s.size
       ·have hx : k' + 1 < l.length := by rw [HS.out]; exact hlt2
        have hg : l[k' + 1]? = some l[k' + 1] := List.getElem?_eq_getElem hx
        refine ⟨l[k' + 1], byte_ne (d := 47) (fun e => h2 (by rw [hg, e])), ?_⟩
        exact peek_in b s k' 1 _ w h0 h1 hm (by omega) (by omega) hlt2 (by rw [HL.out]; exact hg)
       ·exact ⟨0, by decide, peek_out b s k' 1 w h0 h1 hm (by omega) (by omega) (by omega)⟩
      clear hb h2
      go_wp2
      go_quiet (fail)
      go_wp2
      go_quiet (fail)
      go_wp2_with fail
      obtain ⟨d, hd47, hcall⟩ := HPK.out (wr.drewN (_ + _)) (by go_simp) (by go_simp)
      have HCL := hid hcall
      clear hcall
      refine (HCL.out).mono ?_
      rintro e w1 ⟨rfl, n1, rfl⟩
      go_wp2
      refine bodyPost_ret (results_none rfl _ _ _) rfl ?_
      refine ⟨rfl, ?_, hu.drewN _⟩
      rw [← HT2.out]; exact hr
    ·have n5 : ((c.toNat : Int) == 47) = false := byte_ne h47
     have HT2 : Hid (k' = T) := by
      have := H.out; rw [HD.out] at this; simp only [Lexy.skp] at this
      rw [if_neg hb, if_neg (by simp [h47])] at this; exact this
     clear hb
     go_wp2
     go_quiet (fail)
     go_wp2
     go_quiet (fail)
     go_wp2
     refine bodyPost_ret (results_none rfl _ _ _) rfl ?_
     refine ⟨rfl, ?_, hu.drewN _⟩
     rw [← HT2.out]; exact hr
  ·have hl1 : decide ((k' : Int) < s.size) = false := by simp; omega
   go_wp2
   go_quiet (fail)
   go_wp2
   refine bodyPost_end (results_none rfl _ _ _) rfl ?_
   refine ⟨rfl, ?_, hu.drewN _⟩
   have e : l.drop k' = [] := List.drop_eq_nil_of_le (by rw [HS.out]; omega)
   have e2 := H.out
   rw [e] at e2
   simp only [Lexy.skp] at e2
   rw [← e2]; exact hr
end Go.Proofs.YtonjdlialejedaaGreatDoor.Jl
namespace Go.Proofs.YtonjdlialejedaaGreatDoor.Jl
open Go.Lib (hid)
open Go.RowKit
theorem ret_bool {a b : Bool} (h : a = b) : Ending.returned (.bool a) = .returned (.bool b) := by rw [h]
theorem letter_any (c : UInt8) (w : World) : Calls Tryz.prog 40 #[.int .u8 (c.toNat : Int)] w fun e w' => e = .returned (.bool (Lexy.isLetter c)) ∧ w = w' := by
 have h0 : (0 : Int) ≤ (c.toNat : Int) := by omega
 have h1 : (c.toNat : Int) ≤ 255 := by have := c.toNat_lt; omega
 have e95 : (c == 95) = ((c.toNat : Int) == 95) := by
  rw [Bool.eq_iff_iff]; simp only [beq_iff_eq]; rw [← UInt8.toNat_inj]; simp; omega
 have hd : ∀ a b : Nat, Lexy.isLetter c = ((decide (97 ≤ (c.toNat : Int)) && decide ((c.toNat : Int) ≤ 122)) || (decide (65 ≤ (c.toNat : Int)) && decide ((c.toNat : Int) ≤ 90)) || ((c.toNat : Int) == 95)) := by
  intro a b
  unfold Lexy.isLetter
  rw [e95]
  congr 1
  congr 1 <;> congr 1 <;> exact decide_eq_decide.2 (by omega)
 rw [hd 0 0]
 clear hd e95
 obtain ⟨n, hn⟩ : ∃ n : Int, (c.toNat : Int) = n := ⟨_, rfl⟩
 rw [hn] at h0 h1 ⊢
 clear hn
 go_enter Tryz.func40, Tryz.ntmps40
 go_wp2
 all_goals go_ret
 all_goals exact ⟨ret_bool (by first | rfl | (rw [Bool.eq_iff_iff]; first | (simp; done) | (simp; omega))), rfl⟩
theorem digit_any (c : UInt8) (w : World) : Calls Tryz.prog 42 #[.int .u8 (c.toNat : Int)] w fun e w' => e = .returned (.bool (Lexy.isDigit c)) ∧ w = w' := by
 have hd : ∀ a b : Nat, Lexy.isDigit c = (decide (48 ≤ (c.toNat : Int)) && decide ((c.toNat : Int) ≤ 57)) := by
  intro a b
  unfold Lexy.isDigit
  congr 1 <;> exact decide_eq_decide.2 (by omega)
 rw [hd 0 0]
 clear hd
 obtain ⟨n, hn⟩ : ∃ n : Int, (c.toNat : Int) = n := ⟨_, rfl⟩
 rw [hn]
 go_enter Tryz.func42, Tryz.ntmps42
 go_wp2
 all_goals go_ret
 all_goals exact ⟨ret_bool (by first | rfl | (rw [Bool.eq_iff_iff]; first | (simp; done) | (simp; omega))), rfl⟩
theorem tw_cons {p : UInt8 → Bool} {c : UInt8} {r : Lexy.Bs} (h : p c = true) : ((c :: r).takeWhile p).length = 1 + (r.takeWhile p).length := by
 simp [h]; omega
theorem tw_stop {p : UInt8 → Bool} {c : UInt8} {r : Lexy.Bs} (h : p c = false) : ((c :: r).takeWhile p).length = 0 := by
 simp [h]
theorem tw_len (p : UInt8 → Bool) (l : Lexy.Bs) : (l.takeWhile p).length ≤ l.length := List.Sublist.length_le (List.takeWhile_sublist _)
end Go.Proofs.YtonjdlialejedaaGreatDoor.Jl
namespace Go.Proofs.YtonjdlialejedaaGreatDoor.Jl
open Go.Lib (hid)
open Go.RowKit
set_option maxRecDepth 100000 in
set_option maxHeartbeats 1000000 in
theorem run_digit (b : Nat) (s : ByteArray) (k : Nat) (o : Value) (w : World) (h : Rd w b s k o) (hk : k ≤ s.size) (hm : s.size ≤ 1000000) :
  Calls Tryz.prog 73 #[.pointer (some ⟨b, 0, none⟩), .func (.func 42) #[] #[]] w fun e w' =>
   e = .returned (.string (s.extract k (k + ((s.data.toList.drop k).takeWhile Lexy.isDigit).length))) ∧ Rd w' b s (k + ((s.data.toList.drop k).takeWhile Lexy.isDigit).length) o ∧ Upd w w' b := by
 obtain ⟨l, hl⟩ : ∃ l, s.data.toList = l := ⟨_, rfl⟩
 have hsz : l.length = s.size := by rw [← hl]; simp
 rw [hl]
 obtain ⟨M, hT⟩ : ∃ M, ((l.drop k).takeWhile Lexy.isDigit).length = M := ⟨_, rfl⟩
 have hM : k + M ≤ s.size := by
  have := tw_len Lexy.isDigit (l.drop k); rw [hT, List.length_drop, hsz] at this; omega
 rw [hT]
 have HL := hid hl; clear hl
 have HT := hid hT; clear hT
 have HS := hid hsz; clear hsz
 have hp0 := h.place
 go_enter Tryz.func73, Tryz.ntmps73
 go_wp2
 go_loopg [] M (fun g wr => ∃ j, g = M - j ∧ j ≤ M ∧ Rd wr b s (k + j) o ∧ Upd w wr b ∧ Hid (j + ((l.drop (k + j)).takeWhile Lexy.isDigit).length = M))
 case atStart => exact ⟨0, rfl, Nat.zero_le _, h, Upd.refl _ _, hid (by rw [Nat.zero_add]; exact HT.out)⟩
 case round =>
  obtain ⟨j, hg, hjM, hr, hu, H⟩ := hrel
  have HG := hid hg; clear hg
  clear hp0
  obtain ⟨k', hk'⟩ : ∃ k', k + j = k' := ⟨_, rfl⟩
  rw [hk'] at hr H
  have HK := hid hk'
  have hkk : k' ≤ s.size := by omega
  clear hk'
  have hs0 := hr.text; have hp0 := hr.place; have hf := hr.free 1
  by_cases hlt : k' < s.size
  ·obtain ⟨c, hc⟩ : ∃ c, l[k']? = some c := ⟨_, List.getElem?_eq_getElem (by rw [HS.out]; exact hlt)⟩
   have hl1 : decide ((k' : Int) < s.size) = true := by simp; omega
   have hi := fun w => run_at s c (k' : Int) (by omega) (by rw [HL.out]; exact hc) w
   have hd : l.drop k' = c :: l.drop (k' + 1) := by
    obtain ⟨h1, h2⟩ := List.getElem?_eq_some_iff.1 hc
    rw [List.drop_eq_getElem_cons h1, h2]
   have HC := hid hc; clear hc
   have HD := hid hd; clear hd
   cases hpc : Lexy.isDigit c with
   | true =>
    have H1 : Hid (j + 1 + ((l.drop (k' + 1)).takeWhile Lexy.isDigit).length = M) := by
     have := H.out; rw [HD.out, tw_cons hpc] at this; exact hid (by omega)
    have hj1 : j + 1 ≤ M := by have := H1.out; omega
    have HP := hid hpc; clear hpc
    go_wp2
    go_quiet ((go_at_call 42; exact Calls.quiet_of ((digit_any c _).mono fun _ _ ⟨he, hw⟩ => ⟨by rw [he, HP.out], 0, hw.symm⟩)))
    go_wp2
    go_roundg (M - (j + 1))
    case measure => rw [HG.out]; omega
    case rel => exact ⟨j + 1, rfl, hj1, (hr.drewN _).moveI _ _ (by rw [← HK.out]; omega), (hu.drewN _).set (.inl rfl) _, by rw [← Nat.add_assoc, HK.out]; exact H1⟩
   | false =>
    have HJ : Hid (M = j) := by
     have := H.out; rw [HD.out, tw_stop hpc] at this; exact hid (by omega)
    have HP := hid hpc; clear hpc
    have hle : (k : Int) ≤ (k' : Int) := by have := HK.out; omega
    have hle2 : (k' : Int) ≤ (s.size : Int) := by omega
    go_wp2
    go_quiet ((go_at_call 42; exact Calls.quiet_of ((digit_any c _).mono fun _ _ ⟨he, hw⟩ => ⟨by rw [he, HP.out], 0, hw.symm⟩)))
    go_wp2
    go_quiet (fail)
    go_wp2
    go_ret
    rw [HJ.out, HK.out]
    exact ⟨rfl, hr, (hu.drewN _).drewN _⟩
  ·have hl1 : decide ((k' : Int) < s.size) = false := by simp; omega
   have HJ : Hid (M = j) := by
    have := H.out; rw [List.drop_eq_nil_of_le (by rw [HS.out]; omega)] at this; exact hid (by simpa using this.symm)
   have hle : (k : Int) ≤ (k' : Int) := by have := HK.out; omega
   have hle2 : (k' : Int) ≤ (s.size : Int) := by omega
   go_wp2
   go_quiet (fail)
   go_wp2
   go_quiet (fail)
   go_wp2
   go_ret
   rw [HJ.out, HK.out]
   exact ⟨rfl, hr, (hu.drewN _).drewN _⟩
theorem name1_any (c : UInt8) (w : World) : Calls Tryz.prog 74 #[.int .u8 (c.toNat : Int)] w fun e w' => e = .returned (.bool (Lexy.isNameB c)) ∧ w = w' := by
 have hd : Lexy.isNameB c = (Lexy.isLetter c || Lexy.isDigit c) := rfl
 rw [hd]
 clear hd
 have HLt := hid (fun w => letter_any c w)
 have HDg := hid (fun w => digit_any c w)
 obtain ⟨p, hp⟩ : ∃ p, Lexy.isLetter c = p := ⟨_, rfl⟩
 obtain ⟨q, hq⟩ : ∃ q, Lexy.isDigit c = q := ⟨_, rfl⟩
 rw [hp] at HLt ⊢
 rw [hq] at HDg ⊢
 clear hp hq
 cases p with
 | true =>
  go_enter Tryz.func74, Tryz.ntmps74
  go_wp2_with (go_at_call 40; refine (HLt.out _).mono ?_; rintro e w' ⟨rfl, rfl⟩)
  go_ret
  exact ⟨rfl, rfl⟩
 | false =>
  go_enter Tryz.func74, Tryz.ntmps74
  go_wp2_with (first | (go_at_call 40; refine (HLt.out _).mono ?_; rintro e w' ⟨rfl, rfl⟩) | (go_at_call 42; refine (HDg.out _).mono ?_; rintro e w' ⟨rfl, rfl⟩))
  go_ret
  exact ⟨rfl, rfl⟩
set_option maxRecDepth 100000 in
set_option maxHeartbeats 1000000 in
theorem run_name (b : Nat) (s : ByteArray) (k : Nat) (o : Value) (w : World) (h : Rd w b s k o) (hk : k ≤ s.size) (hm : s.size ≤ 1000000) :
  Calls Tryz.prog 73 #[.pointer (some ⟨b, 0, none⟩), .func (.func 74) #[] #[]] w fun e w' =>
   e = .returned (.string (s.extract k (k + ((s.data.toList.drop k).takeWhile Lexy.isNameB).length))) ∧ Rd w' b s (k + ((s.data.toList.drop k).takeWhile Lexy.isNameB).length) o ∧ Upd w w' b := by
 obtain ⟨l, hl⟩ : ∃ l, s.data.toList = l := ⟨_, rfl⟩
 have hsz : l.length = s.size := by rw [← hl]; simp
 rw [hl]
 obtain ⟨M, hT⟩ : ∃ M, ((l.drop k).takeWhile Lexy.isNameB).length = M := ⟨_, rfl⟩
 have hM : k + M ≤ s.size := by
  have := tw_len Lexy.isNameB (l.drop k); rw [hT, List.length_drop, hsz] at this; omega
 rw [hT]
 have HL := hid hl; clear hl
 have HT := hid hT; clear hT
 have HS := hid hsz; clear hsz
 have hp0 := h.place
 go_enter Tryz.func73, Tryz.ntmps73
 go_wp2
 go_loopg [] M (fun g wr => ∃ j, g = M - j ∧ j ≤ M ∧ Rd wr b s (k + j) o ∧ Upd w wr b ∧ Hid (j + ((l.drop (k + j)).takeWhile Lexy.isNameB).length = M))
 case atStart => exact ⟨0, rfl, Nat.zero_le _, h, Upd.refl _ _, hid (by rw [Nat.zero_add]; exact HT.out)⟩
 case round =>
  obtain ⟨j, hg, hjM, hr, hu, H⟩ := hrel
  have HG := hid hg; clear hg
  clear hp0
  obtain ⟨k', hk'⟩ : ∃ k', k + j = k' := ⟨_, rfl⟩
  rw [hk'] at hr H
  have HK := hid hk'
  have hkk : k' ≤ s.size := by omega
  clear hk'
  have hs0 := hr.text; have hp0 := hr.place; have hf := hr.free 1
  by_cases hlt : k' < s.size
  ·obtain ⟨c, hc⟩ : ∃ c, l[k']? = some c := ⟨_, List.getElem?_eq_getElem (by rw [HS.out]; exact hlt)⟩
   have hl1 : decide ((k' : Int) < s.size) = true := by simp; omega
   have hi := fun w => run_at s c (k' : Int) (by omega) (by rw [HL.out]; exact hc) w
   have hd : l.drop k' = c :: l.drop (k' + 1) := by
    obtain ⟨h1, h2⟩ := List.getElem?_eq_some_iff.1 hc
    rw [List.drop_eq_getElem_cons h1, h2]
   have HC := hid hc; clear hc
   have HD := hid hd; clear hd
   cases hpc : Lexy.isNameB c with
   | true =>
    have H1 : Hid (j + 1 + ((l.drop (k' + 1)).takeWhile Lexy.isNameB).length = M) := by
     have := H.out; rw [HD.out, tw_cons hpc] at this; exact hid (by omega)
    have hj1 : j + 1 ≤ M := by have := H1.out; omega
    have HP := hid hpc; clear hpc
    go_wp2
    go_quiet ((go_at_call 74; exact Calls.quiet_of ((name1_any c _).mono fun _ _ ⟨he, hw⟩ => ⟨by rw [he, HP.out], 0, hw.symm⟩)))
    go_wp2
    go_roundg (M - (j + 1))
    case measure => rw [HG.out]; omega
    case rel => exact ⟨j + 1, rfl, hj1, (hr.drewN _).moveI _ _ (by rw [← HK.out]; omega), (hu.drewN _).set (.inl rfl) _, by rw [← Nat.add_assoc, HK.out]; exact H1⟩
   | false =>
    have HJ : Hid (M = j) := by
     have := H.out; rw [HD.out, tw_stop hpc] at this; exact hid (by omega)
    have HP := hid hpc; clear hpc
    have hle : (k : Int) ≤ (k' : Int) := by have := HK.out; omega
    have hle2 : (k' : Int) ≤ (s.size : Int) := by omega
    go_wp2
    go_quiet ((go_at_call 74; exact Calls.quiet_of ((name1_any c _).mono fun _ _ ⟨he, hw⟩ => ⟨by rw [he, HP.out], 0, hw.symm⟩)))
    go_wp2
    go_quiet (fail)
    go_wp2
    go_ret
    rw [HJ.out, HK.out]
    exact ⟨rfl, hr, (hu.drewN _).drewN _⟩
  ·have hl1 : decide ((k' : Int) < s.size) = false := by simp; omega
   have HJ : Hid (M = j) := by
    have := H.out; rw [List.drop_eq_nil_of_le (by rw [HS.out]; omega)] at this; exact hid (by simpa using this.symm)
   have hle : (k : Int) ≤ (k' : Int) := by have := HK.out; omega
   have hle2 : (k' : Int) ≤ (s.size : Int) := by omega
   go_wp2
   go_quiet (fail)
   go_wp2
   go_quiet (fail)
   go_wp2
   go_ret
   rw [HJ.out, HK.out]
   exact ⟨rfl, hr, (hu.drewN _).drewN _⟩
end Go.Proofs.YtonjdlialejedaaGreatDoor.Jl
namespace Go.Proofs.YtonjdlialejedaaGreatDoor.Jl
open Go.Lib (hid)
open Go.RowKit
def tokV (t : Lexy.Tk) (lo hi : Nat) : Value := .agg #[.int .i64 (t.kind : Int), .int .i64 (lo : Int), .int .i64 (hi : Int), .string (bytes t.text), .int .i64 (t.num : Int)]
theorem h1size {w w1 : World} {o : Obj} {b : Nat} (h : Upd (w.alloc o) w1 b) : w.heap.size < w1.heap.size := by have := h.size; simp at this; omega
theorem info_tok5 : (Tryz.prog.info? 40).map (·.size) = some 5 := by kernel_rfl
theorem tok_one (a b c d : Int) (x : ByteArray) : (#[.int .i64 a, .int .i64 b, .int .i64 c, .string x, .int .i64 d] : Array Value).all (·.oneCell') = true := by simp [Value.oneCell']
set_option maxRecDepth 100000 in
set_option maxHeartbeats 1000000 in
theorem name_any (b : Nat) (s : ByteArray) (k : Nat) (o : Value) (w : World) (h : Rd w b s k o) (he : Env w) (hb : 4 ≤ b) (hk : k ≤ s.size) (hm : s.size ≤ 1000000) :
    Calls Tryz.prog 41 #[.pointer (some ⟨b, 0, none⟩)] w fun e w' =>
      e = .returned (tokV ⟨if (s.data.toList.drop k).take (Lexy.nameLen (s.data.toList.drop k)) ∈ Lexy.kws then 5 else 1, (s.data.toList.drop k).take (Lexy.nameLen (s.data.toList.drop k)), 0⟩ 0 0) ∧
      Rd w' b s (k + Lexy.nameLen (s.data.toList.drop k)) o ∧ Upd w w' b := by
  have hlt := Box.lt h
  obtain ⟨n, hn⟩ : ∃ n, Lexy.nameLen (s.data.toList.drop k) = n := ⟨_, rfl⟩
  have hrun := hid (fun w (h : Rd w b s k o) => run_name b s k o w h hk hm)
  have hn' : ((s.data.toList.drop k).takeWhile Lexy.isNameB).length = n := hn
  rw [hn'] at hrun
  rw [hn]
  obtain ⟨x, hx⟩ : ∃ x, s.extract k (k + n) = x := ⟨_, rfl⟩
  have hxl : (s.data.toList.drop k).take n = x.data.toList := by
    rw [← hx]; simp
  rw [hx] at hrun
  rw [hxl]
  have hbx : bytes x.data.toList = x := by cases x; simp [bytes]
  have HBX := hid hbx
  clear hn hn' hx hxl hbx
  have HC : Hid (∀ (w : World) (g : Nat), Box w g 9 (wordCells Lexy.kws) → Calls Tryz.prog 75 #[.slice (some ⟨g, 0, none⟩) 17 17, .string x] w fun e w' => e = .returned (.bool (decide (x.data.toList ∈ Lexy.kws))) ∧ w = w') :=
    fun w g hc => contains_words Lexy.kws 17 rfl (by omega) x g w hc
  by_cases hk2 : x.data.toList ∈ Lexy.kws
  all_goals
    first
    | (have hd : decide (x.data.toList ∈ Lexy.kws) = true := by simpa using hk2
       rw [if_pos hk2]
       rw [hd] at HC
       clear hd)
    | (have hd : decide (x.data.toList ∈ Lexy.kws) = false := by simpa using hk2
       rw [if_neg hk2]
       rw [hd] at HC
       clear hd)
    clear hk2
    go_enter Tryz.func41, Tryz.ntmps41
    go_wp2_with fail
    refine (hrun.out _ (Box.alloc h _)).mono ?_
    rintro e w1 ⟨rfl, hr1, hu1⟩
    go_wp2_with fail
    have hsz := h1size hu1
    have he1 : Env w1 := (he.alloc (by omega) _).upd hu1 hb (by simp; omega)
    have hx1 : Box w1 w.heap.size 40 #[.int .i64 0, .int .i64 0, .int .i64 0, .string ⟨#[]⟩, .int .i64 0] := Box.grown (Box.new w _ _) hu1 (by simp; omega)
    refine (fields_kw _ he1).mono ?_
    rintro e w2 ⟨rfl, rfl⟩
    go_wp2_with fail
    refine (HC.out _ _ (Box.new w1 _ _)).mono ?_
    rintro e w3 ⟨rfl, rfl⟩
    have hx2 := Box.alloc hx1 (.cells (wordCells Lexy.kws) 9)
    go_wp2_with (refine wpList_store_box rfl 40 (.tmp 2) (.tmp 12) rfl w.heap.size #[.int .i64 _, .int .i64 0, .int .i64 0, .string x, .int .i64 0] rfl rfl 40 _ hx2 info_tok5 rfl (tok_one _ _ _ _ _) ?_; intro w3 hx3 hu3 hz3)
    refine bodyPost_ret (results_box rfl _ _ w.heap.size 40 _ _ rfl hx3 Tryz.underlying40 rfl info_tok5) rfl ?_
    refine ⟨by unfold tokV; rw [HBX.out]; rfl, Box.grown (Box.alloc hr1 _) hu3 (by simp; omega), ?_⟩
    exact ((((Upd.refl w b).alloc _).trans hu1).alloc _).far hu3 (Nat.le_refl _)
end Go.Proofs.YtonjdlialejedaaGreatDoor.Jl
