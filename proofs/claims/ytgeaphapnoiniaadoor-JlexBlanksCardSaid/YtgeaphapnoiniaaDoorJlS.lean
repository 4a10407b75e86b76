/-
  What the library's functions answer, and the words of the language. Conditions: as each says.
-/
import Derived.Test.YtgeaphapnoiniaaDoorMem
import Derived.Test.YtgeaphapnoiniaaDoorShelf
import Derived.Test.YtgeaphapnoiniaaDoorLex
import Derived.WalkSmall
import Derived.Lib.Space
namespace Go.Proofs.YtgeaphapnoiniaaDoor
open Go.RowKit

theorem index_byte (s : ByteArray) (c : Int) (w : World) :
    Calls Tryd.prog 21 #[.string s, .int .u8 c] w fun e w' => e = .returned (.int .i64 (Lib.indexByte s.data.toList c.toNat.toUInt8)) ∧ w' = w := Tryd.strings_IndexByte s c w

/-- the library's table of blanks lies where it lies. -/
def Env (w : World) : Prop := Lib.TabIs Tryd.prog w "strings.asciiSpace" .u8 Lib.asciiSpaceTab
theorem gSpace : Tryd.prog.globalNamed "strings.asciiSpace" = some 1 := by kernel_rfl
theorem Env.below {w w' : World} (h : Env w) {B : Nat} (hb : Below B w w') (hB : 4 ≤ B) : Env w' := var?_below hb gSpace (by omega) h
theorem Env.upd {w w' : World} (h : Env w) {b : Nat} (hu : Upd w w' b) (hb : 4 ≤ b) (hlt : b ≤ w.heap.size) : Env w' := h.below (hu.own (Nat.le_refl b) hlt) hb
theorem Env.drewN {w : World} (h : Env w) (n : Nat) : Env (w.drewN n) := h
theorem Env.alloc {w : World} (h : Env w) (hB : 4 ≤ w.heap.size) (o : Obj) : Env (w.alloc o) := h.below ((Below.refl _ _).alloc (Nat.le_refl _) o) hB

def bytes (l : Lexy.Bs) : ByteArray := ⟨l.toArray⟩
def kwText : Lexy.Bs := [108, 101, 116, 32, 102, 110, 32, 105, 102, 32, 101, 108, 115, 101, 32, 119, 104, 105, 108, 101, 32, 102, 111, 114, 32, 111, 102, 32, 114, 101, 116, 117, 114, 110, 32, 98, 114, 101, 97, 107, 32, 99, 111, 110, 116, 105, 110, 117, 101, 32, 116, 104, 114, 111, 119, 32, 116, 114, 121, 32, 99, 97, 116, 99, 104, 32, 102, 105, 110, 97, 108, 108, 121, 32, 116, 114, 117, 101, 32, 102, 97, 108, 115, 101, 32, 110, 117, 108, 108]
theorem kw_fields : Lib.fields kwText = Lexy.kws := by decide +kernel
def sgText : Lexy.Bs := [61, 61, 32, 33, 61, 32, 60, 61, 32, 62, 61, 32, 38, 38, 32, 124, 124, 32, 61, 32, 33, 32, 60, 32, 62, 32, 43, 32, 45, 32, 42, 32, 47, 32, 37, 32, 40, 32, 41, 32, 91, 32, 93, 32, 123, 32, 125, 32, 44, 32, 59, 32, 58, 32, 46, 32, 63]
theorem sg_fields : Lib.fields sgText = Lexy.signs := by decide +kernel

/-- the cells of a list of words. -/
def wordCells (ls : List Lexy.Bs) : Array Value := (ls.map fun l => Value.string ⟨l.toArray⟩).toArray

theorem ascii_of {l : Lexy.Bs} (h : (l.all fun b => decide (b.toNat < 128)) = true) : ∀ (j : Nat) b, (bytes l).data.toList[j]? = some b → b.toNat < 128 := by
  intro j b hb
  have hm : b ∈ l := List.mem_of_getElem? hb
  simpa using List.all_eq_true.1 h b hm

theorem fields_kw (w : World) (he : Env w) :
    Calls Tryd.prog 34 #[.string (bytes kwText)] w fun e w' => e = .returned (.slice (some ⟨w.heap.size, 0, none⟩) 17 17) ∧ w' = w.alloc (.cells (wordCells Lexy.kws) 9) := by
  have h := Tryd.strings_Fields (bytes kwText) w (by decide) (ascii_of (by decide +kernel)) he
  have e : (bytes kwText).data.toList = kwText := rfl
  rw [e, kw_fields] at h
  exact h
theorem fields_sg (w : World) (he : Env w) :
    Calls Tryd.prog 34 #[.string (bytes sgText)] w fun e w' => e = .returned (.slice (some ⟨w.heap.size, 0, none⟩) 26 26) ∧ w' = w.alloc (.cells (wordCells Lexy.signs) 9) := by
  have h := Tryd.strings_Fields (bytes sgText) w (by decide) (ascii_of (by decide +kernel)) he
  have e : (bytes sgText).data.toList = sgText := rfl
  rw [e, sg_fields] at h
  exact h

theorem contains_words (ls : List Lexy.Bs) (n : Nat) (hn : n = ls.length) (hs : n ≤ 1000) (x : ByteArray) (b : Nat) (w : World) (hc : Box w b 9 (wordCells ls)) :
    Calls Tryd.prog 33 #[.slice (some ⟨b, 0, none⟩) n n, .string x] w fun e w' => e = .returned (.bool (decide (x.data.toList ∈ ls))) ∧ w = w' := by
  subst hn
  have h := Tryd.slices_Contains_string b 0 ls.length ls.length (ls.map bytes) x w (by simp) (by omega) (fun j hj => by
    rw [Nat.zero_add, hc.cell j]
    simp only [List.length_map] at hj
    simp [wordCells, bytes, hj])
  refine h.mono fun e w' ⟨he, hw⟩ => ⟨?_, hw.symm⟩
  rw [he]
  congr 2
  rw [List.take_of_length_le (by simp), Bool.eq_iff_iff, Lib.containsS_iff, decide_eq_true_iff]
  constructor
  · intro hm
    obtain ⟨l, hl, rfl⟩ := List.mem_map.1 hm
    exact hl
  · intro hm
    refine List.mem_map.2 ⟨_, hm, ?_⟩
    simp [bytes]

end Go.Proofs.YtgeaphapnoiniaaDoor
