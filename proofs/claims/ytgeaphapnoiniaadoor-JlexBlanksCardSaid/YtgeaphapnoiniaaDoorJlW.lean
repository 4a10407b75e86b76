/-
  A strings.Builder beside boxes of other types: what its writers leave as it was. Conditions: as each says.
-/
import Derived.Test.YtgeaphapnoiniaaDoorJlU
import Derived.Test.YtgeaphapnoiniaaDoorJlBu
namespace Go.Proofs.YtgeaphapnoiniaaDoor
open Go.RowKit Go.Shelf

/-- every block of another element type than bytes, but b, is as it was. -/
def Stays (b : Nat) (w w' : World) : Prop := ∀ (g : Nat) (t : TypeId) (cs : Array Value), Box w g t cs → t ≠ 5 → g ≠ b → Box w' g t cs
theorem own_type {w : World} {base : Nat} {e t : TypeId} {size n g : Nat} {v : Value} {xs : List Value} {cs : Array Value} (h : w.ownsRow base e size v n xs) (hg : Box w g t cs) (ht : t ≠ e) : v.ownBlock ≠ some g := by
  rcases h.2 with ⟨hv, _⟩ | ⟨g', cap, cur, hv, _, hh, _⟩
  · subst hv; simp [Value.ownBlock]
  · subst hv
    intro he
    have e1 : g' = g := by simpa [Value.ownBlock] using he
    subst e1
    unfold Box at hg
    rw [hg] at hh
    injection hh with hh
    injection hh with _ h2
    exact ht h2
theorem bu_below {T e : TypeId} {B b : Nat} {bs : List Value} {w w1 : World} (h : Lib.IsBuilder T e B b bs w) (hb : Below w.heap.size w w1) : Lib.IsBuilder T e B b bs w1 := by
  rcases h with h | h
  · obtain ⟨hB, v, hbk, hown, hne⟩ := h
    exact .inl ⟨hB, v, (hb.block b (Box.lt hbk)).trans hbk, own_below hown hb, hne⟩
  · obtain ⟨hB, v, hbk, hown, hne⟩ := h
    exact .inr ⟨hB, v, (hb.block b (Box.lt hbk)).trans hbk, own_below hown hb, hne⟩

theorem check_any2 (B b : Nat) (bs : List Value) (w : World) (h : Lib.IsBuilder 36 5 B b bs w) :
    Calls Tryd.prog 18 #[.pointer (some ⟨b, 0, none⟩)] w fun e w' => e = .returned (.tuple #[]) ∧ (Lib.BuilderAt 36 5 B b (.pointer (some ⟨b, 0, none⟩)) bs w' ∧ Below B w w' ∧ Stays b w w') := by
  rcases h with h | h
  · refine (check_fresh b w h.cell0 h.shape h.frozen0).mono ?_
    rintro e w' ⟨rfl, rfl⟩
    exact ⟨rfl, h.used _, (Below.refl B w).setCell (p := ⟨b, 0, none⟩) h.1 _, fun g t cs hg _ hn => Box.far hg (p := ⟨b, 0, none⟩) hn _⟩
  · refine (check_used b w h.cell0).mono ?_
    rintro e w' ⟨rfl, rfl⟩
    exact ⟨rfl, h, Below.refl B _, fun g t cs hg _ _ => hg⟩

set_option maxRecDepth 100000 in
set_option maxHeartbeats 1000000 in
theorem write_string2 (B b : Nat) (bs : List Value) (s : ByteArray) (w : World) (h : Lib.IsBuilder 36 5 B b bs w) (hlen : bs.length + s.size ≤ 140737488355328) (hBw : B ≤ w.heap.size) :
    Calls Tryd.prog 11 #[.pointer (some ⟨b, 0, none⟩), .string s] w fun e w' => e = .returned (.tuple #[.int .i64 s.size, .nilIface]) ∧ Lib.IsBuilder 36 5 B b (bs ++ Lib.strCells s) w' ∧ Below B w w' ∧ Stays b w w' := by
  obtain ⟨i0, hi, hz0, hz1, hz2⟩ := info_parts bu_byte
  go_enter Tryd.func11, Tryd.ntmps11
  go_wp2_with (fail)
  refine (check_any2 B b bs _ h).mono ?_
  rintro e w1 ⟨rfl, h1, hb1, hst1⟩
  obtain ⟨hB, v, hbk, hown, hne⟩ := h1
  have c0 : w1.cell? ⟨b, 0, none⟩ = some (.pointer (some ⟨b, 0, none⟩)) := by rw [Lib.cell_of_heap hbk]; rfl
  have c1 : w1.cell? ⟨b, 1, none⟩ = some v := by rw [Lib.cell_of_heap hbk]; rfl
  have HS1 := Lib.hid hst1
  clear hst1
  go_wp2_with (at_builtin; refine Lib.wpList_append_own_string _ rfl (.tmp 12) (.tmp 13) 33 9 rfl B 5 i0 Tryd.underlying33 Tryd.underlying9 hi hz0 hz1 hz2 v bs.length bs rfl hown s rfl ?c3 ?c4 ?c5 ?_)
  case c3 => unfold maxLen; omega
  case c4 => omega
  case c5 => have := hb1.size; omega
  intro v' w2 hown' hgrow _
  have hlt : b < w1.heap.size := Box.lt hbk
  have hb2 : w2.heap[b]? = some (.cells #[.pointer (some ⟨b, 0, none⟩), v] 36 (0, 0)) := by
    rw [hgrow.block b hlt (fun e => hne e.symm)]
    exact hbk
  have d0 : w2.cell? ⟨b, 0, none⟩ = some (.pointer (some ⟨b, 0, none⟩)) := by rw [Lib.cell_of_heap hb2]; rfl
  have d1 : w2.cell? ⟨b, 1, none⟩ = some v := by rw [Lib.cell_of_heap hb2]; rfl
  have f1 : w2.frozen? ⟨b, 1, none⟩ = false := Lib.frozen_of_heap hb2 1
  obtain ⟨ao, n', cap, rfl⟩ : ∃ ao n' cap, v' = .slice ao n' cap := by
    rcases hown'.2 with ⟨hv, _⟩ | ⟨g, cap, cur, hv, _⟩
    · exact ⟨_, _, _, hv⟩
    · exact ⟨_, _, _, hv⟩
  go_wp2
  go_ret2
  refine ⟨rfl, .inr ?_, ?_, ?_⟩
  · exact Lib.BuilderAt.put (T := 36) (e := 5) hB hb2 (bs' := bs ++ Lib.strCells s) (by simpa [Lib.strCells_length] using hown') bu_ne
  · exact (hb1.grown hgrow (by have := hb1.size; omega) (fun k hk => (hown.lt k hk).1)).setCell (p := ⟨b, 1, none⟩) hB _
  · intro g t cs hg ht hn
    have hg1 := HS1.out g t cs hg ht hn
    have hne2 : some g ≠ v.ownBlock := by
      intro e
      exact own_type hown hg1 ht e.symm
    exact Box.far (Box.grown hg1 hgrow hne2) (p := ⟨b, 1, none⟩) hn _


/-- WriteString, of any text that is not too long. -/
def WX2 : Prop := ∀ (B b : Nat) (l : List UInt8) (s : ByteArray) (w : World), Lib.IsBuilder 36 5 B b (Lib.byteCells l) w → l.length ≤ 5000000 → s.size ≤ 5000000 → B ≤ w.heap.size →
  Calls Tryd.prog 11 #[.pointer (some ⟨b, 0, none⟩), .string s] w fun e w' => (∃ v, e = .returned v) ∧ Lib.IsBuilder 36 5 B b (Lib.byteCells (l ++ s.data.toList)) w' ∧ Below B w w' ∧ Stays b w w'
theorem wx2 : WX2 := by
  intro B b l s w h hl hs hB
  have := write_string2 B b (Lib.byteCells l) s w h (by rw [Lib.byteCells_length]; omega) hB
  rw [show s = ⟨s.data.toList.toArray⟩ from rfl, cells_str, cells_cat] at this
  exact this.mono fun _ _ ⟨h1, h2, h3⟩ => ⟨⟨_, h1⟩, h2, h3⟩
end Go.Proofs.YtgeaphapnoiniaaDoor
