/-
  Texts that the law leans on: JlR. Conditions: as each says.
-/
import Derived.Test.YtonjdlialejedaaGreatDoorXAy
import Derived.Test.YtonjdlialejedaaGreatDoorXAt
import Derived.Test.YtonjdlialejedaaGreatDoorXAb
import Derived.IntWalk
import Derived.StillTailTactics
import Derived.Test.YtonjdlialejedaaGreatDoorXAa
set_option linter.unusedSimpArgs false
set_option linter.unusedVariables false
namespace Go.Proofs.YtonjdlialejedaaGreatDoor.Jl
open Go.Lib (hid)
open Go.RowKit
theorem wpList_of_row {P : Program} {ops : Array Oper} {rest : List Oper} {o : Oper} {a : Act} {w : World} {Q : Exit → Act → World → Prop} (hgd : o.guard = none) (src dst e : TypeId) (x : Operand) (ho : o.op = .convert src dst x)
  (hs : P.underlying src = some (.slice e)) (he : P.underlying e = some (.int .u8)) (hd : P.underlying dst = some .string) (p : Addr) (cap : Nat) (l : List UInt8) (hx : a.eval x = .slice (some p) l.length cap)
  (hc : ∀ j (hj : j < l.length), w.cell? (p.add j) = some (.int .u8 (l[j].toNat : Int))) (h : wpList P ops Q rest (a.put o.dst (.string ⟨l.toArray⟩)) w) : wpList P ops Q (o :: rest) a w := by
 have hrun := run_convert_bytes_back (P := P) w src dst e p cap l hs he hd hc
 refine wpList_plain hgd fun _ hK => ?_
 unfold Oper.wp execOp
 simp only [ho, hx, Sem.run_bind, hrun, Result.andThen_ok, Sem.run_pure]
 exact hK _ _ h
theorem cells_cat (a b : List UInt8) : Lib.byteCells a ++ Lib.byteCells b = Lib.byteCells (a ++ b) := by simp [Lib.byteCells]
theorem cells_str (l : List UInt8) : Lib.strCells ⟨l.toArray⟩ = Lib.byteCells l := by simp [Lib.strCells, Lib.byteCells]
def WB : Prop := ∀ (B b : Nat) (l : List UInt8) (c : UInt8) (w : World), Lib.IsBuilder 53 5 B b (Lib.byteCells l) w → l.length ≤ 5000000 → B ≤ w.heap.size →
 Calls Tryz.prog 19 #[.pointer (some ⟨b, 0, none⟩), .int .u8 (c.toNat : Int)] w fun e w' => e = .returned .nilIface ∧ Lib.IsBuilder 53 5 B b (Lib.byteCells (l ++ [c])) w' ∧ Below B w w'
theorem wb : WB := by
 intro B b l c w h hl hB
 have := write_byte B b (Lib.byteCells l) (c.toNat : Int) w h (by rw [Lib.byteCells_length]; omega) hB
 rw [← cells_cat]; exact this
def WS : Prop := ∀ (B b : Nat) (l : List UInt8) (s : List UInt8) (w : World), Lib.IsBuilder 53 5 B b (Lib.byteCells l) w → l.length ≤ 5000000 → s.length ≤ 10 → B ≤ w.heap.size →
 Calls Tryz.prog 31 #[.pointer (some ⟨b, 0, none⟩), .string ⟨s.toArray⟩] w fun e w' => (∃ v, e = .returned v) ∧ Lib.IsBuilder 53 5 B b (Lib.byteCells (l ++ s)) w' ∧ Below B w w'
theorem ws : WS := by
 intro B b l s w h hl hs hB
 have hz : (⟨s.toArray⟩ : ByteArray).size = s.length := rfl
 have := write_string B b (Lib.byteCells l) ⟨s.toArray⟩ w h (by rw [Lib.byteCells_length, hz]; omega) hB
 rw [cells_str, cells_cat] at this
 exact this.mono fun _ _ ⟨h1, h2, h3⟩ => ⟨⟨_, h1⟩, h2, h3⟩
def WS2 : Prop := ∀ (B b : Nat) (l : List UInt8) (c : UInt8) (w : World), Lib.IsBuilder 53 5 B b (Lib.byteCells l) w → l.length ≤ 5000000 → B ≤ w.heap.size →
 Calls Tryz.prog 31 #[.pointer (some ⟨b, 0, none⟩), .string ((⟨#[92]⟩ : ByteArray) ++ ⟨#[c]⟩)] w fun e w' => (∃ v, e = .returned v) ∧ Lib.IsBuilder 53 5 B b (Lib.byteCells (l ++ [92, c])) w' ∧ Below B w w'
theorem ws2 : WS2 := by
 intro B b l c w h hl hB
 have := ws B b l [92, c] w h hl (by simp) hB
 rwa [show ((⟨#[92]⟩ : ByteArray) ++ ⟨#[c]⟩) = ⟨[92, c].toArray⟩ from rfl]
def WS4 : Prop := ∀ (B b : Nat) (l : List UInt8) (x y : UInt8) (w : World), Lib.IsBuilder 53 5 B b (Lib.byteCells l) w → l.length ≤ 5000000 → B ≤ w.heap.size →
 Calls Tryz.prog 31 #[.pointer (some ⟨b, 0, none⟩), .string ((⟨#[92, 120]⟩ : ByteArray) ++ ⟨#[x]⟩ ++ ⟨#[y]⟩)] w fun e w' => (∃ v, e = .returned v) ∧ Lib.IsBuilder 53 5 B b (Lib.byteCells (l ++ [92, 120, x, y])) w' ∧ Below B w w'
theorem ws4 : WS4 := by
 intro B b l x y w h hl hB
 have := ws B b l [92, 120, x, y] w h hl (by simp) hB
 rwa [show ((⟨#[92, 120]⟩ : ByteArray) ++ ⟨#[x]⟩ ++ ⟨#[y]⟩) = ⟨[92, 120, x, y].toArray⟩ from rfl]
theorem isBuilder_alloc {T e : TypeId} {B b : Nat} {bs : List Value} {w : World} (h : Lib.IsBuilder T e B b bs w) (o : Obj) : Lib.IsBuilder T e B b bs (w.alloc o) := by
 rcases h with ⟨h0, v, h1, h2, h3⟩ | ⟨h0, v, h1, h2, h3⟩
 ·exact .inl ⟨h0, v, (Below.heap_alloc w o b (Box.lt h1)).trans h1, h2.alloc o, h3⟩
 ·exact .inr ⟨h0, v, (Below.heap_alloc w o b (Box.lt h1)).trans h1, h2.alloc o, h3⟩
theorem qb_flat (l : Lexy.Bs) : (l.flatMap Lexy.qb).length ≤ 4 * l.length := by
 induction l with
 | nil => simp
 | cons c r ih => have := (Lexy.qb_len c).2; simp [List.flatMap_cons]; simp at ih; omega
theorem flat_more (l : Lexy.Bs) (k : Nat) (c : UInt8) (h : l[k]? = some c) : (l.take (k + 1)).flatMap Lexy.qb = (l.take k).flatMap Lexy.qb ++ Lexy.qb c := by
 rw [List.take_add_one, h]; simp
theorem hex_slice : ∀ n : Fin 16, (⟨#[48, 49, 50, 51, 52, 53, 54, 55, 56, 57, 97, 98, 99, 100, 101, 102]⟩ : ByteArray).extract n.val (n.val + 1) = ⟨#[Lexy.hexd (UInt8.ofNat n.val)]⟩ := by decide +kernel
theorem hex_run (n : UInt8) (hn : n.toNat < 16) (a b : Int) (ha : a = n.toNat) (hb : b = n.toNat + 1) (w : World) :
  (Instr.slice 9 (.string ⟨#[48, 49, 50, 51, 52, 53, 54, 55, 56, 57, 97, 98, 99, 100, 101, 102]⟩) (some (.int .u8 a)) (some (.int .u8 b)) none).run Tryz.prog w = .ok (.string ⟨#[Lexy.hexd n]⟩) w := by
 subst ha hb
 have hz : (⟨#[48, 49, 50, 51, 52, 53, 54, 55, 56, 57, 97, 98, 99, 100, 101, 102]⟩ : ByteArray).size = 16 := rfl
 have := run_slice_string (P := Tryz.prog) w 9 ⟨#[48, 49, 50, 51, 52, 53, 54, 55, 56, 57, 97, 98, 99, 100, 101, 102]⟩ .u8 .u8 (n.toNat : Int) ((n.toNat : Int) + 1) Tryz.underlying9 (by omega) (by omega) (by rw [hz]; omega)
 rw [this]
 have h := hex_slice ⟨n.toNat, hn⟩
 simp only at h
 rw [show ((n.toNat : Int)).toNat = n.toNat by omega, show ((n.toNat : Int) + 1).toNat = n.toNat + 1 by omega, h]
 simp
theorem hex_ext (n : UInt8) (hn : n.toNat < 16) (a b : Nat) (ha : a = n.toNat) (hb : b = n.toNat + 1) : (⟨#[48, 49, 50, 51, 52, 53, 54, 55, 56, 57, 97, 98, 99, 100, 101, 102]⟩ : ByteArray).extract a b = ⟨#[Lexy.hexd n]⟩ := by
 subst ha hb
 have h := hex_slice ⟨n.toNat, hn⟩
 simp only at h
 rw [h]
 simp
theorem and_low : ∀ c : UInt8, bits .and .u8 (c.toNat : Int) 15 = ((c % 16).toNat : Int) := Lexy.all_bytes (by decide +kernel)
theorem one_size (x : UInt8) : (⟨#[x]⟩ : ByteArray).size = 1 := rfl
theorem three_size (x : UInt8) : ((⟨#[92, 120]⟩ : ByteArray) ++ ⟨#[x]⟩).size = 3 := rfl
set_option maxRecDepth 100000 in
set_option maxHeartbeats 2000000 in
theorem quote_any (s : ByteArray) (w : World) (hm : s.size ≤ 1048576) :
  Calls Tryz.prog 104 #[.string s] w fun e w' => e = .returned (.string ⟨(Lexy.quote s.data.toList).toArray⟩) ∧ Below w.heap.size w w' := by
 obtain ⟨l, hl⟩ : ∃ l, s.data.toList = l := ⟨_, rfl⟩
 have hsz : l.length = s.size := by rw [← hl]; simp
 have HL := hid hl
 have HS := hid hsz
 rw [hl]
 clear hl hsz
 have HWB : Hid WB := hid wb
 have HWS : Hid WS := hid ws
 have HWS2 : Hid WS2 := hid ws2
 have HWS4 : Hid WS4 := hid ws4
 go_enter Tryz.func104, Tryz.ntmps104
 go_wp2_with fail
 refine (HWB.out w.heap.size w.heap.size [] 34 _ (Lib.fresh_isBuilder _ _ w) (by simp) (by simp)).mono ?_
 rintro e w1 ⟨rfl, hb1, hw1⟩
 have hw1' : Below w.heap.size w w1 := ((Below.refl _ w).alloc (Nat.le_refl _) _).trans hw1
 clear hw1
 go_wp2
 go_loopg [10] (s.size - 0) (fun g v wr => ∃ (k : Nat), k ≤ s.size ∧ g = s.size - k ∧ v = .int .i64 (k : Int) ∧ Lib.IsBuilder 53 5 w.heap.size w.heap.size (Lib.byteCells (34 :: (l.take k).flatMap Lexy.qb)) wr ∧ Below w.heap.size w wr)
 case atStart => exact ⟨0, by omega, rfl, rfl, hb1, hw1'⟩
 case round =>
  obtain ⟨k, hk, hg, rfl, hb, hw⟩ := hrel
  have HG := hid hg; clear hg
  have hq : Hid ((34 :: (l.take k).flatMap Lexy.qb).length ≤ 5000000) := by
   have := qb_flat (l.take k)
   have h2 : (l.take k).length ≤ k := by simp; omega
   refine hid ?_
   rw [List.length_cons]; omega
  have hz := hw.size
  by_cases hlt : k < s.size
  ·obtain ⟨c, hc⟩ : ∃ c, l[k]? = some c := ⟨_, List.getElem?_eq_getElem (by rw [HS.out]; exact hlt)⟩
   have hl1 : decide ((k : Int) < s.size) = true := by simp; omega
   have hi := fun w => run_at s c (k : Int) (by omega) (by rw [HL.out]; exact hc) w
   have HN := hid (flat_more l k c hc)
   clear hc
   by_cases h1 : (c == 34 || c == 92) = true
   ·have HB : Hid (Lexy.qb c = [92, c]) := hid (by unfold Lexy.qb; rw [if_pos h1])
    have hc2 : c = 34 ∨ c = 92 := by simpa using h1
    clear h1
    rcases hc2 with rfl | rfl
    ·go_wp2_with (refine wpList_of_row rfl 51 9 5 (.tmp 26) rfl Tryz.underlying51 Tryz.underlying5 Tryz.underlying9 ⟨wr.heap.size, 0, none⟩ 1 [34] rfl ?_ ?_)
     ·intro j hj; obtain rfl : j = 0 := (by simpa using hj); exact one_new _ _ _ _ rfl 0 _ rfl
     refine (HWS2.out w.heap.size w.heap.size _ 34 _ (isBuilder_alloc hb _) hq.out (by simp; omega)).mono ?_
     rintro e w2 ⟨he, hb2, hw2⟩
     first | (subst he) | (obtain ⟨v, rfl⟩ := he)
     go_wp2
     go_roundg (s.size - (k + 1))
     case measure => rw [HG.out]; omega
     case rel =>
      refine ⟨k + 1, by omega, rfl, by go_num, ?_, (hw.alloc hz _).trans hw2⟩
      rw [HN.out, HB.out]
      exact hb2
    ·go_wp2_with (refine wpList_of_row rfl 51 9 5 (.tmp 26) rfl Tryz.underlying51 Tryz.underlying5 Tryz.underlying9 ⟨wr.heap.size, 0, none⟩ 1 [92] rfl ?_ ?_)
     ·intro j hj; obtain rfl : j = 0 := (by simpa using hj); exact one_new _ _ _ _ rfl 0 _ rfl
     refine (HWS2.out w.heap.size w.heap.size _ 92 _ (isBuilder_alloc hb _) hq.out (by simp; omega)).mono ?_
     rintro e w2 ⟨he, hb2, hw2⟩
     first | (subst he) | (obtain ⟨v, rfl⟩ := he)
     go_wp2
     go_roundg (s.size - (k + 1))
     case measure => rw [HG.out]; omega
     case rel =>
      refine ⟨k + 1, by omega, rfl, by go_num, ?_, (hw.alloc hz _).trans hw2⟩
      rw [HN.out, HB.out]
      exact hb2
   ·have HB1 := h1
    have h34 : c ≠ 34 := by rintro rfl; simp at h1
    have h92 : c ≠ 92 := by rintro rfl; simp at h1
    have n34 : ((c.toNat : Int) == 34) = false := byte_ne (d := 34) h34
    have n92 : ((c.toNat : Int) == 92) = false := byte_ne (d := 92) h92
    clear h1 h34 h92
    by_cases h10 : c = 10
    ·subst h10
     have HB : Hid (Lexy.qb 10 = [92, 110]) := hid (by decide)
     clear HB1
     go_wp2_with fail
     refine (HWS.out w.heap.size w.heap.size _ [92, 110] _ hb hq.out (by decide) hz).mono ?_
     rintro e w2 ⟨he, hb2, hw2⟩
     first | (subst he) | (obtain ⟨v, rfl⟩ := he)
     go_wp2
     go_roundg (s.size - (k + 1))
     case measure => rw [HG.out]; omega
     case rel =>
      refine ⟨k + 1, by omega, rfl, by go_num, ?_, hw.trans hw2⟩
      rw [HN.out, HB.out]
      exact hb2
    ·have n10 : ((c.toNat : Int) == 10) = false := byte_ne (d := 10) h10
     by_cases h9 : c = 9
     ·subst h9
      have HB : Hid (Lexy.qb 9 = [92, 116]) := hid (by decide)
      clear HB1
      go_wp2_with fail
      refine (HWS.out w.heap.size w.heap.size _ [92, 116] _ hb hq.out (by decide) hz).mono ?_
      rintro e w2 ⟨he, hb2, hw2⟩
      first | (subst he) | (obtain ⟨v, rfl⟩ := he)
      go_wp2
      go_roundg (s.size - (k + 1))
      case measure => rw [HG.out]; omega
      case rel =>
       refine ⟨k + 1, by omega, rfl, by go_num, ?_, hw.trans hw2⟩
       rw [HN.out, HB.out]
       exact hb2
     ·have n9 : ((c.toNat : Int) == 9) = false := byte_ne (d := 9) h9
      have b10 : (c == 10) = false := by simpa using h10
      have b9 : (c == 9) = false := by simpa using h9
      clear h10 h9
      by_cases h32 : c.toNat < 32 ∨ 126 < c.toNat
      ·have HB : Hid (Lexy.qb c = [92, 120, Lexy.hexd (c / 16), Lexy.hexd (c % 16)]) := hid (by
        unfold Lexy.qb; rw [if_neg HB1, b10, b9, if_neg (by decide), if_neg (by decide), if_pos (by simpa using h32)])
       have hs1 := hex_run (c / 16) (by have := c.toNat_lt; simp; omega) ((c.toNat : Int) / 16) ((c.toNat : Int) / 16 + 1) (by simp) (by simp)
       have hs2 := hex_run (c % 16) (by simp; omega) ((c.toNat : Int) % 16) ((c.toNat : Int) % 16 + 1) (by simp) (by simp)
       have h256 := c.toNat_lt
       clear HB1 b10 b9
       rcases Nat.lt_or_ge c.toNat 32 with hlo | hhi
       ·have e32 : decide ((c.toNat : Int) < 32) = true := by simp; omega
        clear h32 hlo
        have x1 := hex_ext (c / 16) (by have := c.toNat_lt; simp; omega) ((c.toNat : Int) / 16).toNat ((c.toNat : Int) / 16 + 1).toNat (by simp; omega) (by simp; omega)
        obtain ⟨y1, hy1⟩ : ∃ y, Lexy.hexd (c / 16) = y := ⟨_, rfl⟩
        obtain ⟨m, hm2, hm16, hm0⟩ : ∃ m : Int, ((c % 16).toNat : Int) = m ∧ m < 16 ∧ 0 ≤ m := ⟨_, rfl, by simp; omega, by omega⟩
        have x2 := hex_ext (c % 16) (by simp; omega) m.toNat (m + 1).toNat (by omega) (by omega)
        obtain ⟨y2, hy2⟩ : ∃ y, Lexy.hexd (c % 16) = y := ⟨_, rfl⟩
        have a1 := and_low c
        rw [hm2] at a1
        rw [hy1, hy2] at HB
        rw [hy1] at x1
        rw [hy2] at x2
        have s1 := one_size y1
        have s2 := one_size y2
        have s3 := three_size y1
        have z1 : IntKind.u8.wrap ((c.toNat : Int) / 16 + 1) = (c.toNat : Int) / 16 + 1 := IntWalk.u8_in _ (by omega)
        have z2 : (c.toNat : Int) / 16 + 1 ≤ 16 := by omega
        have z3 : 0 ≤ (c.toNat : Int) / 16 := by omega
        have z4 : (c.toNat : Int) / 16 ≤ (c.toNat : Int) / 16 + 1 := by omega
        have t1 : IntKind.u8.wrap (m + 1) = m + 1 := IntWalk.u8_in _ (by omega)
        have t2 : m + 1 ≤ 16 := by omega
        have t4 : m ≤ m + 1 := by omega
        clear hs1 hs2 hy1 hy2 hm2 hm16 h256
        go_wp2
        go_still_tail 16, (by kernel_rfl)
        change wpList _ _ _ _ _ wr.drew
        go_wp2_with fail
        refine (HWS4.out w.heap.size w.heap.size _ y1 y2 wr.drew hb hq.out hz).mono ?_
        rintro e w2 ⟨⟨v, rfl⟩, hb2, hw2⟩
        go_wp2
        go_roundg (s.size - (k + 1))
        case measure => rw [HG.out]; omega
        case rel =>
         refine ⟨k + 1, by omega, rfl, by go_num, ?_, (below_drewN hw 1).trans hw2⟩
         rw [HN.out, HB.out]
         exact hb2
       ·have e32 : decide ((c.toNat : Int) < 32) = false := by simp; omega
        have e126 : decide ((126 : Int) < (c.toNat : Int)) = true := by simp; omega
        clear h32 hhi
        have x1 := hex_ext (c / 16) (by have := c.toNat_lt; simp; omega) ((c.toNat : Int) / 16).toNat ((c.toNat : Int) / 16 + 1).toNat (by simp; omega) (by simp; omega)
        obtain ⟨y1, hy1⟩ : ∃ y, Lexy.hexd (c / 16) = y := ⟨_, rfl⟩
        obtain ⟨m, hm2, hm16, hm0⟩ : ∃ m : Int, ((c % 16).toNat : Int) = m ∧ m < 16 ∧ 0 ≤ m := ⟨_, rfl, by simp; omega, by omega⟩
        have x2 := hex_ext (c % 16) (by simp; omega) m.toNat (m + 1).toNat (by omega) (by omega)
        obtain ⟨y2, hy2⟩ : ∃ y, Lexy.hexd (c % 16) = y := ⟨_, rfl⟩
        have a1 := and_low c
        rw [hm2] at a1
        rw [hy1, hy2] at HB
        rw [hy1] at x1
        rw [hy2] at x2
        have s1 := one_size y1
        have s2 := one_size y2
        have s3 := three_size y1
        have z1 : IntKind.u8.wrap ((c.toNat : Int) / 16 + 1) = (c.toNat : Int) / 16 + 1 := IntWalk.u8_in _ (by omega)
        have z2 : (c.toNat : Int) / 16 + 1 ≤ 16 := by omega
        have z3 : 0 ≤ (c.toNat : Int) / 16 := by omega
        have z4 : (c.toNat : Int) / 16 ≤ (c.toNat : Int) / 16 + 1 := by omega
        have t1 : IntKind.u8.wrap (m + 1) = m + 1 := IntWalk.u8_in _ (by omega)
        have t2 : m + 1 ≤ 16 := by omega
        have t4 : m ≤ m + 1 := by omega
        clear hs1 hs2 hy1 hy2 hm2 hm16 h256
        go_wp2
        go_still_tail 16, (by kernel_rfl)
        change wpList _ _ _ _ _ wr.drew
        go_wp2_with fail
        refine (HWS4.out w.heap.size w.heap.size _ y1 y2 wr.drew hb hq.out hz).mono ?_
        rintro e w2 ⟨⟨v, rfl⟩, hb2, hw2⟩
        go_wp2
        go_roundg (s.size - (k + 1))
        case measure => rw [HG.out]; omega
        case rel =>
         refine ⟨k + 1, by omega, rfl, by go_num, ?_, (below_drewN hw 1).trans hw2⟩
         rw [HN.out, HB.out]
         exact hb2
      ·have HB : Hid (Lexy.qb c = [c]) := hid (by
        unfold Lexy.qb; rw [if_neg HB1, b10, b9, if_neg (by decide), if_neg (by decide), if_neg (by simpa using h32)])
       have e32 : decide ((c.toNat : Int) < 32) = false := by simp; omega
       have e126 : decide ((126 : Int) < (c.toNat : Int)) = false := by simp; omega
       clear HB1 b10 b9 h32
       go_wp2_with fail
       refine (HWB.out w.heap.size w.heap.size _ c _ hb hq.out hz).mono ?_
       rintro e w2 ⟨he, hb2, hw2⟩
       first | (subst he) | (obtain ⟨v, rfl⟩ := he)
       go_wp2
       go_roundg (s.size - (k + 1))
       case measure => rw [HG.out]; omega
       case rel =>
        refine ⟨k + 1, by omega, rfl, by go_num, ?_, hw.trans hw2⟩
        rw [HN.out, HB.out]
        exact hb2
  ·have hl1 : decide ((k : Int) < s.size) = false := by simp; omega
   have HK : Hid (l.take k = l) := hid (List.take_of_length_le (by rw [HS.out]; omega))
   go_wp2_with fail
   refine (HWB.out _ _ _ 34 _ hb hq.out hz).mono ?_
   rintro e w2 ⟨rfl, hb2, hw2⟩
   go_wp2_with fail
   refine (Tryz.Builder_String_any _ _ _ _ hb2 (by have := hw2.size; omega)).mono ?_
   rintro e w3 ⟨rfl, hw3⟩
   go_wp2
   go_ret
   refine ⟨?_, (hw.trans hw2).trans hw3⟩
   rw [HK.out]
   rfl
end Go.Proofs.YtonjdlialejedaaGreatDoor.Jl
