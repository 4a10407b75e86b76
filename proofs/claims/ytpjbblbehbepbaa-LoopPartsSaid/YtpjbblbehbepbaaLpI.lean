/-
  slices.BinarySearchFunc at timers in order, and lay. Conditions: as each says.
-/
import Derived.Test.YtpjbblbehbepbaaLpH
import Derived.Test.YtpjbblbehbepbaaLoopD
namespace Go.Proofs.Ytpjbblbehbepbaa
set_option linter.unusedSimpArgs false
set_option linter.unusedVariables false
open Go.RowKit

/-- an element of a row, and a box; nothing below has turned. -/
def ElT (W : World) (g o n : Nat) (x t : Loopy.Timer) (w' : World) : Prop :=
  Below W.heap.size W w' ∧ (w'.cell? ⟨g, o, none⟩ = some (.int .i64 x.id) ∧ w'.cell? ⟨g, o + 1, none⟩ = some (.int .i64 x.due) ∧ w'.cell? ⟨g, o + 2, none⟩ = some (.int .i64 x.every) ∧ w'.cell? ⟨g, o + 3, none⟩ = some (.int .i64 x.turn) ∧ w'.cell? ⟨g, o + 4, none⟩ = some (.string (byt x.call))) ∧
    (w'.cell? ⟨n, 0, none⟩ = some (.int .i64 t.id) ∧ w'.cell? ⟨n, 1, none⟩ = some (.int .i64 t.due) ∧ w'.cell? ⟨n, 2, none⟩ = some (.int .i64 t.every) ∧ w'.cell? ⟨n, 3, none⟩ = some (.int .i64 t.turn) ∧ w'.cell? ⟨n, 4, none⟩ = some (.string (byt t.call)))
theorem elT {W w1 : World} {g o n : Nat} {x t : Loopy.Timer} (hg : g < W.heap.size) (hx : W.rangeAt g o (tc x).toList) (ht : Box W n 49 (tc t)) (hb : Below W.heap.size W w1) : ElT W g o n x t w1 := by
  have c := fun j u (hu : (tc x).toList[j]? = some u) => (hb.cell (p := ⟨g, o + j, none⟩) hg).trans (hx j u hu)
  have d := Box.below ht hb ht.lt
  exact ⟨hb, ⟨c 0 _ rfl, c 1 _ rfl, c 2 _ rfl, c 3 _ rfl, c 4 _ rfl⟩, by simpa using d.cell 0, by simpa using d.cell 1, by simpa using d.cell 2, by simpa using d.cell 3, by simpa using d.cell 4⟩
/-- the search's answer. -/
def SearchOut (w : World) (n : Nat) (e : Ending) (w' : World) : Prop := ∃ b : Bool, e = .returned (.tuple #[.int .i64 (n : Int), .bool b]) ∧ Below w.heap.size w w'
set_option maxHeartbeats 4000000 in
theorem search_any (l : List Loopy.Timer) (t : Loopy.Timer) (v : Value) (w : World) (hR : TRd w l v) (hs : l.Pairwise Loopy.Lt) (hl : l.length ≤ 1000000) :
    Calls Try.prog 49 #[v, tag t, .func (.func 33) #[] #[]] w fun e w' => SearchOut w (Loopy.pos l t) e w' := by
  obtain ⟨A, cap, rfl, hcap1, hcap2, hrow⟩ := hR
  have HR := Lib.hid hrow
  have HS := Lib.hid hs
  have HB := Lib.hid (fun x w => before_any x t w)
  clear hrow hs
  go_enter Try.func49, Try.ntmps49
  go_wp2_with (fail)
  have hbx0 : Box (w.alloc (.cells (tc t) 49)) w.heap.size 49 (tc t) := Box.new w _ (tc t)
  have hb0 := below1 w (.cells (tc t) 49)
  generalize hW : w.alloc (.cells (tc t) 49) = W at *
  clear hW
  go_loopg [9, 10, 11] l.length (fun gg a b _ wr => ∃ i j : Nat, i ≤ j ∧ j ≤ l.length ∧ j - i ≤ gg ∧ a = .int .i64 (i : Int) ∧ b = .int .i64 (j : Int) ∧ Hid (Below W.heap.size W wr) ∧ Hid (∀ k x, k < i → l[k]? = some x → Loopy.before x t < 0) ∧ Hid (∀ k x, j ≤ k → l[k]? = some x → ¬ Loopy.before x t < 0))
  case atStart => exact ⟨0, l.length, by omega, Nat.le_refl _, by omega, rfl, rfl, Below.refl _ _, fun k x hk => absurd hk (Nat.not_lt_zero _), fun k x hk hx => by have := (List.getElem?_eq_some_iff.1 hx).1; omega⟩
  case round =>
    obtain ⟨i, j, hij, hj, hg, rfl, rfl, BW, L1, L2⟩ := hrel
    by_cases hlt : i < j
    · have hlt2 : decide ((i : Int) < (j : Int)) = true := by simp; omega
      go_wp2_with (fail)
      obtain ⟨h, hh⟩ : ∃ h : Nat, ((i : Int) + (j : Int)) / 2 = (h : Int) := ⟨(i + j) / 2, by omega⟩
      have hih : i ≤ h := by omega
      have hhj : h < j := by omega
      rw [hh]
      clear hh
      have hhl : (h : Int) < (l.length : Int) := by omega
      obtain ⟨x, hx⟩ : ∃ x, l[h]? = some x := ⟨_, List.getElem?_eq_getElem (by omega)⟩
      obtain ⟨g0, o, rfl, hg0, hrg⟩ := HR.out (by omega)
      have hgW : g0 < W.heap.size := by have := hb0.size; omega
      have hgw : g0 < wr.heap.size := by have := BW.out.size; omega
      have hrange : Hid (wr.rangeAt g0 (o + h * 5) (tc x).toList) := fun k u hu => by
        rw [BW.out.cell (p := ⟨g0, o + h * 5 + k, none⟩) hgW, hb0.cell (p := ⟨g0, o + h * 5 + k, none⟩) hg0]
        exact RdL.elem (f := tc) (fun _ => rfl) hrg hx k u hu
      have hbxr : Box wr w.heap.size 49 (tc t) := hbx0.below BW.out hbx0.lt
      have HX := Lib.hid hx
      have hbd : Hid (∀ z, Loopy.before x t = z → Loopy.before x t = z) := fun _ h => h
      obtain ⟨d, hd⟩ : ∃ d, Loopy.before x t = d := ⟨_, rfl⟩
      have HBx : Hid (∀ w, Calls Try.prog 33 #[tag x, tag t] w fun e w' => e = .returned (.int .i64 d) ∧ Below w.heap.size w w') := by
        rw [← hd]; exact fun w => HB.out x w
      have HD := Lib.hid hd
      clear hx hrg hd hbd
      go_region_held3 (fun w' => Below wr.heap.size wr w' ∧ (w'.cell? ⟨g0, o + h * 5, none⟩ = some (.int .i64 x.id) ∧ w'.cell? ⟨g0, o + h * 5 + 1, none⟩ = some (.int .i64 x.due) ∧ w'.cell? ⟨g0, o + h * 5 + 2, none⟩ = some (.int .i64 x.every) ∧ w'.cell? ⟨g0, o + h * 5 + 3, none⟩ = some (.int .i64 x.turn) ∧ w'.cell? ⟨g0, o + h * 5 + 4, none⟩ = some (.string (byt x.call))) ∧ (w'.cell? ⟨w.heap.size, 0, none⟩ = some (.int .i64 t.id) ∧ w'.cell? ⟨w.heap.size, 1, none⟩ = some (.int .i64 t.due) ∧ w'.cell? ⟨w.heap.size, 2, none⟩ = some (.int .i64 t.every) ∧ w'.cell? ⟨w.heap.size, 3, none⟩ = some (.int .i64 t.turn) ∧ w'.cell? ⟨w.heap.size, 4, none⟩ = some (.string (byt t.call))))
        (first | exact elT hgw hrange.out hbxr (Below.drew (Below.refl _ wr)) | (go_split_ands; exact elT hgw hrange.out hbxr ((Below.drew (Below.refl _ wr)).trans hb1)))
        (first | (go_at_call 33; ((with_reducible refine (HBx.out _).mono ?_); rintro e w1 ⟨rfl, hb1⟩)))
      rename_i hH
      have hbz : Below W.heap.size W _ := BW.out.trans (hH.1.mono BW.out.size)
      by_cases hneg : d < 0
      · have hneg2 : decide (d < 0) = true := by simpa using hneg
        go_wp2
        go_roundg (j - (h + 1))
        case measure => omega
        case rel =>
          refine ⟨h + 1, j, by omega, hj, by omega, by go_num, rfl, hbz, (show Hid _ from fun k y hk hy => ?_), L2⟩
          exact Loopy.sorted_low HS.out (by omega : k ≤ h) hy HX.out (by rw [HD.out]; exact hneg)
      · have hneg2 : decide (d < 0) = false := by simpa using hneg
        go_wp2
        go_roundg (h - i)
        case measure => omega
        case rel =>
          refine ⟨i, h, by omega, by omega, by omega, rfl, rfl, hbz, L1, (show Hid _ from fun k y hk hy => ?_)⟩
          have hn : ¬ Loopy.before y t < 0 := fun hn => by have : d < 0 := (by rw [← HD.out]; exact Loopy.sorted_low HS.out hk HX.out hy hn); omega
          omega
    · have hlt2 : decide ((i : Int) < (j : Int)) = false := by simp; omega
      obtain rfl : i = j := by omega
      have hpos : Loopy.pos l t = i := Loopy.pos_eq t l i hj L1.out (fun x hx => L2.out i x (Nat.le_refl _) hx)
      by_cases hin : i < l.length
      · have hin2 : decide ((i : Int) < (l.length : Int)) = true := by simp; omega
        have hin3 : (i : Int) < (l.length : Int) := by omega
        obtain ⟨x, hx⟩ : ∃ x, l[i]? = some x := ⟨_, List.getElem?_eq_getElem (by omega)⟩
        obtain ⟨g0, o, rfl, hg0, hrg⟩ := HR.out (by omega)
        have hgW : g0 < W.heap.size := by have := hb0.size; omega
        have hgw : g0 < wr.heap.size := by have := BW.out.size; omega
        have hrange : Hid (wr.rangeAt g0 (o + i * 5) (tc x).toList) := fun k u hu => by
          rw [BW.out.cell (p := ⟨g0, o + i * 5 + k, none⟩) hgW, hb0.cell (p := ⟨g0, o + i * 5 + k, none⟩) hg0]
          exact RdL.elem (f := tc) (fun _ => rfl) hrg hx k u hu
        have hbxr : Box wr w.heap.size 49 (tc t) := hbx0.below BW.out hbx0.lt
        obtain ⟨d, hd⟩ : ∃ d, Loopy.before x t = d := ⟨_, rfl⟩
        have HBx : Hid (∀ w, Calls Try.prog 33 #[tag x, tag t] w fun e w' => e = .returned (.int .i64 d) ∧ Below w.heap.size w w') := by
          rw [← hd]; exact fun w => HB.out x w
        have HPO := Lib.hid hpos
        clear hx hrg hd hpos
        go_wp2_with (fail)
        go_region_held3 (fun w' => Below wr.heap.size wr w' ∧ (w'.cell? ⟨g0, o + i * 5, none⟩ = some (.int .i64 x.id) ∧ w'.cell? ⟨g0, o + i * 5 + 1, none⟩ = some (.int .i64 x.due) ∧ w'.cell? ⟨g0, o + i * 5 + 2, none⟩ = some (.int .i64 x.every) ∧ w'.cell? ⟨g0, o + i * 5 + 3, none⟩ = some (.int .i64 x.turn) ∧ w'.cell? ⟨g0, o + i * 5 + 4, none⟩ = some (.string (byt x.call))) ∧ (w'.cell? ⟨w.heap.size, 0, none⟩ = some (.int .i64 t.id) ∧ w'.cell? ⟨w.heap.size, 1, none⟩ = some (.int .i64 t.due) ∧ w'.cell? ⟨w.heap.size, 2, none⟩ = some (.int .i64 t.every) ∧ w'.cell? ⟨w.heap.size, 3, none⟩ = some (.int .i64 t.turn) ∧ w'.cell? ⟨w.heap.size, 4, none⟩ = some (.string (byt t.call))))
          (first | exact elT hgw hrange.out hbxr (Below.drew (Below.refl _ wr)) | (go_split_ands; exact elT hgw hrange.out hbxr ((Below.drew (Below.refl _ wr)).trans hb1)))
          (first | (go_at_call 33; ((with_reducible refine (HBx.out _).mono ?_); rintro e w1 ⟨rfl, hb1⟩)))
        rename_i hH
        have hbz : Below W.heap.size W _ := BW.out.trans (hH.1.mono BW.out.size)
        go_wp2
        go_ret2
        rw [HPO.out]
        exact ⟨_, rfl, hb0.trans (hbz.mono hb0.size)⟩
      · have hin2 : decide ((i : Int) < (l.length : Int)) = false := by simp; omega
        have hin3 : ¬ (i : Int) < (l.length : Int) := by omega
        have HPO := Lib.hid hpos
        clear hpos
        go_wp2_with (fail)
        go_quiet (fail)
        go_wp2
        go_ret2
        rw [HPO.out]
        exact ⟨_, rfl, hb0.trans ((below_drewN BW.out _).mono hb0.size)⟩
set_option maxHeartbeats 2000000 in
theorem lay_any (l : List Loopy.Timer) (t : Loopy.Timer) (base : Nat) (v : Value) (w : World) (hown : w.ownsRow base 49 5 v l.length (flat tc l)) (hbase : base ≤ w.heap.size) (hs : l.Pairwise Loopy.Lt) (hl : l.length ≤ 1000000) :
    Calls Try.prog 46 #[v, tag t] w fun e w' => InsOut w base 49 5 (l.length + 1) v.ownBlock (flat tc (Loopy.lay l t)) e w' := by
  have HF := Lib.hid (fun w (h : TRd w l v) => search_any l t v w h hs hl)
  have HI := Lib.hid (fun w h1 h2 vb h3 h4 => insert_timer l t (Loopy.pos l t) (Loopy.pos_le l t) base v w h1 h2 vb h3 h4 hl)
  rw [Loopy.lay_pos]
  obtain ⟨p, hp⟩ : ∃ p, Loopy.pos l t = p := ⟨_, rfl⟩
  rw [hp] at HF HI ⊢
  have hlt : ∀ k, v.ownBlock = some k → k < w.heap.size := fun k hk => (hown.lt k hk).2
  have HLT := Lib.hid hlt
  have HW := Lib.hid hown
  clear hp hs hown hlt
  go_enter Try.func46, Try.ntmps46
  go_wp2_with (fail)
  have hb0 := below1 w (.cells (tc t) 49)
  have hbx0 : Box (w.alloc (.cells (tc t) 49)) w.heap.size 49 (tc t) := Box.new w _ (tc t)
  have HW1 := Lib.hid (own_below HW.out hb0)
  generalize (w.alloc (.cells (tc t) 49)) = W at *
  refine (HF.out W (Rd.own HW1.out)).mono ?_
  rintro e w1 ⟨b, rfl, hb1⟩
  have hbx1 : Box w1 w.heap.size 49 (tc t) := hbx0.below hb1 hbx0.lt
  have HW2 := Lib.hid (own_below HW1.out hb1)
  have hz1 : w.heap.size < w1.heap.size := hbx1.lt
  have hb01 : Below w.heap.size w w1 := hb0.trans (hb1.mono hb0.size)
  clear hbx0 HW1 hb1 hb0 HW
  go_wp2_with (refine wpList_load_row rfl 49 _ rfl w.heap.size rfl _ (tc t) (0, 0) _ hbx1 Try.underlying49 rfl info_timer ?_)
  have hbn : Box (w1.alloc (.cells (tc t) 49)) w1.heap.size 49 (tc t) := Box.new w1 _ (tc t)
  have hbb := below1 w1 (.cells (tc t) 49)
  refine (HI.out _ (own_below HW2.out hbb) (by simp; omega) _ hbn (fun h => by have := HLT.out _ h; omega)).mono ?_
  rintro e w2 ⟨g, cap, rfl, hown2, hor, hlt2, hgr⟩
  go_wp2
  go_ret
  refine ⟨g, cap, rfl, hown2, ?_, hlt2, ?_⟩
  · rcases hor with h | h
    · exact .inl h
    · refine .inr ?_; simp at h; omega
  · have h1 : w.grownBy (w1.alloc (.cells (tc t) 49)) v.ownBlock := by
      have h2 := hb01.trans (hbb.mono hb01.size)
      exact ⟨h2.os, h2.tape, h2.output, h2.size, fun i hi _ => h2.block i hi⟩
    exact ⟨hgr.os.trans h1.os, hgr.tape.trans h1.tape, hgr.output.trans h1.output, Nat.le_trans h1.size hgr.size, fun i hi hn => (hgr.block i (Nat.lt_of_lt_of_le hi h1.size) hn).trans (h1.block i hi hn)⟩
end Go.Proofs.Ytpjbblbehbepbaa
