/-
  Texts that the law leans on: PwO, PwP. Conditions: as each says.
-/
import Derived.Test.YtonjdlialejedaaGreatDoorXAs
import Derived.Test.YtonjdlialejedaaGreatDoorXBc
import Derived.Test.YtonjdlialejedaaGreatDoorXAa
set_option linter.unusedSimpArgs false
set_option linter.unusedVariables false
namespace Go.Proofs.YtonjdlialejedaaGreatDoor
open Go.Lib (hid)
open Go.RowKit
structure Wall (N : Nat) : Prop where
 block : ∀ {n : Pars.Node} {cs : Array Value} {w : World} {B wb : Nat} {l : List UInt8}, Wri.wg n ≤ N → Wri.wg n ≤ 1048576 → Ri n → NodeAt w (fun g => g < B) n cs → Wt B wb l w → B ≤ w.heap.size → 7 ≤ B → EnvW w → l.length + (Wri.wr n .block).length ≤ 70368744177664 → Calls Tryz.prog 35 #[.pointer (some ⟨wb, 0, none⟩), .agg cs] w (WOut B wb l (Wri.wr n .block) w)
 stmt : ∀ {n : Pars.Node} {cs : Array Value} {w : World} {B wb : Nat} {l : List UInt8}, Wri.wg n ≤ N → Wri.wg n ≤ 1048576 → Ri n → NodeAt w (fun g => g < B) n cs → Wt B wb l w → B ≤ w.heap.size → 7 ≤ B → EnvW w → l.length + (Wri.wr n .stmt).length ≤ 70368744177664 → Calls Tryz.prog 20 #[.pointer (some ⟨wb, 0, none⟩), .agg cs] w (WOut B wb l (Wri.wr n .stmt) w)
 any : ∀ {n : Pars.Node} {cs : Array Value} {w : World} {B wb : Nat} {l : List UInt8}, Wri.wg n ≤ N → Wri.wg n ≤ 1048576 → Ri n → NodeAt w (fun g => g < B) n cs → Wt B wb l w → B ≤ w.heap.size → 7 ≤ B → EnvW w → l.length + (Wri.wr n (.at (-2))).length ≤ 70368744177664 → Calls Tryz.prog 32 #[.pointer (some ⟨wb, 0, none⟩), .agg cs] w (WOut B wb l (Wri.wr n (.at (-2))) w)
 ex : ∀ {n : Pars.Node} {cs : Array Value} {w : World} {B wb : Nat} {l : List UInt8}, Wri.wg n ≤ N → Wri.wg n ≤ 1048576 → Ri n → NodeAt w (fun g => g < B) n cs → Wt B wb l w → B ≤ w.heap.size → 7 ≤ B → EnvW w → l.length + (Wri.wr n .ex).length ≤ 70368744177664 → Calls Tryz.prog 87 #[.pointer (some ⟨wb, 0, none⟩), .agg cs] w (WOut B wb l (Wri.wr n .ex) w)
 fst : ∀ {n : Pars.Node} {cs : Array Value} {w : World} {B wb : Nat} {l : List UInt8}, Wri.wg n ≤ N → Wri.wg n ≤ 1048576 → Ri n → NodeAt w (fun g => g < B) n cs → Wt B wb l w → B ≤ w.heap.size → 7 ≤ B → EnvW w → l.length + (Wri.wr n .fst).length ≤ 70368744177664 → Calls Tryz.prog 96 #[.pointer (some ⟨wb, 0, none⟩), .agg cs] w (WOut B wb l (Wri.wr n .fst) w)
 fn : ∀ {n : Pars.Node} {cs : Array Value} {w : World} {B wb : Nat} {l : List UInt8}, Wri.wg n ≤ N → Wri.wg n ≤ 1048576 → Ri n → n.kind = 9 → NodeAt w (fun g => g < B) n cs → Wt B wb l w → B ≤ w.heap.size → 7 ≤ B → EnvW w → l.length + (Wri.wr n .fn).length ≤ 70368744177664 → Calls Tryz.prog 33 #[.pointer (some ⟨wb, 0, none⟩), .agg cs] w (WOut B wb l (Wri.wr n .fn) w)
 ifs : ∀ {n : Pars.Node} {cs : Array Value} {w : World} {B wb : Nat} {l : List UInt8}, Wri.wg n ≤ N → Wri.wg n ≤ 1048576 → Ri n → n.kind = 22 → NodeAt w (fun g => g < B) n cs → Wt B wb l w → B ≤ w.heap.size → 7 ≤ B → EnvW w → l.length + (Wri.wr n .ifs).length ≤ 70368744177664 → Calls Tryz.prog 34 #[.pointer (some ⟨wb, 0, none⟩), .agg cs] w (WOut B wb l (Wri.wr n .ifs) w)
 tries : ∀ {n : Pars.Node} {cs : Array Value} {w : World} {B wb : Nat} {l : List UInt8}, Wri.wg n ≤ N → Wri.wg n ≤ 1048576 → Ri n → n.kind = 29 → NodeAt w (fun g => g < B) n cs → Wt B wb l w → B ≤ w.heap.size → 7 ≤ B → EnvW w → l.length + (Wri.wr n .tries).length ≤ 70368744177664 → Calls Tryz.prog 36 #[.pointer (some ⟨wb, 0, none⟩), .agg cs] w (WOut B wb l (Wri.wr n .tries) w)
 at_ : ∀ (q : Int) {n : Pars.Node} {cs : Array Value} {w : World} {B wb : Nat} {l : List UInt8}, Wri.wg n ≤ N → Wri.wg n ≤ 1048576 → Ri n → NodeAt w (fun g => g < B) n cs → Wt B wb l w → B ≤ w.heap.size → 7 ≤ B → EnvW w → l.length + (Wri.wr n (.at q)).length ≤ 70368744177664 → Calls Tryz.prog 67 #[.pointer (some ⟨wb, 0, none⟩), .agg cs, .int .i64 q] w (WOut B wb l (Wri.wr n (.at q)) w)
def flatS (l : List Pars.Node) : List UInt8 := l.flatMap fun x => Wri.wr x .stmt ++ [32]
theorem flatS_take {l : List Pars.Node} {j : Nat} {x : Pars.Node} (h : l[j]? = some x) : flatS (l.take (j + 1)) = flatS (l.take j) ++ (Wri.wr x .stmt ++ [32]) := by
 unfold flatS
 rw [List.take_add_one, h, List.flatMap_append]
 simp
theorem flat_mono (l : List Pars.Node) : ∀ j, (flatS (l.take j)).length ≤ (flatS l).length := by
 intro j
 have : l = l.take j ++ l.drop j := (List.take_append_drop j l).symm
 have e : flatS l = flatS (l.take j) ++ flatS (l.drop j) := by
  unfold flatS
  rw [← List.flatMap_append, List.take_append_drop]
 rw [e, List.length_append]; omega
theorem wr_block (k nu : Int) (t : List UInt8) (l : List Pars.Node) : Wri.wr (.mk k nu t l) .block = [123, 32] ++ flatS l ++ [125] := by
 show Wri.wBlock (Wri.wrs l) = _
 unfold Wri.wBlock flatS
 rw [Wri.wrs_map, List.flatMap_map]
set_option maxRecDepth 100000 in
set_option maxHeartbeats 4000000 in
theorem block_w {N : Nat} (IH : Wall N) : ∀ {n : Pars.Node} {cs : Array Value} {w : World} {B wb : Nat} {l : List UInt8}, Wri.wg n ≤ N + 1 → Wri.wg n ≤ 1048576 → Ri n → NodeAt w (fun g => g < B) n cs → Wt B wb l w → B ≤ w.heap.size → 7 ≤ B → EnvW w → l.length + (Wri.wr n .block).length ≤ 70368744177664 → Calls Tryz.prog 35 #[.pointer (some ⟨wb, 0, none⟩), .agg cs] w (WOut B wb l (Wri.wr n .block) w) := by
 intro n cs w B wb l hN hM hR hn hW hBw h7 he hl
 obtain ⟨k, nu, t, kl⟩ := n
 have hn0 := hn
 unfold NodeAt at hn
 obtain ⟨A, cap, css, rfl, hc1, hc2, hrow, hk⟩ := hn
 have HROW := hid hrow
 have HK := hid hk
 have HN := hid hn0
 have HE := hid he
 have hwlt := hW.lt
 have hll := Wri.wgs_len kl
 clear hrow hk hn0 he
 have HSF := hid (flat_mono kl)
 have hl2 : l.length + (([123, 32] ++ flatS kl ++ [125] : List UInt8)).length ≤ 70368744177664 := by rw [← wr_block k nu t kl]; exact hl
 clear hl
 have hl := hl2
 clear hl2
 go_enter Tryz.func35, Tryz.ntmps35
 go_upto_region 1 with fail
 refine gen_world (F := fun W => Box W w.heap.size 24 (nc k nu t (.slice A kl.length cap)) ∧ Below w.heap.size w W) ⟨Box.new w _ _, below1 w _⟩ ?_
 rintro W0 ⟨b0, hU⟩
 have NB := hid b0
 have WT := hid (hW.below hU)
 have HU : Hid (Below B w W0) := hid (hU.mono hBw)
 have HS : Hid (Stays wb w W0) := hid (Stays.below hU)
 have hB0 : B ≤ W0.heap.size := Nat.le_trans hBw hU.size
 have hnw : w.heap.size ≠ wb := by omega
 have hbx := Nat.lt_of_lt_of_le b0.lt (Nat.le_refl _)
 clear b0 hU
 have HNENB := hid hnw
 go_wp2_with fail
 refine (wstr B wb (l) [123, 32] _ WT.out (by simp only [ln] at hl ⊢; omega) hB0).mono ?_
 rintro e w1 ⟨⟨v, rfl⟩, hw, hb, hs⟩
 replace WT := hid hw
 replace NB := st hs NB HNENB
 replace HU := hid (HU.out.trans hb)
 replace HS := hid (HS.out.trans hs)
 replace hB0 := Nat.le_trans hB0 hb.size
 clear hw hb hs
 have c3 := NB.out.cell 3
 simp [nc] at c3
 go_wp2
 go_loopg [13] kl.length (fun gg s13 wr => ∃ j : Nat, j ≤ kl.length ∧ kl.length - j ≤ gg ∧ s13 = .int .i64 (j : Int) ∧ B ≤ wr.heap.size ∧ Hid (Wt B wb (l ++ [123, 32] ++ flatS (kl.take j)) wr) ∧ Hid (Box wr w.heap.size 24 (nc k nu t (.slice A kl.length cap))) ∧ Hid (Below B w wr) ∧ Hid (Stays wb w wr))
 case atStart => exact ⟨0, Nat.zero_le _, by omega, rfl, hB0, by simpa [flatS] using WT, NB, HU, HS⟩
 case round =>
  clear WT NB HU HS hB0 c3
  obtain ⟨j, hj, hg, rfl, hB0, WT, NB, HU, HS⟩ := hrel
  by_cases hlt : j < kl.length
  ·have hltz : (j : Int) < (kl.length : Int) := by omega
   have hltd : decide ((j : Int) < (kl.length : Int)) = true := decide_eq_true hltz
   have wj : IntKind.i64.wrap ((j : Int) + 1) = (j : Int) + 1 := by rw [IntKind.wrap_i64]; simp only [Wri.wg] at hM; omega
   obtain ⟨x, hx⟩ : ∃ x, kl[j]? = some x := ⟨_, List.getElem?_eq_getElem hlt⟩
   have hxw := Wri.wg_mem (List.mem_of_getElem? hx)
   obtain ⟨xc, g0, o0, rfl, hg0, hx4, hnx, hrx⟩ := kid_at HK.out HROW.out hx
   have HR0 := hid hrx
   have HXN := hid hnx
   have HXR := hid (ri_kid hR x (List.mem_of_getElem? hx))
   have HXW : Hid (Wri.wg x ≤ N ∧ Wri.wg x ≤ 1048576) := hid (by simp only [Wri.wg] at hN hM; exact ⟨by omega, by omega⟩)
   have hinf : (Tryz.prog.info? 24).map (·.size) = some xc.toList.length := by rw [Array.length_toList, hx4]; exact info_nod
   have HXI := hid hinf
   have hinf2 : (Tryz.prog.info? 24).map (·.size) = some xc.size := by rw [hx4]; exact info_nod
   have HXI2 := hid hinf2
   have H4 : Hid ((4 : Nat) = xc.size) := hid hx4.symm
   have HONE := hid (NodeAt.one hnx)
   clear hxw hnx hrx hinf hinf2 hx4
   have HTK : Hid (flatS (kl.take (j + 1)) = flatS (kl.take j) ++ (Wri.wr x .stmt ++ [32])) := hid (flatS_take hx)
   have hfl := HSF.out (j + 1)
   rw [HTK.out] at hfl
   have hkl := hlt
   clear hx
   have hrr := HR0.out wr HU.out
   have c3 := NB.out.cell 3
   simp [nc] at c3
   have hwb2 := WT.out.lt.2
   go_upto_region 5 with (first | (refine wpList_load_mid rfl 24 (.tmp 15) rfl g0 (o0 + j * 4) rfl xc.toList _ hrr Tryz.underlying24 rfl HXI.out ?_) | (refine wpList_store_box rfl 24 (.tmp 5) (.tmp 16) rfl wr.heap.size xc rfl (by simp [Act.eval, Act.put]) 24 _ (Box.new wr _ _) HXI2.out H4.out HONE.out ?_; intro w2 hx2 hu2 hz2; have HZ2 := hid hz2; clear hz2))
   have hb2 : Below wr.heap.size wr w2 := ((Below.refl _ wr).alloc (Nat.le_refl _) _).trans (hu2.own (Nat.le_refl _) (by simp))
   have EB := hid hx2
   replace NB := bl NB hb2
   replace WT := hid (WT.out.below hb2)
   replace HU := hid (HU.out.trans (hb2.mono hB0))
   replace HS := hid (HS.out.trans (Stays.below hb2))
   replace hB0 := Nat.le_trans hB0 hb2.size
   clear hx2 hu2 hb2 hrr c3 hwb2
   have eb := EB.out
   go_wp2_with (refine wpList_load_row rfl 24 (.tmp 5) rfl wr.heap.size rfl _ xc (0, 0) _ eb Tryz.underlying24 rfl HXI2.out ?_)
   refine (IH.stmt HXW.out.1 HXW.out.2 HXR.out (HXN.out.belowB HU.out) WT.out hB0 h7 (HE.out.below HU.out h7) (by simp only [ln] at hl hfl ⊢; omega)).mono ?_
   rintro e w3 ⟨rfl, hw, hb, hs⟩
   clear eb EB
   replace WT := hid hw
   replace NB := st hs NB HNENB
   replace HU := hid (HU.out.trans hb)
   replace HS := hid (HS.out.trans hs)
   replace hB0 := Nat.le_trans hB0 hb.size
   clear hw hb hs
   go_wp2_with fail
   refine (wbyte B wb (l ++ [123, 32] ++ flatS (kl.take j) ++ Wri.wr x .stmt) 32 _ WT.out (by simp only [ln] at hl hfl ⊢; omega) hB0).mono ?_
   rintro e w4 ⟨rfl, hw, hb, hs⟩
   replace WT := hid hw
   replace NB := st hs NB HNENB
   replace HU := hid (HU.out.trans hb)
   replace HS := hid (HS.out.trans hs)
   replace hB0 := Nat.le_trans hB0 hb.size
   clear hw hb hs
   go_wp2
   go_roundg (kl.length - (j + 1))
   case measure => omega
   case rel => exact ⟨j + 1, by omega, by omega, rfl, hB0, by rw [HTK.out]; simpa [List.append_assoc] using WT, NB, HU, HS⟩
  ·have hltz : ¬ (j : Int) < (kl.length : Int) := by omega
   have hltd : decide ((j : Int) < (kl.length : Int)) = false := decide_eq_false hltz
   replace WT : Hid (Wt B wb (l ++ [123, 32] ++ flatS kl) wr) := hid (by have := WT.out; rwa [List.take_of_length_le (by omega)] at this)
   go_wp2_with fail
   refine (wbyte B wb (l ++ [123, 32] ++ flatS kl) 125 _ WT.out (by simp only [ln] at hl ⊢; omega) hB0).mono ?_
   rintro e w5 ⟨rfl, hw, hb, hs⟩
   replace WT := hid hw
   replace NB := st hs NB HNENB
   replace HU := hid (HU.out.trans hb)
   replace HS := hid (HS.out.trans hs)
   replace hB0 := Nat.le_trans hB0 hb.size
   clear hw hb hs
   go_wp2
   go_end0
   exact ⟨rfl, by rw [wr_block]; simpa [List.append_assoc] using WT.out, HU.out, HS.out⟩
end Go.Proofs.YtonjdlialejedaaGreatDoor
namespace Go.Proofs.YtonjdlialejedaaGreatDoor
open Go.Lib (hid)
open Go.RowKit
theorem wr_at (k nu : Int) (t : List UInt8) (l : List Pars.Node) (q : Int) : Wri.wr (.mk k nu t l) (.at q) = if q ≤ Wri.rank (.mk k nu t []) then Wri.wr (.mk k nu t l) .ex else [40] ++ Wri.wr (.mk k nu t l) .ex ++ [41] := rfl
set_option maxRecDepth 100000 in
set_option maxHeartbeats 4000000 in
theorem any_w {N : Nat} (AT : ∀ (q : Int) {n : Pars.Node} {cs : Array Value} {w : World} {B wb : Nat} {l : List UInt8}, Wri.wg n ≤ N + 1 → Wri.wg n ≤ 1048576 → Ri n → NodeAt w (fun g => g < B) n cs → Wt B wb l w → B ≤ w.heap.size → 7 ≤ B → EnvW w → l.length + (Wri.wr n (.at q)).length ≤ 70368744177664 → Calls Tryz.prog 67 #[.pointer (some ⟨wb, 0, none⟩), .agg cs, .int .i64 q] w (WOut B wb l (Wri.wr n (.at q)) w)) : ∀ {n : Pars.Node} {cs : Array Value} {w : World} {B wb : Nat} {l : List UInt8}, Wri.wg n ≤ N + 1 → Wri.wg n ≤ 1048576 → Ri n → NodeAt w (fun g => g < B) n cs → Wt B wb l w → B ≤ w.heap.size → 7 ≤ B → EnvW w → l.length + (Wri.wr n (.at (-2))).length ≤ 70368744177664 → Calls Tryz.prog 32 #[.pointer (some ⟨wb, 0, none⟩), .agg cs] w (WOut B wb l (Wri.wr n (.at (-2))) w) := by
 intro n cs w B wb l hN hM hR hn hW hBw h7 he hl
 obtain ⟨k, nu, t, kl⟩ := n
 have hn0 := hn
 unfold NodeAt at hn
 obtain ⟨A, cap, css, rfl, hc1, hc2, hrow, hk⟩ := hn
 have HROW := hid hrow
 have HK := hid hk
 have HN := hid hn0
 have HE := hid he
 have hwlt := hW.lt
 have hll := Wri.wgs_len kl
 clear hrow hk hn0 he
 have INF : (Tryz.prog.info? 24).map (·.size) = some (nc k nu t (.slice A kl.length cap)).size := info_nod
 go_enter Tryz.func32, Tryz.ntmps32
 go_upto_region 1 with fail
 refine gen_world (F := fun W => Box W w.heap.size 24 (nc k nu t (.slice A kl.length cap)) ∧ Below w.heap.size w W) ⟨Box.new w _ _, below1 w _⟩ ?_
 rintro W0 ⟨b0, hU⟩
 have NB := hid b0
 have WT := hid (hW.below hU)
 have HU : Hid (Below B w W0) := hid (hU.mono hBw)
 have HS : Hid (Stays wb w W0) := hid (Stays.below hU)
 have hB0 : B ≤ W0.heap.size := Nat.le_trans hBw hU.size
 have hnw : w.heap.size ≠ wb := by omega
 have hbx := Nat.lt_of_lt_of_le b0.lt (Nat.le_refl _)
 clear b0 hU
 go_wp2_with (refine wpList_load_row rfl 24 (.tmp 3) rfl w.heap.size rfl _ (nc k nu t (.slice A kl.length cap)) (0, 0) _ NB.out Tryz.underlying24 rfl INF ?_)
 refine (AT (-2) hN hM hR (HN.out.belowB HU.out) WT.out hB0 h7 (HE.out.below HU.out h7) hl).mono ?_
 rintro e w2 ⟨rfl, hw, hb, hs⟩
 go_wp2
 go_end0
 exact ⟨rfl, hw, HU.out.trans hb, HS.out.trans hs⟩
set_option maxRecDepth 100000 in
set_option maxHeartbeats 4000000 in
theorem at_w {N : Nat} (EX : ∀ {n : Pars.Node} {cs : Array Value} {w : World} {B wb : Nat} {l : List UInt8}, Wri.wg n ≤ N + 1 → Wri.wg n ≤ 1048576 → Ri n → NodeAt w (fun g => g < B) n cs → Wt B wb l w → B ≤ w.heap.size → 7 ≤ B → EnvW w → l.length + (Wri.wr n .ex).length ≤ 70368744177664 → Calls Tryz.prog 87 #[.pointer (some ⟨wb, 0, none⟩), .agg cs] w (WOut B wb l (Wri.wr n .ex) w)) : ∀ (q : Int) {n : Pars.Node} {cs : Array Value} {w : World} {B wb : Nat} {l : List UInt8}, Wri.wg n ≤ N + 1 → Wri.wg n ≤ 1048576 → Ri n → NodeAt w (fun g => g < B) n cs → Wt B wb l w → B ≤ w.heap.size → 7 ≤ B → EnvW w → l.length + (Wri.wr n (.at q)).length ≤ 70368744177664 → Calls Tryz.prog 67 #[.pointer (some ⟨wb, 0, none⟩), .agg cs, .int .i64 q] w (WOut B wb l (Wri.wr n (.at q)) w) := by
 intro q n cs w B wb l hN hM hR hn hW hBw h7 he hl
 obtain ⟨k, nu, t, kl⟩ := n
 have hn0 := hn
 unfold NodeAt at hn
 obtain ⟨A, cap, css, rfl, hc1, hc2, hrow, hk⟩ := hn
 have HROW := hid hrow
 have HK := hid hk
 have HN := hid hn0
 have HE := hid he
 have hwlt := hW.lt
 have hll := Wri.wgs_len kl
 clear hrow hk hn0 he
 have INF : (Tryz.prog.info? 24).map (·.size) = some (nc k nu t (.slice A kl.length cap)).size := info_nod
 have hl2 : l.length + (if q ≤ Wri.rank (.mk k nu t []) then Wri.wr (.mk k nu t kl) .ex else [40] ++ Wri.wr (.mk k nu t kl) .ex ++ [41]).length ≤ 70368744177664 := by rw [← wr_at k nu t kl q]; exact hl
 clear hl
 have hl := hl2
 clear hl2
 go_enter Tryz.func67, Tryz.ntmps67
 go_upto_region 1 with fail
 refine gen_world (F := fun W => Box W w.heap.size 24 (nc k nu t (.slice A kl.length cap)) ∧ Below w.heap.size w W) ⟨Box.new w _ _, below1 w _⟩ ?_
 rintro W0 ⟨b0, hU⟩
 have NB := hid b0
 have WT := hid (hW.below hU)
 have HU : Hid (Below B w W0) := hid (hU.mono hBw)
 have HS : Hid (Stays wb w W0) := hid (Stays.below hU)
 have hB0 : B ≤ W0.heap.size := Nat.le_trans hBw hU.size
 have hnw : w.heap.size ≠ wb := by omega
 have hbx := Nat.lt_of_lt_of_le b0.lt (Nat.le_refl _)
 clear b0 hU
 have HNENB := hid hnw
 go_wp2_with (refine wpList_load_row rfl 24 (.tmp 4) rfl w.heap.size rfl _ (nc k nu t (.slice A kl.length cap)) (0, 0) _ NB.out Tryz.underlying24 rfl INF ?_)
 refine (rank_any k nu t kl A kl.length cap _).mono ?_
 rintro e w1 ⟨rfl, hb⟩
 have hbB := hb.mono hB0
 replace NB := bl NB hb
 replace WT := hid (WT.out.below hb)
 replace HU := hid (HU.out.trans hbB)
 replace HS := hid (HS.out.trans (Stays.below hb))
 replace hB0 := Nat.le_trans hB0 hb.size
 clear hb hbB
 have hrk : Wri.rank (.mk k nu t kl) = Wri.rank (.mk k nu t []) := rfl
 rw [hrk]
 by_cases hq : q ≤ Wri.rank (.mk k nu t [])
 ·rw [if_pos hq] at hl
  have hqd : decide (q ≤ Wri.rank (.mk k nu t [])) = true := decide_eq_true hq
  go_wp2_with (refine wpList_load_row rfl 24 (.tmp 4) rfl w.heap.size rfl _ (nc k nu t (.slice A kl.length cap)) (0, 0) _ NB.out Tryz.underlying24 rfl INF ?_)
  refine (EX hN hM hR (HN.out.belowB HU.out) WT.out hB0 h7 (HE.out.below HU.out h7) (by (try simp only [ln] at hl); (try simp only [ln]); omega)).mono ?_
  rintro e w2 ⟨rfl, hw, hb, hs⟩
  go_wp2
  go_end0
  exact ⟨rfl, by rw [wr_at, if_pos hq]; exact hw, HU.out.trans hb, HS.out.trans hs⟩
 ·rw [if_neg hq] at hl
  have HQN := hid hq
  have hqd : decide (q ≤ Wri.rank (.mk k nu t [])) = false := decide_eq_false hq
  go_wp2_with fail
  refine (wbyte B wb (l) 40 _ WT.out (by (try simp only [ln] at hl); (try simp only [ln]); omega) hB0).mono ?_
  rintro e w2 ⟨rfl, hw, hb, hs⟩
  replace WT := hid hw
  replace NB := st hs NB HNENB
  replace HU := hid (HU.out.trans hb)
  replace HS := hid (HS.out.trans hs)
  replace hB0 := Nat.le_trans hB0 hb.size
  clear hw hb hs
  go_wp2_with (refine wpList_load_row rfl 24 (.tmp 4) rfl w.heap.size rfl _ (nc k nu t (.slice A kl.length cap)) (0, 0) _ NB.out Tryz.underlying24 rfl INF ?_)
  refine (EX hN hM hR (HN.out.belowB HU.out) WT.out hB0 h7 (HE.out.below HU.out h7) (by (try simp only [ln] at hl); (try simp only [ln]); omega)).mono ?_
  rintro e w3 ⟨rfl, hw, hb, hs⟩
  replace WT := hid hw
  replace NB := st hs NB HNENB
  replace HU := hid (HU.out.trans hb)
  replace HS := hid (HS.out.trans hs)
  replace hB0 := Nat.le_trans hB0 hb.size
  clear hw hb hs
  go_wp2_with fail
  refine (wbyte B wb (l ++ [40] ++ Wri.wr (.mk k nu t kl) .ex) 41 _ WT.out (by (try simp only [ln] at hl); (try simp only [ln]); omega) hB0).mono ?_
  rintro e w4 ⟨rfl, hw, hb, hs⟩
  replace WT := hid hw
  replace NB := st hs NB HNENB
  replace HU := hid (HU.out.trans hb)
  replace HS := hid (HS.out.trans hs)
  replace hB0 := Nat.le_trans hB0 hb.size
  clear hw hb hs
  go_wp2
  go_end0
  exact ⟨rfl, by rw [wr_at, if_neg (Int.not_le.mpr HQN.out)]; simpa [List.append_assoc] using WT.out, HU.out, HS.out⟩
end Go.Proofs.YtonjdlialejedaaGreatDoor
