/-
  Texts that the law leans on: PwQ, PwR. Conditions: as each says.
-/
import Derived.Test.YtonjdlialejedaaGreatDoorXBd
import Derived.StillTailTactics
import Derived.Test.YtonjdlialejedaaGreatDoorXAa
set_option linter.unusedSimpArgs false
set_option linter.unusedVariables false
namespace Go.Proofs.YtonjdlialejedaaGreatDoor
open Go.Lib (hid)
open Go.RowKit
theorem joinC_snoc (l : List Pars.Bs) (x : Pars.Bs) (h : l ≠ []) : Wri.joinC (l ++ [x]) = Wri.joinC l ++ [44, 32] ++ x := by
 induction l with
 | nil => exact absurd rfl h
 | cons a l ih =>
  cases l with
  | nil => simp [Wri.joinC]
  | cons b l => 
   have := ih (by simp)
   simp only [List.cons_append, Wri.joinC] at this ⊢
   rw [this]; simp [List.append_assoc]
theorem joinC_app (a b : List Pars.Bs) : (Wri.joinC a).length ≤ (Wri.joinC (a ++ b)).length := by
 induction b generalizing a with
 | nil => simp
 | cons x b ih =>
  have h := ih (a ++ [x])
  rw [List.append_assoc] at h
  refine Nat.le_trans ?_ h
  by_cases h0 : a = []
  ·subst h0; simp [Wri.joinC]
  ·rw [joinC_snoc a x h0]; simp
def toldC (F : Pars.Node → Pars.Bs) (xs : List Pars.Node) (j : Nat) : Pars.Bs := Wri.joinC ((xs.take j).map F)
theorem toldC_mono (F : Pars.Node → Pars.Bs) (xs : List Pars.Node) (j : Nat) : (toldC F xs j).length ≤ (Wri.joinC (xs.map F)).length := by
 have h := joinC_app ((xs.take j).map F) ((xs.drop j).map F)
 rw [← List.map_append, List.take_append_drop] at h
 exact h
theorem toldC_one {F : Pars.Node → Pars.Bs} {xs : List Pars.Node} {x : Pars.Node} (h : xs[0]? = some x) : toldC F xs 1 = F x := by
 cases xs with
 | nil => cases h
 | cons a l => simp only [List.getElem?_cons_zero, Option.some.injEq] at h; subst h; rfl
theorem toldC_succ {F : Pars.Node → Pars.Bs} {xs : List Pars.Node} {x : Pars.Node} {j : Nat} (h : xs[j]? = some x) (h0 : 0 < j) : toldC F xs (j + 1) = toldC F xs j ++ [44, 32] ++ F x := by
 have hj : j < xs.length := (List.getElem?_eq_some_iff.mp h).1
 unfold toldC
 rw [List.take_add_one, h]
 simp only [Option.toList_some, List.map_append, List.map_cons, List.map_nil]
 exact joinC_snoc _ _ (by intro e; have := congrArg List.length e; simp only [List.length_map, List.length_take, List.length_nil] at this; omega)
theorem toldC_all (F : Pars.Node → Pars.Bs) (xs : List Pars.Node) : toldC F xs xs.length = Wri.joinC (xs.map F) := by unfold toldC; rw [List.take_length]
set_option maxRecDepth 100000 in
set_option maxHeartbeats 4000000 in
theorem list_b (F : Pars.Node → Pars.Bs) (g : Nat) (eg : ∀ args w, (callFunc g args).run Tryz.prog w = .ok (.enter g args) w) {B wb pb : Nat} {xs : List Pars.Node} {A : Option Addr} {cap : Nat} {o c l : List UInt8} {w : World}
  (hone : ∀ x, x ∈ xs → ∀ (xc : Array Value) (W : World) (l' : List UInt8), NodeAt W (fun g => g < B) x xc → Wt B wb l' W → B ≤ W.heap.size → EnvW W → l'.length + (F x).length ≤ 70368744177664 → Calls Tryz.prog g #[.pointer (some ⟨wb, 0, none⟩), .agg xc] W (WOut B wb l' (F x) W))
  (hK : ∀ (j : Nat) (x : Pars.Node), xs[j]? = some x → ∃ xc g o, A = some ⟨g, o, none⟩ ∧ g < B ∧ xc.size = 4 ∧ NodeAt w (fun g => g < B) x xc ∧ ∀ W, Below B w W → W.rangeAt g (o + j * 4) xc.toList) (hxs : xs.length ≤ 1048576) (hW : Wt B wb l w) (hBw : B ≤ w.heap.size) (h7 : 7 ≤ B) (he : EnvW w) (hl : l.length + (Wri.listed o c (xs.map F)).length ≤ 70368744177664) :
  Calls Tryz.prog 68 #[.pointer (some ⟨wb, 0, none⟩), .slice A xs.length cap, .string (byt o), .string (byt c), (.func (.func g) #[.pointer (some ⟨wb, 0, none⟩)] #[])] w (WOut B wb l (Wri.listed o c (xs.map F)) w) := by
 have HONE := hid hone
 have HKK := hid hK
 have HE := hid he
 have HTM := hid (toldC_mono F xs)
 have WT := hid hW
 have HU := hid (Below.refl B w)
 have HS := hid (Stays.below (b := wb) (Below.refl w.heap.size w))
 have hB0 := hBw
 clear hone hK he hW
 unfold Wri.listed at hl
 have hwlt := WT.out.lt
 go_enter Tryz.func68, Tryz.ntmps68
 go_wp2_with fail
 refine (wstr B wb (l) o _ WT.out (by (try simp only [ln] at hl); (try simp only [ln]); omega) hB0).mono ?_
 rintro e w1 ⟨⟨v, rfl⟩, hw, hb, hs⟩
 replace WT := hid hw
 replace HU := hid (HU.out.trans hb)
 replace HS := hid (HS.out.trans hs)
 replace hB0 := Nat.le_trans hB0 hb.size
 clear hw hb hs
 go_wp2
 go_loopg [19] xs.length (fun gg s19 wr => ∃ j : Nat, j ≤ xs.length ∧ xs.length - j ≤ gg ∧ s19 = .int .i64 (j : Int) ∧ B ≤ wr.heap.size ∧ Hid (Wt B wb (l ++ o ++ toldC F xs j) wr) ∧ Hid (Below B w wr) ∧ Hid (Stays wb w wr))
 case atStart => exact ⟨0, Nat.zero_le _, by omega, rfl, hB0, by simpa [toldC, Wri.joinC] using WT, HU, HS⟩
 case round =>
  clear WT HU HS hB0
  obtain ⟨j, hj, hg, rfl, hB0, WT, HU, HS⟩ := hrel
  by_cases hlt : j < xs.length
  ·have hltz : (j : Int) < (xs.length : Int) := by omega
   have hltd : decide ((j : Int) < (xs.length : Int)) = true := decide_eq_true hltz
   have wj : IntKind.i64.wrap ((j : Int) + 1) = (j : Int) + 1 := by rw [IntKind.wrap_i64]; omega
   obtain ⟨x, hx⟩ : ∃ x, xs[j]? = some x := ⟨_, List.getElem?_eq_getElem hlt⟩
   obtain ⟨xc, g0, o0, rfl, hg0, hx4, hnx, hrx⟩ := HKK.out j x hx
   have HR0 := hid hrx
   have HXN := hid hnx
   have HXM := hid (List.mem_of_getElem? hx)
   have hinf : (Tryz.prog.info? 24).map (·.size) = some xc.toList.length := by rw [Array.length_toList, hx4]; exact info_nod
   have HXI := hid hinf
   have hinf2 : (Tryz.prog.info? 24).map (·.size) = some xc.size := by rw [hx4]; exact info_nod
   have HXI2 := hid hinf2
   have H4 : Hid ((4 : Nat) = xc.size) := hid hx4.symm
   have HONX := hid (NodeAt.one hnx)
   clear hnx hrx hinf hinf2 hx4
   have hrr := HR0.out wr HU.out
   have HM1 := HTM.out (j + 1)
   have hwb2 := WT.out.lt.2
   have HX := hid hx
   clear hx
   go_upto_region 4 with (first | (refine wpList_load_mid rfl 24 (.tmp 22) rfl g0 (o0 + j * 4) rfl xc.toList _ hrr Tryz.underlying24 rfl HXI.out ?_) | (refine wpList_store_box rfl 24 (.tmp 11) (.tmp 23) rfl wr.heap.size xc rfl (by simp [Act.eval, Act.put]) 24 _ (Box.new wr _ _) HXI2.out H4.out HONX.out ?_; intro w2 hx2 hu2 hz2; have HZ2 := hid hz2; clear hz2))
   have hb2 : Below wr.heap.size wr w2 := ((Below.refl _ wr).alloc (Nat.le_refl _) _).trans (hu2.own (Nat.le_refl _) (by simp))
   have EB := hid hx2
   replace WT := hid (WT.out.below hb2)
   replace HU := hid (HU.out.trans (hb2.mono hB0))
   replace HS := hid (HS.out.trans (Stays.below hb2))
   have hB1 : B ≤ w2.heap.size := Nat.le_trans hB0 hb2.size
   have HNE : Hid (wr.heap.size ≠ wb) := hid (by omega)
   clear hB0
   have hB0 := hB1
   clear hx2 hu2 hb2 hrr hwb2
   by_cases h0 : j = 0
   ·subst h0
    replace WT : Hid (Wt B wb (l ++ o) w2) := hid (by have := WT.out; simpa [toldC, Wri.joinC] using this)
    have HT1 : Hid (toldC F xs (0 + 1) = F x) := hid (toldC_one HX.out)
    have HM2 : (F x).length ≤ (Wri.joinC (xs.map F)).length := by rw [← HT1.out]; exact HM1
    clear HM1
    have eb := EB.out
    go_wp2_with (refine wpList_load_row rfl 24 (.tmp 11) rfl wr.heap.size rfl _ xc (0, 0) _ eb Tryz.underlying24 rfl HXI2.out ?_)
    refine (HONE.out x HXM.out xc _ (l ++ o) (HXN.out.belowB HU.out) WT.out hB0 (HE.out.below HU.out h7) (by (try simp only [ln] at hl HM2); (try simp only [ln]); omega)).mono ?_
    rintro e w3 ⟨rfl, hw, hb, hs⟩
    clear eb EB
    replace WT := hid hw
    replace HU := hid (HU.out.trans hb)
    replace HS := hid (HS.out.trans hs)
    replace hB0 := Nat.le_trans hB0 hb.size
    clear hw hb hs
    go_wp2
    go_roundg (xs.length - (0 + 1))
    case measure => omega
    case rel => exact ⟨0 + 1, by omega, by omega, rfl, hB0, by rw [HT1.out]; simpa [List.append_assoc] using WT, HU, HS⟩
   ·have d1 : decide ((0 : Int) < (j : Int)) = true := decide_eq_true (by omega)
    have d2 : (0 : Int) < (j : Int) := by omega
    have d3 : 0 < j := by omega
    have HT1 : Hid (toldC F xs (j + 1) = toldC F xs j ++ [44, 32] ++ F x) := hid (toldC_succ HX.out d3)
    have HM2 : (toldC F xs j ++ [44, 32] ++ F x).length ≤ (Wri.joinC (xs.map F)).length := by rw [← HT1.out]; exact HM1
    clear HM1
    go_wp2_with fail
    refine (wstr B wb (l ++ o ++ toldC F xs j) [44, 32] _ WT.out (by (try simp only [ln] at hl HM2); (try simp only [ln]); omega) hB0).mono ?_
    rintro e w3 ⟨⟨v, rfl⟩, hw, hb, hs⟩
    replace EB := st hs EB HNE
    replace WT := hid hw
    replace HU := hid (HU.out.trans hb)
    replace HS := hid (HS.out.trans hs)
    replace hB0 := Nat.le_trans hB0 hb.size
    clear hw hb hs
    have eb := EB.out
    go_wp2_with (refine wpList_load_row rfl 24 (.tmp 11) rfl wr.heap.size rfl _ xc (0, 0) _ eb Tryz.underlying24 rfl HXI2.out ?_)
    refine (HONE.out x HXM.out xc _ (l ++ o ++ toldC F xs j ++ [44, 32]) (HXN.out.belowB HU.out) WT.out hB0 (HE.out.below HU.out h7) (by (try simp only [ln] at hl HM2); (try simp only [ln]); omega)).mono ?_
    rintro e w4 ⟨rfl, hw, hb, hs⟩
    clear eb EB
    replace WT := hid hw
    replace HU := hid (HU.out.trans hb)
    replace HS := hid (HS.out.trans hs)
    replace hB0 := Nat.le_trans hB0 hb.size
    clear hw hb hs
    go_wp2
    go_roundg (xs.length - (j + 1))
    case measure => omega
    case rel => exact ⟨j + 1, by omega, by omega, rfl, hB0, by rw [HT1.out]; simpa [List.append_assoc] using WT, HU, HS⟩
  ·have hltz : ¬ (j : Int) < (xs.length : Int) := by omega
   have hltd : decide ((j : Int) < (xs.length : Int)) = false := decide_eq_false hltz
   replace WT : Hid (Wt B wb (l ++ o ++ Wri.joinC (xs.map F)) wr) := hid (by have := WT.out; rw [show j = xs.length by omega, toldC_all] at this; exact this)
   go_wp2_with fail
   refine (wstr B wb (l ++ o ++ Wri.joinC (xs.map F)) c _ WT.out (by (try simp only [ln] at hl); (try simp only [ln]); omega) hB0).mono ?_
   rintro e w5 ⟨⟨v, rfl⟩, hw, hb, hs⟩
   replace WT := hid hw
   replace HU := hid (HU.out.trans hb)
   replace HS := hid (HS.out.trans hs)
   replace hB0 := Nat.le_trans hB0 hb.size
   clear hw hb hs
   go_wp2
   go_end0
   exact ⟨rfl, by unfold Wri.listed; simpa [List.append_assoc] using WT.out, HU.out, HS.out⟩
set_option maxRecDepth 100000 in
set_option maxHeartbeats 4000000 in
theorem list_c (F : Pars.Node → Pars.Bs) (g : Nat) (eg : ∀ args w, (callFunc g args).run Tryz.prog w = .ok (.enter g args) w) {B wb pb : Nat} {xs : List Pars.Node} {A : Option Addr} {cap : Nat} {o c l : List UInt8} {w : World}
  (hone : ∀ x, x ∈ xs → ∀ (xc : Array Value) (W : World) (l' : List UInt8), NodeAt W (fun g => g < B) x xc → Wt B wb l' W → B ≤ W.heap.size → EnvW W → Box W pb 79 #[.pointer (some ⟨wb, 0, none⟩)] → l'.length + (F x).length ≤ 70368744177664 → Calls Tryz.prog g #[.agg xc, .pointer (some ⟨pb, 0, none⟩)] W (WOut B wb l' (F x) W))
  (hK : ∀ (j : Nat) (x : Pars.Node), xs[j]? = some x → ∃ xc g o, A = some ⟨g, o, none⟩ ∧ g < B ∧ xc.size = 4 ∧ NodeAt w (fun g => g < B) x xc ∧ ∀ W, Below B w W → W.rangeAt g (o + j * 4) xc.toList) (hxs : xs.length ≤ 1048576) (hW : Wt B wb l w) (hBw : B ≤ w.heap.size) (h7 : 7 ≤ B) (he : EnvW w) (hpx : Box w pb 79 #[.pointer (some ⟨wb, 0, none⟩)]) (hpb : pb ≠ wb) (hl : l.length + (Wri.listed o c (xs.map F)).length ≤ 70368744177664) :
  Calls Tryz.prog 68 #[.pointer (some ⟨wb, 0, none⟩), .slice A xs.length cap, .string (byt o), .string (byt c), (.func (.func g) #[] #[.pointer (some ⟨pb, 0, none⟩)])] w (WOut B wb l (Wri.listed o c (xs.map F)) w) := by
 have HONE := hid hone
 have HKK := hid hK
 have HE := hid he
 have HTM := hid (toldC_mono F xs)
 have WT := hid hW
 have HU := hid (Below.refl B w)
 have HS := hid (Stays.below (b := wb) (Below.refl w.heap.size w))
 have hB0 := hBw
 have PX := hid hpx
 have HPB := hid hpb
 clear hpx hpb
 clear hone hK he hW
 unfold Wri.listed at hl
 have hwlt := WT.out.lt
 go_enter Tryz.func68, Tryz.ntmps68
 go_wp2_with fail
 refine (wstr B wb (l) o _ WT.out (by (try simp only [ln] at hl); (try simp only [ln]); omega) hB0).mono ?_
 rintro e w1 ⟨⟨v, rfl⟩, hw, hb, hs⟩
 replace WT := hid hw
 replace PX := st hs PX HPB
 replace HU := hid (HU.out.trans hb)
 replace HS := hid (HS.out.trans hs)
 replace hB0 := Nat.le_trans hB0 hb.size
 clear hw hb hs
 go_wp2
 go_loopg [19] xs.length (fun gg s19 wr => ∃ j : Nat, j ≤ xs.length ∧ xs.length - j ≤ gg ∧ s19 = .int .i64 (j : Int) ∧ B ≤ wr.heap.size ∧ Hid (Wt B wb (l ++ o ++ toldC F xs j) wr) ∧ Hid (Box wr pb 79 #[.pointer (some ⟨wb, 0, none⟩)]) ∧ Hid (Below B w wr) ∧ Hid (Stays wb w wr))
 case atStart => exact ⟨0, Nat.zero_le _, by omega, rfl, hB0, by simpa [toldC, Wri.joinC] using WT, PX, HU, HS⟩
 case round =>
  clear WT PX HU HS hB0
  obtain ⟨j, hj, hg, rfl, hB0, WT, PX, HU, HS⟩ := hrel
  by_cases hlt : j < xs.length
  ·have hltz : (j : Int) < (xs.length : Int) := by omega
   have hltd : decide ((j : Int) < (xs.length : Int)) = true := decide_eq_true hltz
   have wj : IntKind.i64.wrap ((j : Int) + 1) = (j : Int) + 1 := by rw [IntKind.wrap_i64]; omega
   obtain ⟨x, hx⟩ : ∃ x, xs[j]? = some x := ⟨_, List.getElem?_eq_getElem hlt⟩
   obtain ⟨xc, g0, o0, rfl, hg0, hx4, hnx, hrx⟩ := HKK.out j x hx
   have HR0 := hid hrx
   have HXN := hid hnx
   have HXM := hid (List.mem_of_getElem? hx)
   have hinf : (Tryz.prog.info? 24).map (·.size) = some xc.toList.length := by rw [Array.length_toList, hx4]; exact info_nod
   have HXI := hid hinf
   have hinf2 : (Tryz.prog.info? 24).map (·.size) = some xc.size := by rw [hx4]; exact info_nod
   have HXI2 := hid hinf2
   have H4 : Hid ((4 : Nat) = xc.size) := hid hx4.symm
   have HONX := hid (NodeAt.one hnx)
   clear hnx hrx hinf hinf2 hx4
   have hrr := HR0.out wr HU.out
   have HM1 := HTM.out (j + 1)
   have hwb2 := WT.out.lt.2
   have HX := hid hx
   clear hx
   go_upto_region 4 with (first | (refine wpList_load_mid rfl 24 (.tmp 22) rfl g0 (o0 + j * 4) rfl xc.toList _ hrr Tryz.underlying24 rfl HXI.out ?_) | (refine wpList_store_box rfl 24 (.tmp 11) (.tmp 23) rfl wr.heap.size xc rfl (by simp [Act.eval, Act.put]) 24 _ (Box.new wr _ _) HXI2.out H4.out HONX.out ?_; intro w2 hx2 hu2 hz2; have HZ2 := hid hz2; clear hz2))
   have hb2 : Below wr.heap.size wr w2 := ((Below.refl _ wr).alloc (Nat.le_refl _) _).trans (hu2.own (Nat.le_refl _) (by simp))
   have EB := hid hx2
   replace PX := bl PX hb2
   replace WT := hid (WT.out.below hb2)
   replace HU := hid (HU.out.trans (hb2.mono hB0))
   replace HS := hid (HS.out.trans (Stays.below hb2))
   have hB1 : B ≤ w2.heap.size := Nat.le_trans hB0 hb2.size
   have HNE : Hid (wr.heap.size ≠ wb) := hid (by omega)
   clear hB0
   have hB0 := hB1
   clear hx2 hu2 hb2 hrr hwb2
   by_cases h0 : j = 0
   ·subst h0
    replace WT : Hid (Wt B wb (l ++ o) w2) := hid (by have := WT.out; simpa [toldC, Wri.joinC] using this)
    have HT1 : Hid (toldC F xs (0 + 1) = F x) := hid (toldC_one HX.out)
    have HM2 : (F x).length ≤ (Wri.joinC (xs.map F)).length := by rw [← HT1.out]; exact HM1
    clear HM1
    have eb := EB.out
    go_wp2_with (refine wpList_load_row rfl 24 (.tmp 11) rfl wr.heap.size rfl _ xc (0, 0) _ eb Tryz.underlying24 rfl HXI2.out ?_)
    refine (HONE.out x HXM.out xc _ (l ++ o) (HXN.out.belowB HU.out) WT.out hB0 (HE.out.below HU.out h7) PX.out (by (try simp only [ln] at hl HM2); (try simp only [ln]); omega)).mono ?_
    rintro e w3 ⟨rfl, hw, hb, hs⟩
    clear eb EB
    replace WT := hid hw
    replace PX := st hs PX HPB
    replace HU := hid (HU.out.trans hb)
    replace HS := hid (HS.out.trans hs)
    replace hB0 := Nat.le_trans hB0 hb.size
    clear hw hb hs
    go_wp2
    go_roundg (xs.length - (0 + 1))
    case measure => omega
    case rel => exact ⟨0 + 1, by omega, by omega, rfl, hB0, by rw [HT1.out]; simpa [List.append_assoc] using WT, PX, HU, HS⟩
   ·have d1 : decide ((0 : Int) < (j : Int)) = true := decide_eq_true (by omega)
    have d2 : (0 : Int) < (j : Int) := by omega
    have d3 : 0 < j := by omega
    have HT1 : Hid (toldC F xs (j + 1) = toldC F xs j ++ [44, 32] ++ F x) := hid (toldC_succ HX.out d3)
    have HM2 : (toldC F xs j ++ [44, 32] ++ F x).length ≤ (Wri.joinC (xs.map F)).length := by rw [← HT1.out]; exact HM1
    clear HM1
    go_wp2_with fail
    refine (wstr B wb (l ++ o ++ toldC F xs j) [44, 32] _ WT.out (by (try simp only [ln] at hl HM2); (try simp only [ln]); omega) hB0).mono ?_
    rintro e w3 ⟨⟨v, rfl⟩, hw, hb, hs⟩
    replace EB := st hs EB HNE
    replace WT := hid hw
    replace PX := st hs PX HPB
    replace HU := hid (HU.out.trans hb)
    replace HS := hid (HS.out.trans hs)
    replace hB0 := Nat.le_trans hB0 hb.size
    clear hw hb hs
    have eb := EB.out
    go_wp2_with (refine wpList_load_row rfl 24 (.tmp 11) rfl wr.heap.size rfl _ xc (0, 0) _ eb Tryz.underlying24 rfl HXI2.out ?_)
    refine (HONE.out x HXM.out xc _ (l ++ o ++ toldC F xs j ++ [44, 32]) (HXN.out.belowB HU.out) WT.out hB0 (HE.out.below HU.out h7) PX.out (by (try simp only [ln] at hl HM2); (try simp only [ln]); omega)).mono ?_
    rintro e w4 ⟨rfl, hw, hb, hs⟩
    clear eb EB
    replace WT := hid hw
    replace PX := st hs PX HPB
    replace HU := hid (HU.out.trans hb)
    replace HS := hid (HS.out.trans hs)
    replace hB0 := Nat.le_trans hB0 hb.size
    clear hw hb hs
    go_wp2
    go_roundg (xs.length - (j + 1))
    case measure => omega
    case rel => exact ⟨j + 1, by omega, by omega, rfl, hB0, by rw [HT1.out]; simpa [List.append_assoc] using WT, PX, HU, HS⟩
  ·have hltz : ¬ (j : Int) < (xs.length : Int) := by omega
   have hltd : decide ((j : Int) < (xs.length : Int)) = false := decide_eq_false hltz
   replace WT : Hid (Wt B wb (l ++ o ++ Wri.joinC (xs.map F)) wr) := hid (by have := WT.out; rw [show j = xs.length by omega, toldC_all] at this; exact this)
   go_wp2_with fail
   refine (wstr B wb (l ++ o ++ Wri.joinC (xs.map F)) c _ WT.out (by (try simp only [ln] at hl); (try simp only [ln]); omega) hB0).mono ?_
   rintro e w5 ⟨⟨v, rfl⟩, hw, hb, hs⟩
   replace WT := hid hw
   replace PX := st hs PX HPB
   replace HU := hid (HU.out.trans hb)
   replace HS := hid (HS.out.trans hs)
   replace hB0 := Nat.le_trans hB0 hb.size
   clear hw hb hs
   go_wp2
   go_end0
   exact ⟨rfl, by unfold Wri.listed; simpa [List.append_assoc] using WT.out, HU.out, HS.out⟩
end Go.Proofs.YtonjdlialejedaaGreatDoor
namespace Go.Proofs.YtonjdlialejedaaGreatDoor
open Go.Lib (hid)
open Go.RowKit
theorem four {xc : Array Value} (h : xc.size = 4) : ∃ a b c d, xc = #[a, b, c, d] := by
 obtain ⟨l⟩ := xc
 match l, h with
 | [a, b, c, d], _ => exact ⟨a, b, c, d, rfl⟩
theorem wrs_kid {l : List Pars.Node} {x : Pars.Node} {i : Nat} (h : l[i]? = some x) : Wri.kid (Wri.wrs l) i = Wri.wr x := by
 unfold Wri.kid
 rw [Wri.wrs_map, List.getD_eq_getElem?_getD, List.getElem?_map, h]; rfl
theorem wr_pair (k nu : Int) (t : List UInt8) (l : List Pars.Node) (x : Pars.Node) (h : l[0]? = some x) : Wri.wr (.mk k nu t l) .pair = t ++ [58, 32] ++ Wri.wr x (.at (-2)) := by
 show t ++ [58, 32] ++ Wri.kid (Wri.wrs l) 0 (.at (-2)) = _
 rw [wrs_kid h]
set_option maxRecDepth 100000 in
set_option maxHeartbeats 4000000 in
theorem param_w {B wb pb : Nat} {n : Pars.Node} {cs : Array Value} {w : World} {l : List UInt8} (hn : NodeAt w (fun g => g < B) n cs) (hW : Wt B wb l w) (hBw : B ≤ w.heap.size) (h7 : 7 ≤ B) (he : EnvW w) (hpx : Box w pb 79 #[.pointer (some ⟨wb, 0, none⟩)]) (hpb : pb ≠ wb) (hl : l.length + (Wri.wr n .param).length ≤ 70368744177664) : Calls Tryz.prog 69 #[.agg cs, .pointer (some ⟨pb, 0, none⟩)] w (WOut B wb l (Wri.wr n .param) w) := by
 obtain ⟨k, nu, t, kl⟩ := n
 have hn0 := hn
 unfold NodeAt at hn
 obtain ⟨A, cap, css, rfl, hc1, hc2, hrow, hk⟩ := hn
 have HROW := hid hrow
 have HK := hid hk
 have HN := hid hn0
 have HE := hid he
 have hwlt := hW.lt
 have hll := Wri.wgs_len kl
 clear hrow hk hn0 he
 have hl2 : l.length + t.length ≤ 70368744177664 := hl
 clear hl
 have hl := hl2
 clear hl2
 have HPB := hid hpb
 go_enter Tryz.func69, Tryz.ntmps69
 go_upto_region 1 with fail
 refine gen_world (F := fun W => Box W w.heap.size 24 (nc k nu t (.slice A kl.length cap)) ∧ Below w.heap.size w W) ⟨Box.new w _ _, below1 w _⟩ ?_
 rintro W0 ⟨b0, hU⟩
 have NB := hid b0
 have WT := hid (hW.below hU)
 have HU : Hid (Below B w W0) := hid (hU.mono hBw)
 have HS : Hid (Stays wb w W0) := hid (Stays.below hU)
 have PX := hid (hpx.below hU hpx.lt)
 have hB0 : B ≤ W0.heap.size := Nat.le_trans hBw hU.size
 have hnw : w.heap.size ≠ wb := by omega
 have hbx := Nat.lt_of_lt_of_le b0.lt (Nat.le_refl _)
 clear b0 hU
 have HNENB := hid hnw
 have cp := PX.out.cell 0
 simp at cp
 have c2 := NB.out.cell 2
 simp [nc] at c2
 clear hpx hpb
 go_wp2
 go_still_tail 5, (by kernel_rfl)
 change wpList _ _ _ _ _ W0.drew
 have hdr : Below W0.heap.size W0 W0.drew := Below.drew (Below.refl _ _)
 have hdz : W0.drew.heap.size = W0.heap.size := rfl
 obtain ⟨wd, hwd⟩ : ∃ wd, W0.drew = wd := ⟨_, rfl⟩
 rw [hwd] at hdr hdz ⊢
 replace WT := hid (WT.out.below hdr)
 replace HU := hid (HU.out.trans (hdr.mono hB0))
 replace HS := hid (HS.out.trans (Stays.below hdr))
 have hB1 : B ≤ wd.heap.size := by omega
 clear hB0
 have hB0 := hB1
 clear hdr hdz hwd
 clear cp c2
 go_wp2_with fail
 refine (wstr B wb l t _ WT.out (by (try simp only [ln] at hl); (try simp only [ln]); omega) hB0).mono ?_
 rintro e w1 ⟨⟨v, rfl⟩, hw, hb, hs⟩
 go_wp2
 go_end0
 exact ⟨rfl, hw, HU.out.trans hb, HS.out.trans hs⟩
set_option maxRecDepth 100000 in
set_option maxHeartbeats 4000000 in
theorem pair_w {N : Nat} (IH : Wall N) {B wb pb : Nat} {n : Pars.Node} {cs : Array Value} {w : World} {l : List UInt8} (hN : Wri.wg n ≤ N + 1) (hM : Wri.wg n ≤ 1048576) (hR : Ri n) (h0 : 0 < n.kids.length) (hn : NodeAt w (fun g => g < B) n cs) (hW : Wt B wb l w) (hBw : B ≤ w.heap.size) (h7 : 7 ≤ B) (he : EnvW w) (hpx : Box w pb 79 #[.pointer (some ⟨wb, 0, none⟩)]) (hpb : pb ≠ wb) (hl : l.length + (Wri.wr n .pair).length ≤ 70368744177664) : Calls Tryz.prog 105 #[.agg cs, .pointer (some ⟨pb, 0, none⟩)] w (WOut B wb l (Wri.wr n .pair) w) := by
 obtain ⟨k, nu, t, kl⟩ := n
 have hn0 := hn
 unfold NodeAt at hn
 obtain ⟨A, cap, css, rfl, hc1, hc2, hrow, hk⟩ := hn
 have HROW := hid hrow
 have HK := hid hk
 have HN := hid hn0
 have HE := hid he
 have hwlt := hW.lt
 have hll := Wri.wgs_len kl
 clear hrow hk hn0 he
 have hlt0 : 0 < kl.length := h0
 obtain ⟨x, hx⟩ : ∃ x, kl[0]? = some x := ⟨_, List.getElem?_eq_getElem hlt0⟩
 have hl2 : l.length + (t ++ [58, 32] ++ Wri.wr x (.at (-2))).length ≤ 70368744177664 := by rw [← wr_pair k nu t kl x hx]; exact hl
 clear hl
 have hl := hl2
 clear hl2
 have HTS := hid (byt_size t)
 have hts : (byt t).size ≤ 70368744177664 := by rw [byt_size]; simp only [List.length_append] at hl; omega
 have HPC : Hid ((byt t ++ ⟨#[58, 32]⟩ : ByteArray) = byt (t ++ [58, 32])) := hid (byt_append t [58, 32])
 have HPB := hid hpb
 go_enter Tryz.func105, Tryz.ntmps105
 go_upto_region 1 with fail
 refine gen_world (F := fun W => Box W w.heap.size 24 (nc k nu t (.slice A kl.length cap)) ∧ Below w.heap.size w W) ⟨Box.new w _ _, below1 w _⟩ ?_
 rintro W0 ⟨b0, hU⟩
 have NB := hid b0
 have WT := hid (hW.below hU)
 have HU : Hid (Below B w W0) := hid (hU.mono hBw)
 have HS : Hid (Stays wb w W0) := hid (Stays.below hU)
 have PX := hid (hpx.below hU hpx.lt)
 have hB0 : B ≤ W0.heap.size := Nat.le_trans hBw hU.size
 have hnw : w.heap.size ≠ wb := by omega
 have hbx := Nat.lt_of_lt_of_le b0.lt (Nat.le_refl _)
 clear b0 hU
 have HNENB := hid hnw
 have cp := PX.out.cell 0
 simp at cp
 have c2 := NB.out.cell 2
 simp [nc] at c2
 clear hpx hpb
 have hg2 : (⟨#[58, 32]⟩ : ByteArray).size = 2 := rfl
 have hcc : ¬ 9223372036854775807 < (byt t).size + 2 := by omega
 go_wp2
 go_still_tail 6, (by kernel_rfl)
 change wpList _ _ _ _ _ W0.drew
 have hdr : Below W0.heap.size W0 W0.drew := Below.drew (Below.refl _ _)
 have hdz : W0.drew.heap.size = W0.heap.size := rfl
 obtain ⟨wd, hwd⟩ : ∃ wd, W0.drew = wd := ⟨_, rfl⟩
 rw [hwd] at hdr hdz ⊢
 replace WT := hid (WT.out.below hdr)
 replace NB := bl NB hdr
 replace PX := bl PX hdr
 replace HU := hid (HU.out.trans (hdr.mono hB0))
 replace HS := hid (HS.out.trans (Stays.below hdr))
 have hB1 : B ≤ wd.heap.size := by omega
 clear hB0
 have hB0 := hB1
 clear hdr hdz hwd
 have hg2 : (⟨#[58, 32]⟩ : ByteArray).size = 2 := rfl
 go_wp2_with fail
 rw [HPC.out]
 refine (wstr B wb l (t ++ [58, 32]) _ WT.out (by (try simp only [ln] at hl); (try simp only [ln]); omega) hB0).mono ?_
 rintro e w1 ⟨⟨v, rfl⟩, hw, hb, hs⟩
 replace WT := hid hw
 replace NB := st hs NB HNENB
 replace PX := st hs PX HPB
 replace HU := hid (HU.out.trans hb)
 replace HS := hid (HS.out.trans hs)
 replace hB0 := Nat.le_trans hB0 hb.size
 clear hw hb hs
 have hxw := Wri.wg_mem (List.mem_of_getElem? hx)
 obtain ⟨xc, g0, o0, rfl, hg0, hx4, hnx, hrx⟩ := kid_at HK.out HROW.out hx
 have HR0 := hid hrx
 have HXN := hid hnx
 have HXR := hid (ri_kid hR x (List.mem_of_getElem? hx))
 have HXW : Hid (Wri.wg x ≤ N ∧ Wri.wg x ≤ 1048576) := hid (by simp only [Wri.wg] at hN hM; exact ⟨by omega, by omega⟩)
 have hinf : (Tryz.prog.info? 24).map (·.size) = some xc.toList.length := by rw [Array.length_toList, hx4]; exact info_nod
 have HXI := hid hinf
 have hinf2 : (Tryz.prog.info? 24).map (·.size) = some xc.size := by rw [hx4]; exact info_nod
 have HXI2 := hid hinf2
 have H4 : Hid ((4 : Nat) = xc.size) := hid hx4.symm
 have HONE := hid (NodeAt.one hnx)
 clear hxw hnx hrx hinf hinf2 hx4
 have cp := PX.out.cell 0
 simp at cp
 have c3 := NB.out.cell 3
 simp [nc] at c3
 have hrr := HR0.out w1 HU.out
 obtain ⟨v0, v1, v2, v3, hxe⟩ := four H4.out.symm
 subst hxe
 have k0 : w1.cell? ⟨g0, o0, none⟩ = some v0 := by simpa using hrr 0 v0 rfl
 have k1 : w1.cell? ⟨g0, o0 + 1, none⟩ = some v1 := by simpa using hrr 1 v1 rfl
 have k2 : w1.cell? ⟨g0, o0 + 2, none⟩ = some v2 := by simpa using hrr 2 v2 rfl
 have k3 : w1.cell? ⟨g0, o0 + 3, none⟩ = some v3 := by simpa using hrr 3 v3 rfl
 clear hrr
 go_wp2
 go_still_tail 5, (by kernel_rfl)
 change wpList _ _ _ _ _ w1.drew
 have hdr : Below w1.heap.size w1 w1.drew := Below.drew (Below.refl _ _)
 have hdz : w1.drew.heap.size = w1.heap.size := rfl
 obtain ⟨wd, hwd⟩ : ∃ wd, w1.drew = wd := ⟨_, rfl⟩
 rw [hwd] at hdr hdz ⊢
 replace WT := hid (WT.out.below hdr)
 replace NB := bl NB hdr
 replace PX := bl PX hdr
 replace HU := hid (HU.out.trans (hdr.mono hB0))
 replace HS := hid (HS.out.trans (Stays.below hdr))
 have hB1 : B ≤ wd.heap.size := by omega
 clear hB0
 have hB0 := hB1
 clear hdr hdz hwd
 go_wp2_with fail
 refine (IH.any HXW.out.1 HXW.out.2 HXR.out (HXN.out.belowB HU.out) WT.out hB0 h7 (HE.out.below HU.out h7) (by simp only [ln] at hl ⊢; omega)).mono ?_
 rintro e w3 ⟨rfl, hw, hb, hs⟩
 go_wp2
 go_end0
 exact ⟨rfl, by rw [wr_pair k nu t kl x hx]; simpa [List.append_assoc] using hw, HU.out.trans hb, HS.out.trans hs⟩
end Go.Proofs.YtonjdlialejedaaGreatDoor
