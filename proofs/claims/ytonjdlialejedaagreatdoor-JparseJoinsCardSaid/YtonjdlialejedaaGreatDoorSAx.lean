/-
  Texts that the law leans on: PwE. Conditions: as each says.
-/
import Derived.Test.YtonjdlialejedaaGreatDoorSAe
import Derived.Test.YtonjdlialejedaaGreatDoorSAw
import Derived.Test.YtonjdlialejedaaGreatDoorSAa
set_option linter.unusedSimpArgs false
set_option linter.unusedVariables false
namespace Go.Proofs.YtonjdlialejedaaGreatDoor
open Go.Lib (hid)
open Go.RowKit
structure EnvW (w : World) : Prop where
 sp : Jl.Env w
 pow : Lib.TabIs Tryz.prog w "internal/strconv.uint64pow10" .u64 Lib.pow10Tab
 ml : ∃ m, w.cell? ⟨2, 0, none⟩ = some (.int .i64 m)
 big : 7 ≤ w.heap.size
theorem gPow : Tryz.prog.globalNamed "internal/strconv.uint64pow10" = some 3 := by kernel_rfl
theorem EnvW.below {w w' : World} (h : EnvW w) {B : Nat} (hb : Below B w w') (hB : 7 ≤ B) : EnvW w' := by
 obtain ⟨m, hm⟩ := h.ml
 exact ⟨h.sp.below hb (by omega), var?_below hb gPow (by omega) h.pow, ⟨m, by rw [hb.cell (p := ⟨2, 0, none⟩) (by show 2 < B; omega)]; exact hm⟩, Nat.le_trans h.big hb.size⟩
theorem EnvW.step {w w' : World} (h : EnvW w) (hb : Below w.heap.size w w') : EnvW w' := h.below hb h.big
theorem own_cells5 {w : World} {base : Nat} {A : Option Addr} {n cap : Nat} {xs : List Value} (h : w.ownsRow base 40 5 (.slice A n cap) n xs) (hn : 0 < n) :
  ∃ g, A = some ⟨g, 0, none⟩ ∧ base ≤ g ∧ g < w.heap.size ∧ ∀ j u, xs[j]? = some u → w.cell? ⟨g, j, none⟩ = some u := by
 rcases h.2 with ⟨hv, h0⟩ | ⟨g, cap', cur, hv, hb, hg, _⟩
 ·omega
 ·injection hv with hA _ _
  subst hA
  refine ⟨g, rfl, hb, (Array.getElem?_eq_some_iff.1 hg).1, fun j u hu => ?_⟩
  have := h.cells (g := g) rfl j u hu
  have e : (⟨g, 0, none⟩ : Addr).add j = ⟨g, j, none⟩ := by unfold Addr.add; split <;> simp_all
  rwa [e] at this
set_option maxRecDepth 100000 in
set_option maxHeartbeats 4000000 in
theorem one_any (s words : List UInt8) (hs : s.length ≤ 70368744177664) (hw : words.length ≤ 1000) (w : World) (he : EnvW w) :
  Calls Tryz.prog 84 #[.string (byt s), .string (byt words)] w fun e w' => e = .returned (.bool (Wri.one s words)) ∧ w' = w := by
 obtain ⟨m, hm⟩ := he.ml
 obtain ⟨b1, hb1⟩ : ∃ b, Lib.contains ([32] ++ words ++ [32]) ([32] ++ s ++ [32]) = b := ⟨_, rfl⟩
 obtain ⟨b2, hb2⟩ : ∃ b, decide (0 ≤ Lib.indexByte s 32) = b := ⟨_, rfl⟩
 have HC1 : Hid (Calls Tryz.prog 94 #[.string ((⟨#[32]⟩ : ByteArray) ++ byt words ++ ⟨#[32]⟩), .string ((⟨#[32]⟩ : ByteArray) ++ byt s ++ ⟨#[32]⟩)] w fun e w' => e = .returned (.bool b1) ∧ w' = w) := hid (by
  have e1 : (⟨#[32]⟩ : ByteArray) ++ byt words ++ ⟨#[32]⟩ = byt ([32] ++ words ++ [32]) := by rw [show (⟨#[32]⟩ : ByteArray) = byt [32] from rfl, byt_append, byt_append]
  have e2 : (⟨#[32]⟩ : ByteArray) ++ byt s ++ ⟨#[32]⟩ = byt ([32] ++ s ++ [32]) := by rw [show (⟨#[32]⟩ : ByteArray) = byt [32] from rfl, byt_append, byt_append]
  have := Tryz.strings_Contains (byt ([32] ++ words ++ [32])) (byt ([32] ++ s ++ [32])) m w (by rw [byt_size]; simp; omega) hm
  rw [byt_data, byt_data, hb1] at this
  rw [e1, e2]
  exact this)
 have HC2 : Hid (Calls Tryz.prog 94 #[.string (byt s), .string ⟨#[32]⟩] w fun e w' => e = .returned (.bool b2) ∧ w' = w) := hid (by
  have := Tryz.strings_Contains_one (byt s) 32 w
  rw [byt_data, hb2] at this
  exact this)
 have HE : Hid (Wri.one s words = (b1 && (!decide (s = []) && !b2))) := hid (by unfold Wri.one; rw [hb1, hb2])
 obtain ⟨T, hT0⟩ : ∃ q, byt s = q := ⟨_, rfl⟩
 obtain ⟨WD, hW0⟩ : ∃ q, byt words = q := ⟨_, rfl⟩
 have hz1 : T.size ≤ 70368744177664 := by rw [← hT0, byt_size]; exact hs
 have hz2 : WD.size ≤ 1000 := by rw [← hW0, byt_size]; exact hw
 have hz3 : (⟨#[32]⟩ : ByteArray).size = 1 := rfl
 have HT := hid hT0
 rw [hT0, hW0] at HC1
 rw [hT0] at HC2
 rw [hT0, hW0, HE.out]
 clear hb1 hb2 hT0 hW0 hm he HE hs hw
 go_enter Tryz.func84, Tryz.ntmps84
 go_wp2_with fail
 refine HC1.out.mono ?_
 rintro e w1 ⟨rfl, rfl⟩
 cases b1 with
 | false =>
  go_wp2
  go_ret
  exact ⟨rfl, rfl⟩
 | true =>
  by_cases hT : T = ⟨#[]⟩
  ·have hs0 : s = [] := byt_inj (HT.out.trans (hT.trans rfl))
   subst hT
   go_wp2
   go_ret
   exact ⟨ret_bool (a := false) (by simp [hs0]), rfl⟩
  obtain ⟨q1, q2, q3⟩ := same_no hT
  have q4 := of_decide_eq_false q2
  have q5 : (T.toList == []) = false := by
   have e : (⟨#[]⟩ : ByteArray).toList = [] := by simp [ByteArray.toList_eq]
   rw [e] at q1
   exact q1
  have q6 : T.toList.isEmpty = false := by
   rw [← HT.out, byt_list]
   cases s with
   | nil => exact absurd (HT.out.symm.trans rfl) hT
   | cons a l => rfl
  have hs0 : ¬ s = [] := fun e => hT (HT.out.symm.trans (by rw [e]; rfl))
  have HS0 := hid hs0
  clear hs0
  go_wp2_with fail
  refine HC2.out.mono ?_
  rintro e w2 ⟨rfl, rfl⟩
  cases b2 with
  | false =>
   go_wp2
   go_ret
   exact ⟨ret_bool (a := true) (by simp [HS0.out]), rfl⟩
  | true =>
   go_wp2
   go_ret
   exact ⟨ret_bool (a := false) (by simp), rfl⟩
set_option maxRecDepth 100000 in
set_option maxHeartbeats 4000000 in
theorem name_is (s : List UInt8) (hs : s.length ≤ 9223372036854775807) (w : World) (he : EnvW w) :
  Calls Tryz.prog 83 #[.string (byt s)] w fun e w' => e = .returned (.bool (Wri.name s)) ∧ Below w.heap.size w w' := by
 have HTK : Hid (Calls Tryz.prog 14 #[.string (byt s)] w fun e w' => Jl.TokOut w (Lexy.toks s) e w') := hid (by
  have := Jl.tokens_any (byt s) w he.sp (by have := he.big; omega) (by rw [byt_size]; exact hs)
  rw [byt_data] at this
  exact this)
 have HN : Hid (Wri.name s = match Lexy.toks s with | .ok [t] => decide (t.kind = 1) && decide (t.text = s) | _ => false) := hid rfl
 obtain ⟨T, hT0⟩ : ∃ q, byt s = q := ⟨_, rfl⟩
 have HT := hid hT0
 rw [hT0] at HTK
 rw [hT0]
 clear hT0
 go_enter Tryz.func83, Tryz.ntmps83
 go_wp2_with fail
 refine HTK.out.mono ?_
 intro e w1 ht
 cases hk : Lexy.toks s with
 | err ke =>
  rw [hk] at ht
  obtain ⟨rfl, hb⟩ := ht
  have hke := toks_err hk
  have HF : Hid (Wri.name s = false) := hid (by rw [HN.out, hk])
  have HB := hid hb
  have d1 : ((ke : Int) == 0) = false := by rw [beq_eq_false_iff_ne]; omega
  have d3 : ¬ (ke : Int) = 0 := by omega
  clear hk hb
  go_wp2
  go_ret
  exact ⟨ret_bool (a := false) HF.out.symm, HB.out⟩
 | ok ts =>
  rw [hk] at ht
  obtain ⟨A, cap, rfl, hown, hb⟩ := ht
  have HB := hid hb
  rcases ts with _ | ⟨t, _ | ⟨t2, ts⟩⟩
  ·have HF : Hid (Wri.name s = false) := hid (by rw [HN.out, hk])
   clear hk hown hb
   simp only [List.length_nil]
   go_wp2
   go_ret
   exact ⟨ret_bool (a := false) HF.out.symm, HB.out⟩
  ·have HF : Hid (Wri.name s = (decide (t.kind = 1) && decide (t.text = s))) := hid (by rw [HN.out, hk])
   obtain ⟨g, rfl, hg1, hg2, hc⟩ := own_cells5 hown (by simp)
   have c0 : w1.cell? ⟨g, 0, none⟩ = some (.int .i64 (t.kind : Int)) := hc 0 _ rfl
   have c3 : w1.cell? ⟨g, 3, none⟩ = some (.string (byt t.text)) := hc 3 _ rfl
   obtain ⟨KD, hKD⟩ : ∃ q, t.kind = q := ⟨_, rfl⟩
   obtain ⟨TT, hTT⟩ : ∃ q, byt t.text = q := ⟨_, rfl⟩
   have HTT := hid hTT
   rw [hKD] at c0 HF
   rw [hTT] at c3
   clear hk hc hown hb hKD hTT
   simp only [List.length_cons, List.length_nil]
   by_cases y : KD = 1
   ·subst y
    by_cases z : TT = T
    ·have hz : t.text = s := byt_inj (HTT.out.trans (z.trans HT.out.symm))
     subst z
     obtain ⟨q1, q2⟩ := same_yes TT
     go_wp2
     go_ret
     exact ⟨ret_bool (a := true) (by rw [HF.out]; simp [hz]), HB.out⟩
    ·have hz : ¬ t.text = s := fun e => z (by rw [← HTT.out, e, HT.out])
     have HZ := hid hz
     obtain ⟨q1, q2, q3⟩ := same_no z
     have q4 := of_decide_eq_false q2
     clear z hz
     go_wp2
     go_ret
     exact ⟨ret_bool (a := false) (by rw [HF.out]; simp [HZ.out]), HB.out⟩
   ·have d1 : ((KD : Int) == 1) = false := by rw [beq_eq_false_iff_ne]; omega
    have d3 : ¬ (KD : Int) = 1 := by omega
    have HF2 : Hid (Wri.name s = false) := hid (by rw [HF.out]; simp [y])
    clear y HF
    go_wp2
    go_ret
    exact ⟨ret_bool (a := false) HF2.out.symm, HB.out⟩
  ·have HF : Hid (Wri.name s = false) := hid (by rw [HN.out, hk])
   obtain ⟨q, hq⟩ : ∃ q, (t :: t2 :: ts).length = q := ⟨_, rfl⟩
   have hq2 : 2 ≤ q := by rw [← hq]; simp
   rw [hq]
   have d1 : ((q : Int) == 1) = false := by rw [beq_eq_false_iff_ne]; omega
   have d3 : ¬ (q : Int) = 1 := by omega
   clear hk hown hb hq
   go_wp2
   go_ret
   exact ⟨ret_bool (a := false) HF.out.symm, HB.out⟩
end Go.Proofs.YtonjdlialejedaaGreatDoor
