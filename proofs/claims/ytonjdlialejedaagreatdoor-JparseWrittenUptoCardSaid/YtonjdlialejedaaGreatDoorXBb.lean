/-
  Texts that the law leans on: PwF. Conditions: as each says.
-/
import Derived.Test.YtonjdlialejedaaGreatDoorXBa
import Derived.Test.YtonjdlialejedaaGreatDoorXAa
set_option linter.unusedSimpArgs false
set_option linter.unusedVariables false
namespace Go.Proofs.YtonjdlialejedaaGreatDoor
open Go.Lib (hid)
open Go.RowKit
set_option maxRecDepth 100000 in
set_option maxHeartbeats 40000000 in
theorem fields_any (k nu : Int) (t : List UInt8) (ht : t.length ≤ 70368744177664) (A : Option Addr) (n cp : Nat) (w : World) (he : EnvW w) : Calls Tryz.prog 62 #[.agg (nc k nu t (.slice A n cp))] w fun e w' => e = .returned (.bool (Wri.fields k nu t)) ∧ Below w.heap.size w w' := by
 have HN := hid (fun W (hW : EnvW W) => name_is t (by omega) W hW)
 have HO1 := hid (fun W (hW : EnvW W) => one_any t Wri.unaryS ht (by decide) W hW)
 have HO2 := hid (fun W (hW : EnvW W) => one_any t Wri.binaryS ht (by decide) W hW)
 obtain ⟨T, hTe⟩ : ∃ q, byt t = q := ⟨_, rfl⟩
 have HT := hid hTe
 have e0 : nc k nu t (.slice A n cp) = #[.int .i64 k, .int .i64 nu, .string T, .slice A n cp] := by rw [← hTe]; rfl
 rw [e0]
 rw [hTe] at HN HO1 HO2
 obtain ⟨nb, hnb⟩ : ∃ b, Wri.name t = b := ⟨_, rfl⟩
 obtain ⟨o1, ho1⟩ : ∃ b, Wri.one t Wri.unaryS = b := ⟨_, rfl⟩
 obtain ⟨o2, ho2⟩ : ∃ b, Wri.one t Wri.binaryS = b := ⟨_, rfl⟩
 rw [hnb] at HN
 rw [ho1] at HO1
 rw [ho2] at HO2
 have HNB := hid hnb
 have HOA := hid ho1
 have HOB := hid ho2
 clear hTe e0 hnb ho1 ho2
 have HE := hid he
 clear he
 go_enter Tryz.func62, Tryz.ntmps62
 go_upto_region 1 with fail
 refine gen_world (F := fun W => Box W w.heap.size 24 #[.int .i64 k, .int .i64 nu, .string T, .slice A n cp] ∧ Below w.heap.size w W) ⟨Box.new w _ _, below1 w _⟩ ?_
 rintro W0 ⟨b0, hU⟩
 have NB := hid b0
 have HU := hid hU
 have c0 := b0.cell 0
 have c1 := b0.cell 1
 have c2 := b0.cell 2
 simp at c0 c1 c2
 clear b0 hU
 by_cases z0 : nu = 0
 ·subst z0
  by_cases hT : T = ⟨#[]⟩
  ·have ht0 : t = [] := byt_inj (HT.out.trans (hT.trans rfl))
   subst hT
   go_quiet (fail)
   obtain ⟨W1, hW1⟩ : ∃ W1, W0.drewN nq = W1 := ⟨_, rfl⟩
   have hd1 : Below W0.heap.size W0 W1 := hW1 ▸ below_drewN (Below.refl _ W0) nq
   rw [hW1]
   clear hW1
   have hsz0 := HU.out.size
   replace HU := hid (HU.out.trans (hd1.mono hsz0))
   have HUB := HU
   replace NB := bl NB hd1
   clear hd1 hsz0 c0 c1 c2
   have c0 := NB.out.cell 0
   have c1 := NB.out.cell 1
   have c2 := NB.out.cell 2
   simp at c0 c1 c2
   go_upto_region 3 with fail
   by_cases y1 : k = 1
   ·subst y1
    go_wp2
    go_ret
    exact ⟨ret_bool (a := true) (Eq.symm (by simp [Wri.fields, ht0] <;> omega)), HU.out⟩
   have n1 : (k == 1) = false := bn y1
   go_upto_region 5 with fail
   by_cases y3 : k = 3
   ·subst y3
    go_wp2
    go_ret
    exact ⟨ret_bool (a := true) (Eq.symm (by simp [Wri.fields, ht0] <;> omega)), HU.out⟩
   have n3 : (k == 3) = false := bn y3
   go_upto_region 7 with fail
   by_cases y29 : k = 29
   ·subst y29
    go_wp2_with fail
    refine (HN.out _ (HE.out.below HUB.out HE.out.big)).mono ?_
    rintro e wn ⟨rfl, hb⟩
    have HU2 := hid (HU.out.trans (hb.mono HU.out.size))
    clear hb
    cases nb with
    | false =>
     go_wp2
     go_ret
     exact ⟨ret_bool (a := false) (Eq.symm (by simp [Wri.fields, HNB.out] <;> omega)), HU2.out⟩
    | true =>
     go_wp2
     go_ret
     exact ⟨ret_bool (a := false) (Eq.symm (by simp [Wri.fields, HNB.out] <;> omega)), HU2.out⟩
   have n29 : (k == 29) = false := bn y29
   go_upto_region 10 with fail
   by_cases y2 : k = 2
   ·subst y2
    go_wp2
    go_ret
    exact ⟨ret_bool (a := true) (Eq.symm (by simp [Wri.fields, ht0] <;> omega)), HU.out⟩
   have n2 : (k == 2) = false := bn y2
   go_upto_region 12 with fail
   by_cases y5 : k = 5
   ·subst y5
    go_wp2_with fail
    refine (HN.out _ (HE.out.below HUB.out HE.out.big)).mono ?_
    rintro e wn ⟨rfl, hb⟩
    have HU2 := hid (HU.out.trans (hb.mono HU.out.size))
    clear hb
    cases nb with
    | false =>
     go_wp2
     go_ret
     exact ⟨ret_bool (a := false) (Eq.symm (by simp [Wri.fields, HNB.out] <;> omega)), HU2.out⟩
    | true =>
     go_wp2
     go_ret
     exact ⟨ret_bool (a := true) (Eq.symm (by simp [Wri.fields, HNB.out] <;> omega)), HU2.out⟩
   have n5 : (k == 5) = false := bn y5
   go_upto_region 13 with fail
   by_cases y8 : k = 8
   ·subst y8
    go_wp2_with fail
    refine (HN.out _ (HE.out.below HUB.out HE.out.big)).mono ?_
    rintro e wn ⟨rfl, hb⟩
    have HU2 := hid (HU.out.trans (hb.mono HU.out.size))
    clear hb
    cases nb with
    | false =>
     go_wp2
     go_ret
     exact ⟨ret_bool (a := false) (Eq.symm (by simp [Wri.fields, HNB.out] <;> omega)), HU2.out⟩
    | true =>
     go_wp2
     go_ret
     exact ⟨ret_bool (a := true) (Eq.symm (by simp [Wri.fields, HNB.out] <;> omega)), HU2.out⟩
   have n8 : (k == 8) = false := bn y8
   go_upto_region 14 with fail
   by_cases y10 : k = 10
   ·subst y10
    go_wp2_with fail
    refine (HN.out _ (HE.out.below HUB.out HE.out.big)).mono ?_
    rintro e wn ⟨rfl, hb⟩
    have HU2 := hid (HU.out.trans (hb.mono HU.out.size))
    clear hb
    cases nb with
    | false =>
     go_wp2
     go_ret
     exact ⟨ret_bool (a := false) (Eq.symm (by simp [Wri.fields, HNB.out] <;> omega)), HU2.out⟩
    | true =>
     go_wp2
     go_ret
     exact ⟨ret_bool (a := true) (Eq.symm (by simp [Wri.fields, HNB.out] <;> omega)), HU2.out⟩
   have n10 : (k == 10) = false := bn y10
   go_upto_region 15 with fail
   by_cases y13 : k = 13
   ·subst y13
    go_wp2_with fail
    refine (HN.out _ (HE.out.below HUB.out HE.out.big)).mono ?_
    rintro e wn ⟨rfl, hb⟩
    have HU2 := hid (HU.out.trans (hb.mono HU.out.size))
    clear hb
    cases nb with
    | false =>
     go_wp2
     go_ret
     exact ⟨ret_bool (a := false) (Eq.symm (by simp [Wri.fields, HNB.out] <;> omega)), HU2.out⟩
    | true =>
     go_wp2
     go_ret
     exact ⟨ret_bool (a := true) (Eq.symm (by simp [Wri.fields, HNB.out] <;> omega)), HU2.out⟩
   have n13 : (k == 13) = false := bn y13
   go_upto_region 16 with fail
   by_cases y20 : k = 20
   ·subst y20
    go_wp2_with fail
    refine (HN.out _ (HE.out.below HUB.out HE.out.big)).mono ?_
    rintro e wn ⟨rfl, hb⟩
    have HU2 := hid (HU.out.trans (hb.mono HU.out.size))
    clear hb
    cases nb with
    | false =>
     go_wp2
     go_ret
     exact ⟨ret_bool (a := false) (Eq.symm (by simp [Wri.fields, HNB.out] <;> omega)), HU2.out⟩
    | true =>
     go_wp2
     go_ret
     exact ⟨ret_bool (a := true) (Eq.symm (by simp [Wri.fields, HNB.out] <;> omega)), HU2.out⟩
   have n20 : (k == 20) = false := bn y20
   go_upto_region 17 with fail
   by_cases y24 : k = 24
   ·subst y24
    go_wp2_with fail
    refine (HN.out _ (HE.out.below HUB.out HE.out.big)).mono ?_
    rintro e wn ⟨rfl, hb⟩
    have HU2 := hid (HU.out.trans (hb.mono HU.out.size))
    clear hb
    cases nb with
    | false =>
     go_wp2
     go_ret
     exact ⟨ret_bool (a := false) (Eq.symm (by simp [Wri.fields, HNB.out] <;> omega)), HU2.out⟩
    | true =>
     go_wp2
     go_ret
     exact ⟨ret_bool (a := true) (Eq.symm (by simp [Wri.fields, HNB.out] <;> omega)), HU2.out⟩
   have n24 : (k == 24) = false := bn y24
   go_upto_region 19 with fail
   by_cases y9 : k = 9
   ·subst y9
    go_wp2
    go_ret
    exact ⟨ret_bool (a := true) (Eq.symm (by simp [Wri.fields, ht0] <;> omega)), HU.out⟩
   have n9 : (k == 9) = false := bn y9
   go_upto_region 21 with fail
   by_cases y14 : k = 14
   ·subst y14
    go_wp2_with fail
    refine (HO1.out _ (HE.out.below HUB.out HE.out.big)).mono ?_
    rintro e wn ⟨rfl, rfl⟩
    cases o1 with
    | false =>
     go_wp2
     go_ret
     exact ⟨ret_bool (a := false) (Eq.symm (by simp [Wri.fields, HOA.out] <;> omega)), HU.out⟩
    | true =>
     go_wp2
     go_ret
     exact ⟨ret_bool (a := true) (Eq.symm (by simp [Wri.fields, HOA.out] <;> omega)), HU.out⟩
   have n14 : (k == 14) = false := bn y14
   go_upto_region 23 with fail
   by_cases y15 : k = 15
   ·subst y15
    go_wp2_with fail
    refine (HO2.out _ (HE.out.below HUB.out HE.out.big)).mono ?_
    rintro e wn ⟨rfl, rfl⟩
    cases o2 with
    | false =>
     go_wp2
     go_ret
     exact ⟨ret_bool (a := false) (Eq.symm (by simp [Wri.fields, HOB.out] <;> omega)), HU.out⟩
    | true =>
     go_wp2
     go_ret
     exact ⟨ret_bool (a := true) (Eq.symm (by simp [Wri.fields, HOB.out] <;> omega)), HU.out⟩
   have n15 : (k == 15) = false := bn y15
   go_wp2
   go_ret
   exact ⟨ret_bool (a := true) (Eq.symm (by simp [Wri.fields, ht0, y1, y3, y29, y2, y5, y8, y10, y13, y20, y24, y9, y14, y15] <;> omega)), HU.out⟩
  obtain ⟨q1, q2, q3⟩ := same_no hT
  have q4 := of_decide_eq_false q2
  have q5 : (T.toList == []) = false := by
   have e : (⟨#[]⟩ : ByteArray).toList = [] := by simp [ByteArray.toList_eq]
   rw [e] at q1
   exact q1
  have q6 : T.toList.isEmpty = false := by
   rw [← HT.out, byt_list]
   cases t with
   | nil => exact absurd (HT.out.symm.trans rfl) hT
   | cons a l => rfl
  have ht0 : ¬ t = [] := fun e => hT (HT.out.symm.trans (by rw [e]; rfl))
  have HT0 := hid ht0
  clear ht0
  go_quiet (fail)
  obtain ⟨W1, hW1⟩ : ∃ W1, W0.drewN nq = W1 := ⟨_, rfl⟩
  have hd1 : Below W0.heap.size W0 W1 := hW1 ▸ below_drewN (Below.refl _ W0) nq
  rw [hW1]
  clear hW1
  have hsz0 := HU.out.size
  replace HU := hid (HU.out.trans (hd1.mono hsz0))
  have HUB := HU
  replace NB := bl NB hd1
  clear hd1 hsz0 c0 c1 c2
  have c0 := NB.out.cell 0
  have c1 := NB.out.cell 1
  have c2 := NB.out.cell 2
  simp at c0 c1 c2
  go_upto_region 3 with fail
  by_cases y1 : k = 1
  ·subst y1
   go_wp2
   go_ret
   exact ⟨ret_bool (a := false) (Eq.symm (by simp [Wri.fields, HT0.out] <;> omega)), HU.out⟩
  have n1 : (k == 1) = false := bn y1
  go_upto_region 5 with fail
  by_cases y3 : k = 3
  ·subst y3
   go_wp2
   go_ret
   exact ⟨ret_bool (a := false) (Eq.symm (by simp [Wri.fields, HT0.out] <;> omega)), HU.out⟩
  have n3 : (k == 3) = false := bn y3
  go_upto_region 7 with fail
  by_cases y29 : k = 29
  ·subst y29
   go_wp2_with fail
   refine (HN.out _ (HE.out.below HUB.out HE.out.big)).mono ?_
   rintro e wn ⟨rfl, hb⟩
   have HU2 := hid (HU.out.trans (hb.mono HU.out.size))
   clear hb
   cases nb with
   | false =>
    go_wp2
    go_ret
    exact ⟨ret_bool (a := false) (Eq.symm (by simp [Wri.fields, HT0.out, HNB.out] <;> omega)), HU2.out⟩
   | true =>
    go_wp2
    go_ret
    exact ⟨ret_bool (a := false) (Eq.symm (by simp [Wri.fields, HT0.out, HNB.out] <;> omega)), HU2.out⟩
  have n29 : (k == 29) = false := bn y29
  go_upto_region 10 with fail
  by_cases y2 : k = 2
  ·subst y2
   go_wp2
   go_ret
   exact ⟨ret_bool (a := true) (Eq.symm (by simp [Wri.fields, HT0.out] <;> omega)), HU.out⟩
  have n2 : (k == 2) = false := bn y2
  go_upto_region 12 with fail
  by_cases y5 : k = 5
  ·subst y5
   go_wp2_with fail
   refine (HN.out _ (HE.out.below HUB.out HE.out.big)).mono ?_
   rintro e wn ⟨rfl, hb⟩
   have HU2 := hid (HU.out.trans (hb.mono HU.out.size))
   clear hb
   cases nb with
   | false =>
    go_wp2
    go_ret
    exact ⟨ret_bool (a := false) (Eq.symm (by simp [Wri.fields, HT0.out, HNB.out] <;> omega)), HU2.out⟩
   | true =>
    go_wp2
    go_ret
    exact ⟨ret_bool (a := true) (Eq.symm (by simp [Wri.fields, HT0.out, HNB.out] <;> omega)), HU2.out⟩
  have n5 : (k == 5) = false := bn y5
  go_upto_region 13 with fail
  by_cases y8 : k = 8
  ·subst y8
   go_wp2_with fail
   refine (HN.out _ (HE.out.below HUB.out HE.out.big)).mono ?_
   rintro e wn ⟨rfl, hb⟩
   have HU2 := hid (HU.out.trans (hb.mono HU.out.size))
   clear hb
   cases nb with
   | false =>
    go_wp2
    go_ret
    exact ⟨ret_bool (a := false) (Eq.symm (by simp [Wri.fields, HT0.out, HNB.out] <;> omega)), HU2.out⟩
   | true =>
    go_wp2
    go_ret
    exact ⟨ret_bool (a := true) (Eq.symm (by simp [Wri.fields, HT0.out, HNB.out] <;> omega)), HU2.out⟩
  have n8 : (k == 8) = false := bn y8
  go_upto_region 14 with fail
  by_cases y10 : k = 10
  ·subst y10
   go_wp2_with fail
   refine (HN.out _ (HE.out.below HUB.out HE.out.big)).mono ?_
   rintro e wn ⟨rfl, hb⟩
   have HU2 := hid (HU.out.trans (hb.mono HU.out.size))
   clear hb
   cases nb with
   | false =>
    go_wp2
    go_ret
    exact ⟨ret_bool (a := false) (Eq.symm (by simp [Wri.fields, HT0.out, HNB.out] <;> omega)), HU2.out⟩
   | true =>
    go_wp2
    go_ret
    exact ⟨ret_bool (a := true) (Eq.symm (by simp [Wri.fields, HT0.out, HNB.out] <;> omega)), HU2.out⟩
  have n10 : (k == 10) = false := bn y10
  go_upto_region 15 with fail
  by_cases y13 : k = 13
  ·subst y13
   go_wp2_with fail
   refine (HN.out _ (HE.out.below HUB.out HE.out.big)).mono ?_
   rintro e wn ⟨rfl, hb⟩
   have HU2 := hid (HU.out.trans (hb.mono HU.out.size))
   clear hb
   cases nb with
   | false =>
    go_wp2
    go_ret
    exact ⟨ret_bool (a := false) (Eq.symm (by simp [Wri.fields, HT0.out, HNB.out] <;> omega)), HU2.out⟩
   | true =>
    go_wp2
    go_ret
    exact ⟨ret_bool (a := true) (Eq.symm (by simp [Wri.fields, HT0.out, HNB.out] <;> omega)), HU2.out⟩
  have n13 : (k == 13) = false := bn y13
  go_upto_region 16 with fail
  by_cases y20 : k = 20
  ·subst y20
   go_wp2_with fail
   refine (HN.out _ (HE.out.below HUB.out HE.out.big)).mono ?_
   rintro e wn ⟨rfl, hb⟩
   have HU2 := hid (HU.out.trans (hb.mono HU.out.size))
   clear hb
   cases nb with
   | false =>
    go_wp2
    go_ret
    exact ⟨ret_bool (a := false) (Eq.symm (by simp [Wri.fields, HT0.out, HNB.out] <;> omega)), HU2.out⟩
   | true =>
    go_wp2
    go_ret
    exact ⟨ret_bool (a := true) (Eq.symm (by simp [Wri.fields, HT0.out, HNB.out] <;> omega)), HU2.out⟩
  have n20 : (k == 20) = false := bn y20
  go_upto_region 17 with fail
  by_cases y24 : k = 24
  ·subst y24
   go_wp2_with fail
   refine (HN.out _ (HE.out.below HUB.out HE.out.big)).mono ?_
   rintro e wn ⟨rfl, hb⟩
   have HU2 := hid (HU.out.trans (hb.mono HU.out.size))
   clear hb
   cases nb with
   | false =>
    go_wp2
    go_ret
    exact ⟨ret_bool (a := false) (Eq.symm (by simp [Wri.fields, HT0.out, HNB.out] <;> omega)), HU2.out⟩
   | true =>
    go_wp2
    go_ret
    exact ⟨ret_bool (a := true) (Eq.symm (by simp [Wri.fields, HT0.out, HNB.out] <;> omega)), HU2.out⟩
  have n24 : (k == 24) = false := bn y24
  go_upto_region 19 with fail
  by_cases y9 : k = 9
  ·subst y9
   go_wp2_with fail
   refine (HN.out _ (HE.out.below HUB.out HE.out.big)).mono ?_
   rintro e wn ⟨rfl, hb⟩
   have HU2 := hid (HU.out.trans (hb.mono HU.out.size))
   clear hb
   cases nb with
   | false =>
    go_wp2
    go_ret
    exact ⟨ret_bool (a := false) (Eq.symm (by simp [Wri.fields, HT0.out, HNB.out] <;> omega)), HU2.out⟩
   | true =>
    go_wp2
    go_ret
    exact ⟨ret_bool (a := true) (Eq.symm (by simp [Wri.fields, HT0.out, HNB.out] <;> omega)), HU2.out⟩
  have n9 : (k == 9) = false := bn y9
  go_upto_region 21 with fail
  by_cases y14 : k = 14
  ·subst y14
   go_wp2_with fail
   refine (HO1.out _ (HE.out.below HUB.out HE.out.big)).mono ?_
   rintro e wn ⟨rfl, rfl⟩
   cases o1 with
   | false =>
    go_wp2
    go_ret
    exact ⟨ret_bool (a := false) (Eq.symm (by simp [Wri.fields, HT0.out, HOA.out] <;> omega)), HU.out⟩
   | true =>
    go_wp2
    go_ret
    exact ⟨ret_bool (a := true) (Eq.symm (by simp [Wri.fields, HT0.out, HOA.out] <;> omega)), HU.out⟩
  have n14 : (k == 14) = false := bn y14
  go_upto_region 23 with fail
  by_cases y15 : k = 15
  ·subst y15
   go_wp2_with fail
   refine (HO2.out _ (HE.out.below HUB.out HE.out.big)).mono ?_
   rintro e wn ⟨rfl, rfl⟩
   cases o2 with
   | false =>
    go_wp2
    go_ret
    exact ⟨ret_bool (a := false) (Eq.symm (by simp [Wri.fields, HT0.out, HOB.out] <;> omega)), HU.out⟩
   | true =>
    go_wp2
    go_ret
    exact ⟨ret_bool (a := true) (Eq.symm (by simp [Wri.fields, HT0.out, HOB.out] <;> omega)), HU.out⟩
  have n15 : (k == 15) = false := bn y15
  go_wp2
  go_ret
  exact ⟨ret_bool (a := false) (Eq.symm (by simp [Wri.fields, HT0.out, y1, y3, y29, y2, y5, y8, y10, y13, y20, y24, y9, y14, y15] <;> omega)), HU.out⟩
 have v0 : (nu == 0) = false := bn z0
 replace z0 := hid z0
 by_cases hT : T = ⟨#[]⟩
 ·have ht0 : t = [] := byt_inj (HT.out.trans (hT.trans rfl))
  subst hT
  go_quiet (fail)
  obtain ⟨W1, hW1⟩ : ∃ W1, W0.drewN nq = W1 := ⟨_, rfl⟩
  have hd1 : Below W0.heap.size W0 W1 := hW1 ▸ below_drewN (Below.refl _ W0) nq
  rw [hW1]
  clear hW1
  have hsz0 := HU.out.size
  replace HU := hid (HU.out.trans (hd1.mono hsz0))
  have HUB := HU
  replace NB := bl NB hd1
  clear hd1 hsz0 c0 c1 c2
  have c0 := NB.out.cell 0
  have c1 := NB.out.cell 1
  have c2 := NB.out.cell 2
  simp at c0 c1 c2
  go_upto_region 3 with fail
  by_cases y1 : k = 1
  ·subst y1
   by_cases r1 : 0 ≤ nu
   ·have r1d : decide (0 ≤ nu) = true := decide_eq_true r1
    by_cases r2 : nu ≤ 9007199254740992
    ·have r2d : decide (nu ≤ 9007199254740992) = true := decide_eq_true r2
     go_wp2
     go_ret
     exact ⟨ret_bool (a := true) (Eq.symm (by simp [Wri.fields, z0.out, ht0, r1, r2] <;> omega)), HU.out⟩
    have r2d : decide (nu ≤ 9007199254740992) = false := decide_eq_false r2
    go_wp2
    go_ret
    exact ⟨ret_bool (a := false) (Eq.symm (by simp [Wri.fields, z0.out, ht0, r1, r2] <;> omega)), HU.out⟩
   have r1d : decide (0 ≤ nu) = false := decide_eq_false r1
   go_wp2
   go_ret
   exact ⟨ret_bool (a := false) (Eq.symm (by simp [Wri.fields, z0.out, ht0, r1] <;> omega)), HU.out⟩
  have n1 : (k == 1) = false := bn y1
  go_upto_region 5 with fail
  by_cases y3 : k = 3
  ·subst y3
   by_cases u1 : nu = 1
   ·subst u1
    go_wp2
    go_ret
    exact ⟨ret_bool (a := true) (Eq.symm (by simp [Wri.fields, z0.out, ht0] <;> omega)), HU.out⟩
   have v1 : (nu == 1) = false := bn u1
   have x1 : (nu != 1) = true := by simp [bne, v1]
   go_wp2
   go_ret
   exact ⟨ret_bool (a := false) (Eq.symm (by simp [Wri.fields, z0.out, ht0, u1] <;> omega)), HU.out⟩
  have n3 : (k == 3) = false := bn y3
  go_upto_region 7 with fail
  by_cases y29 : k = 29
  ·subst y29
   by_cases r1 : 1 ≤ nu
   ·have r1d : decide (1 ≤ nu) = true := decide_eq_true r1
    by_cases r2 : nu ≤ 3
    ·have r2d : decide (nu ≤ 3) = true := decide_eq_true r2
     by_cases u2 : nu = 2
     ·subst u2
      go_wp2
      go_ret
      exact ⟨ret_bool (a := true) (Eq.symm (by simp [Wri.fields, z0.out, ht0, r1, r2] <;> omega)), HU.out⟩
     have v2 : (nu == 2) = false := bn u2
     have x2 : (nu != 2) = true := by simp [bne, v2]
     go_wp2_with fail
     refine (HN.out _ (HE.out.below HUB.out HE.out.big)).mono ?_
     rintro e wn ⟨rfl, hb⟩
     have HU2 := hid (HU.out.trans (hb.mono HU.out.size))
     clear hb
     cases nb with
     | false =>
      go_wp2
      go_ret
      exact ⟨ret_bool (a := false) (Eq.symm (by simp [Wri.fields, z0.out, HNB.out, u2, r1, r2] <;> omega)), HU2.out⟩
     | true =>
      go_wp2
      go_ret
      exact ⟨ret_bool (a := true) (Eq.symm (by simp [Wri.fields, z0.out, HNB.out, u2, r1, r2] <;> omega)), HU2.out⟩
    have r2d : decide (nu ≤ 3) = false := decide_eq_false r2
    by_cases u2 : nu = 2
    ·subst u2
     exfalso
     omega
    have v2 : (nu == 2) = false := bn u2
    have x2 : (nu != 2) = true := by simp [bne, v2]
    go_wp2_with fail
    refine (HN.out _ (HE.out.below HUB.out HE.out.big)).mono ?_
    rintro e wn ⟨rfl, hb⟩
    have HU2 := hid (HU.out.trans (hb.mono HU.out.size))
    clear hb
    cases nb with
    | false =>
     go_wp2
     go_ret
     exact ⟨ret_bool (a := false) (Eq.symm (by simp [Wri.fields, z0.out, HNB.out, u2, r1, r2] <;> omega)), HU2.out⟩
    | true =>
     go_wp2
     go_ret
     exact ⟨ret_bool (a := false) (Eq.symm (by simp [Wri.fields, z0.out, HNB.out, u2, r1, r2] <;> omega)), HU2.out⟩
   have r1d : decide (1 ≤ nu) = false := decide_eq_false r1
   by_cases u2 : nu = 2
   ·subst u2
    exfalso
    omega
   have v2 : (nu == 2) = false := bn u2
   have x2 : (nu != 2) = true := by simp [bne, v2]
   go_wp2_with fail
   refine (HN.out _ (HE.out.below HUB.out HE.out.big)).mono ?_
   rintro e wn ⟨rfl, hb⟩
   have HU2 := hid (HU.out.trans (hb.mono HU.out.size))
   clear hb
   cases nb with
   | false =>
    go_wp2
    go_ret
    exact ⟨ret_bool (a := false) (Eq.symm (by simp [Wri.fields, z0.out, HNB.out, u2, r1] <;> omega)), HU2.out⟩
   | true =>
    go_wp2
    go_ret
    exact ⟨ret_bool (a := false) (Eq.symm (by simp [Wri.fields, z0.out, HNB.out, u2, r1] <;> omega)), HU2.out⟩
  have n29 : (k == 29) = false := bn y29
  go_upto_region 10 with fail
  by_cases y2 : k = 2
  ·subst y2
   go_wp2
   go_ret
   exact ⟨ret_bool (a := false) (Eq.symm (by simp [Wri.fields, z0.out, ht0] <;> omega)), HU.out⟩
  have n2 : (k == 2) = false := bn y2
  go_upto_region 12 with fail
  by_cases y5 : k = 5
  ·subst y5
   go_wp2_with fail
   refine (HN.out _ (HE.out.below HUB.out HE.out.big)).mono ?_
   rintro e wn ⟨rfl, hb⟩
   have HU2 := hid (HU.out.trans (hb.mono HU.out.size))
   clear hb
   cases nb with
   | false =>
    go_wp2
    go_ret
    exact ⟨ret_bool (a := false) (Eq.symm (by simp [Wri.fields, z0.out, HNB.out] <;> omega)), HU2.out⟩
   | true =>
    go_wp2
    go_ret
    exact ⟨ret_bool (a := false) (Eq.symm (by simp [Wri.fields, z0.out, HNB.out] <;> omega)), HU2.out⟩
  have n5 : (k == 5) = false := bn y5
  go_upto_region 13 with fail
  by_cases y8 : k = 8
  ·subst y8
   go_wp2_with fail
   refine (HN.out _ (HE.out.below HUB.out HE.out.big)).mono ?_
   rintro e wn ⟨rfl, hb⟩
   have HU2 := hid (HU.out.trans (hb.mono HU.out.size))
   clear hb
   cases nb with
   | false =>
    go_wp2
    go_ret
    exact ⟨ret_bool (a := false) (Eq.symm (by simp [Wri.fields, z0.out, HNB.out] <;> omega)), HU2.out⟩
   | true =>
    go_wp2
    go_ret
    exact ⟨ret_bool (a := false) (Eq.symm (by simp [Wri.fields, z0.out, HNB.out] <;> omega)), HU2.out⟩
  have n8 : (k == 8) = false := bn y8
  go_upto_region 14 with fail
  by_cases y10 : k = 10
  ·subst y10
   go_wp2_with fail
   refine (HN.out _ (HE.out.below HUB.out HE.out.big)).mono ?_
   rintro e wn ⟨rfl, hb⟩
   have HU2 := hid (HU.out.trans (hb.mono HU.out.size))
   clear hb
   cases nb with
   | false =>
    go_wp2
    go_ret
    exact ⟨ret_bool (a := false) (Eq.symm (by simp [Wri.fields, z0.out, HNB.out] <;> omega)), HU2.out⟩
   | true =>
    go_wp2
    go_ret
    exact ⟨ret_bool (a := false) (Eq.symm (by simp [Wri.fields, z0.out, HNB.out] <;> omega)), HU2.out⟩
  have n10 : (k == 10) = false := bn y10
  go_upto_region 15 with fail
  by_cases y13 : k = 13
  ·subst y13
   go_wp2_with fail
   refine (HN.out _ (HE.out.below HUB.out HE.out.big)).mono ?_
   rintro e wn ⟨rfl, hb⟩
   have HU2 := hid (HU.out.trans (hb.mono HU.out.size))
   clear hb
   cases nb with
   | false =>
    go_wp2
    go_ret
    exact ⟨ret_bool (a := false) (Eq.symm (by simp [Wri.fields, z0.out, HNB.out] <;> omega)), HU2.out⟩
   | true =>
    go_wp2
    go_ret
    exact ⟨ret_bool (a := false) (Eq.symm (by simp [Wri.fields, z0.out, HNB.out] <;> omega)), HU2.out⟩
  have n13 : (k == 13) = false := bn y13
  go_upto_region 16 with fail
  by_cases y20 : k = 20
  ·subst y20
   go_wp2_with fail
   refine (HN.out _ (HE.out.below HUB.out HE.out.big)).mono ?_
   rintro e wn ⟨rfl, hb⟩
   have HU2 := hid (HU.out.trans (hb.mono HU.out.size))
   clear hb
   cases nb with
   | false =>
    go_wp2
    go_ret
    exact ⟨ret_bool (a := false) (Eq.symm (by simp [Wri.fields, z0.out, HNB.out] <;> omega)), HU2.out⟩
   | true =>
    go_wp2
    go_ret
    exact ⟨ret_bool (a := false) (Eq.symm (by simp [Wri.fields, z0.out, HNB.out] <;> omega)), HU2.out⟩
  have n20 : (k == 20) = false := bn y20
  go_upto_region 17 with fail
  by_cases y24 : k = 24
  ·subst y24
   go_wp2_with fail
   refine (HN.out _ (HE.out.below HUB.out HE.out.big)).mono ?_
   rintro e wn ⟨rfl, hb⟩
   have HU2 := hid (HU.out.trans (hb.mono HU.out.size))
   clear hb
   cases nb with
   | false =>
    go_wp2
    go_ret
    exact ⟨ret_bool (a := false) (Eq.symm (by simp [Wri.fields, z0.out, HNB.out] <;> omega)), HU2.out⟩
   | true =>
    go_wp2
    go_ret
    exact ⟨ret_bool (a := false) (Eq.symm (by simp [Wri.fields, z0.out, HNB.out] <;> omega)), HU2.out⟩
  have n24 : (k == 24) = false := bn y24
  go_upto_region 19 with fail
  by_cases y9 : k = 9
  ·subst y9
   go_wp2
   go_ret
   exact ⟨ret_bool (a := false) (Eq.symm (by simp [Wri.fields, z0.out, ht0] <;> omega)), HU.out⟩
  have n9 : (k == 9) = false := bn y9
  go_upto_region 21 with fail
  by_cases y14 : k = 14
  ·subst y14
   go_wp2_with fail
   refine (HO1.out _ (HE.out.below HUB.out HE.out.big)).mono ?_
   rintro e wn ⟨rfl, rfl⟩
   cases o1 with
   | false =>
    go_wp2
    go_ret
    exact ⟨ret_bool (a := false) (Eq.symm (by simp [Wri.fields, z0.out, HOA.out] <;> omega)), HU.out⟩
   | true =>
    go_wp2
    go_ret
    exact ⟨ret_bool (a := false) (Eq.symm (by simp [Wri.fields, z0.out, HOA.out] <;> omega)), HU.out⟩
  have n14 : (k == 14) = false := bn y14
  go_upto_region 23 with fail
  by_cases y15 : k = 15
  ·subst y15
   go_wp2_with fail
   refine (HO2.out _ (HE.out.below HUB.out HE.out.big)).mono ?_
   rintro e wn ⟨rfl, rfl⟩
   cases o2 with
   | false =>
    go_wp2
    go_ret
    exact ⟨ret_bool (a := false) (Eq.symm (by simp [Wri.fields, z0.out, HOB.out] <;> omega)), HU.out⟩
   | true =>
    go_wp2
    go_ret
    exact ⟨ret_bool (a := false) (Eq.symm (by simp [Wri.fields, z0.out, HOB.out] <;> omega)), HU.out⟩
  have n15 : (k == 15) = false := bn y15
  go_wp2
  go_ret
  exact ⟨ret_bool (a := false) (Eq.symm (by simp [Wri.fields, z0.out, ht0, y1, y3, y29, y2, y5, y8, y10, y13, y20, y24, y9, y14, y15] <;> omega)), HU.out⟩
 obtain ⟨q1, q2, q3⟩ := same_no hT
 have q4 := of_decide_eq_false q2
 have q5 : (T.toList == []) = false := by
  have e : (⟨#[]⟩ : ByteArray).toList = [] := by simp [ByteArray.toList_eq]
  rw [e] at q1
  exact q1
 have q6 : T.toList.isEmpty = false := by
  rw [← HT.out, byt_list]
  cases t with
  | nil => exact absurd (HT.out.symm.trans rfl) hT
  | cons a l => rfl
 have ht0 : ¬ t = [] := fun e => hT (HT.out.symm.trans (by rw [e]; rfl))
 have HT0 := hid ht0
 clear ht0
 go_quiet (fail)
 obtain ⟨W1, hW1⟩ : ∃ W1, W0.drewN nq = W1 := ⟨_, rfl⟩
 have hd1 : Below W0.heap.size W0 W1 := hW1 ▸ below_drewN (Below.refl _ W0) nq
 rw [hW1]
 clear hW1
 have hsz0 := HU.out.size
 replace HU := hid (HU.out.trans (hd1.mono hsz0))
 have HUB := HU
 replace NB := bl NB hd1
 clear hd1 hsz0 c0 c1 c2
 have c0 := NB.out.cell 0
 have c1 := NB.out.cell 1
 have c2 := NB.out.cell 2
 simp at c0 c1 c2
 go_upto_region 3 with fail
 by_cases y1 : k = 1
 ·subst y1
  by_cases r1 : 0 ≤ nu
  ·have r1d : decide (0 ≤ nu) = true := decide_eq_true r1
   by_cases r2 : nu ≤ 9007199254740992
   ·have r2d : decide (nu ≤ 9007199254740992) = true := decide_eq_true r2
    go_wp2
    go_ret
    exact ⟨ret_bool (a := false) (Eq.symm (by simp [Wri.fields, z0.out, HT0.out, r1, r2] <;> omega)), HU.out⟩
   have r2d : decide (nu ≤ 9007199254740992) = false := decide_eq_false r2
   go_wp2
   go_ret
   exact ⟨ret_bool (a := false) (Eq.symm (by simp [Wri.fields, z0.out, HT0.out, r1, r2] <;> omega)), HU.out⟩
  have r1d : decide (0 ≤ nu) = false := decide_eq_false r1
  go_wp2
  go_ret
  exact ⟨ret_bool (a := false) (Eq.symm (by simp [Wri.fields, z0.out, HT0.out, r1] <;> omega)), HU.out⟩
 have n1 : (k == 1) = false := bn y1
 go_upto_region 5 with fail
 by_cases y3 : k = 3
 ·subst y3
  by_cases u1 : nu = 1
  ·subst u1
   go_wp2
   go_ret
   exact ⟨ret_bool (a := false) (Eq.symm (by simp [Wri.fields, z0.out, HT0.out] <;> omega)), HU.out⟩
  have v1 : (nu == 1) = false := bn u1
  have x1 : (nu != 1) = true := by simp [bne, v1]
  go_wp2
  go_ret
  exact ⟨ret_bool (a := false) (Eq.symm (by simp [Wri.fields, z0.out, HT0.out, u1] <;> omega)), HU.out⟩
 have n3 : (k == 3) = false := bn y3
 go_upto_region 7 with fail
 by_cases y29 : k = 29
 ·subst y29
  by_cases r1 : 1 ≤ nu
  ·have r1d : decide (1 ≤ nu) = true := decide_eq_true r1
   by_cases r2 : nu ≤ 3
   ·have r2d : decide (nu ≤ 3) = true := decide_eq_true r2
    by_cases u2 : nu = 2
    ·subst u2
     go_wp2
     go_ret
     exact ⟨ret_bool (a := false) (Eq.symm (by simp [Wri.fields, z0.out, HT0.out, r1, r2] <;> omega)), HU.out⟩
    have v2 : (nu == 2) = false := bn u2
    have x2 : (nu != 2) = true := by simp [bne, v2]
    go_wp2_with fail
    refine (HN.out _ (HE.out.below HUB.out HE.out.big)).mono ?_
    rintro e wn ⟨rfl, hb⟩
    have HU2 := hid (HU.out.trans (hb.mono HU.out.size))
    clear hb
    cases nb with
    | false =>
     go_wp2
     go_ret
     exact ⟨ret_bool (a := false) (Eq.symm (by simp [Wri.fields, z0.out, HT0.out, HNB.out, u2, r1, r2] <;> omega)), HU2.out⟩
    | true =>
     go_wp2
     go_ret
     exact ⟨ret_bool (a := true) (Eq.symm (by simp [Wri.fields, z0.out, HT0.out, HNB.out, u2, r1, r2] <;> omega)), HU2.out⟩
   have r2d : decide (nu ≤ 3) = false := decide_eq_false r2
   by_cases u2 : nu = 2
   ·subst u2
    exfalso
    omega
   have v2 : (nu == 2) = false := bn u2
   have x2 : (nu != 2) = true := by simp [bne, v2]
   go_wp2_with fail
   refine (HN.out _ (HE.out.below HUB.out HE.out.big)).mono ?_
   rintro e wn ⟨rfl, hb⟩
   have HU2 := hid (HU.out.trans (hb.mono HU.out.size))
   clear hb
   cases nb with
   | false =>
    go_wp2
    go_ret
    exact ⟨ret_bool (a := false) (Eq.symm (by simp [Wri.fields, z0.out, HT0.out, HNB.out, u2, r1, r2] <;> omega)), HU2.out⟩
   | true =>
    go_wp2
    go_ret
    exact ⟨ret_bool (a := false) (Eq.symm (by simp [Wri.fields, z0.out, HT0.out, HNB.out, u2, r1, r2] <;> omega)), HU2.out⟩
  have r1d : decide (1 ≤ nu) = false := decide_eq_false r1
  by_cases u2 : nu = 2
  ·subst u2
   exfalso
   omega
  have v2 : (nu == 2) = false := bn u2
  have x2 : (nu != 2) = true := by simp [bne, v2]
  go_wp2_with fail
  refine (HN.out _ (HE.out.below HUB.out HE.out.big)).mono ?_
  rintro e wn ⟨rfl, hb⟩
  have HU2 := hid (HU.out.trans (hb.mono HU.out.size))
  clear hb
  cases nb with
  | false =>
   go_wp2
   go_ret
   exact ⟨ret_bool (a := false) (Eq.symm (by simp [Wri.fields, z0.out, HT0.out, HNB.out, u2, r1] <;> omega)), HU2.out⟩
  | true =>
   go_wp2
   go_ret
   exact ⟨ret_bool (a := false) (Eq.symm (by simp [Wri.fields, z0.out, HT0.out, HNB.out, u2, r1] <;> omega)), HU2.out⟩
 have n29 : (k == 29) = false := bn y29
 go_upto_region 10 with fail
 by_cases y2 : k = 2
 ·subst y2
  go_wp2
  go_ret
  exact ⟨ret_bool (a := false) (Eq.symm (by simp [Wri.fields, z0.out, HT0.out] <;> omega)), HU.out⟩
 have n2 : (k == 2) = false := bn y2
 go_upto_region 12 with fail
 by_cases y5 : k = 5
 ·subst y5
  go_wp2_with fail
  refine (HN.out _ (HE.out.below HUB.out HE.out.big)).mono ?_
  rintro e wn ⟨rfl, hb⟩
  have HU2 := hid (HU.out.trans (hb.mono HU.out.size))
  clear hb
  cases nb with
  | false =>
   go_wp2
   go_ret
   exact ⟨ret_bool (a := false) (Eq.symm (by simp [Wri.fields, z0.out, HT0.out, HNB.out] <;> omega)), HU2.out⟩
  | true =>
   go_wp2
   go_ret
   exact ⟨ret_bool (a := false) (Eq.symm (by simp [Wri.fields, z0.out, HT0.out, HNB.out] <;> omega)), HU2.out⟩
 have n5 : (k == 5) = false := bn y5
 go_upto_region 13 with fail
 by_cases y8 : k = 8
 ·subst y8
  go_wp2_with fail
  refine (HN.out _ (HE.out.below HUB.out HE.out.big)).mono ?_
  rintro e wn ⟨rfl, hb⟩
  have HU2 := hid (HU.out.trans (hb.mono HU.out.size))
  clear hb
  cases nb with
  | false =>
   go_wp2
   go_ret
   exact ⟨ret_bool (a := false) (Eq.symm (by simp [Wri.fields, z0.out, HT0.out, HNB.out] <;> omega)), HU2.out⟩
  | true =>
   go_wp2
   go_ret
   exact ⟨ret_bool (a := false) (Eq.symm (by simp [Wri.fields, z0.out, HT0.out, HNB.out] <;> omega)), HU2.out⟩
 have n8 : (k == 8) = false := bn y8
 go_upto_region 14 with fail
 by_cases y10 : k = 10
 ·subst y10
  go_wp2_with fail
  refine (HN.out _ (HE.out.below HUB.out HE.out.big)).mono ?_
  rintro e wn ⟨rfl, hb⟩
  have HU2 := hid (HU.out.trans (hb.mono HU.out.size))
  clear hb
  cases nb with
  | false =>
   go_wp2
   go_ret
   exact ⟨ret_bool (a := false) (Eq.symm (by simp [Wri.fields, z0.out, HT0.out, HNB.out] <;> omega)), HU2.out⟩
  | true =>
   go_wp2
   go_ret
   exact ⟨ret_bool (a := false) (Eq.symm (by simp [Wri.fields, z0.out, HT0.out, HNB.out] <;> omega)), HU2.out⟩
 have n10 : (k == 10) = false := bn y10
 go_upto_region 15 with fail
 by_cases y13 : k = 13
 ·subst y13
  go_wp2_with fail
  refine (HN.out _ (HE.out.below HUB.out HE.out.big)).mono ?_
  rintro e wn ⟨rfl, hb⟩
  have HU2 := hid (HU.out.trans (hb.mono HU.out.size))
  clear hb
  cases nb with
  | false =>
   go_wp2
   go_ret
   exact ⟨ret_bool (a := false) (Eq.symm (by simp [Wri.fields, z0.out, HT0.out, HNB.out] <;> omega)), HU2.out⟩
  | true =>
   go_wp2
   go_ret
   exact ⟨ret_bool (a := false) (Eq.symm (by simp [Wri.fields, z0.out, HT0.out, HNB.out] <;> omega)), HU2.out⟩
 have n13 : (k == 13) = false := bn y13
 go_upto_region 16 with fail
 by_cases y20 : k = 20
 ·subst y20
  go_wp2_with fail
  refine (HN.out _ (HE.out.below HUB.out HE.out.big)).mono ?_
  rintro e wn ⟨rfl, hb⟩
  have HU2 := hid (HU.out.trans (hb.mono HU.out.size))
  clear hb
  cases nb with
  | false =>
   go_wp2
   go_ret
   exact ⟨ret_bool (a := false) (Eq.symm (by simp [Wri.fields, z0.out, HT0.out, HNB.out] <;> omega)), HU2.out⟩
  | true =>
   go_wp2
   go_ret
   exact ⟨ret_bool (a := false) (Eq.symm (by simp [Wri.fields, z0.out, HT0.out, HNB.out] <;> omega)), HU2.out⟩
 have n20 : (k == 20) = false := bn y20
 go_upto_region 17 with fail
 by_cases y24 : k = 24
 ·subst y24
  go_wp2_with fail
  refine (HN.out _ (HE.out.below HUB.out HE.out.big)).mono ?_
  rintro e wn ⟨rfl, hb⟩
  have HU2 := hid (HU.out.trans (hb.mono HU.out.size))
  clear hb
  cases nb with
  | false =>
   go_wp2
   go_ret
   exact ⟨ret_bool (a := false) (Eq.symm (by simp [Wri.fields, z0.out, HT0.out, HNB.out] <;> omega)), HU2.out⟩
  | true =>
   go_wp2
   go_ret
   exact ⟨ret_bool (a := false) (Eq.symm (by simp [Wri.fields, z0.out, HT0.out, HNB.out] <;> omega)), HU2.out⟩
 have n24 : (k == 24) = false := bn y24
 go_upto_region 19 with fail
 by_cases y9 : k = 9
 ·subst y9
  go_wp2_with fail
  refine (HN.out _ (HE.out.below HUB.out HE.out.big)).mono ?_
  rintro e wn ⟨rfl, hb⟩
  have HU2 := hid (HU.out.trans (hb.mono HU.out.size))
  clear hb
  cases nb with
  | false =>
   go_wp2
   go_ret
   exact ⟨ret_bool (a := false) (Eq.symm (by simp [Wri.fields, z0.out, HT0.out, HNB.out] <;> omega)), HU2.out⟩
  | true =>
   go_wp2
   go_ret
   exact ⟨ret_bool (a := false) (Eq.symm (by simp [Wri.fields, z0.out, HT0.out, HNB.out] <;> omega)), HU2.out⟩
 have n9 : (k == 9) = false := bn y9
 go_upto_region 21 with fail
 by_cases y14 : k = 14
 ·subst y14
  go_wp2_with fail
  refine (HO1.out _ (HE.out.below HUB.out HE.out.big)).mono ?_
  rintro e wn ⟨rfl, rfl⟩
  cases o1 with
  | false =>
   go_wp2
   go_ret
   exact ⟨ret_bool (a := false) (Eq.symm (by simp [Wri.fields, z0.out, HT0.out, HOA.out] <;> omega)), HU.out⟩
  | true =>
   go_wp2
   go_ret
   exact ⟨ret_bool (a := false) (Eq.symm (by simp [Wri.fields, z0.out, HT0.out, HOA.out] <;> omega)), HU.out⟩
 have n14 : (k == 14) = false := bn y14
 go_upto_region 23 with fail
 by_cases y15 : k = 15
 ·subst y15
  go_wp2_with fail
  refine (HO2.out _ (HE.out.below HUB.out HE.out.big)).mono ?_
  rintro e wn ⟨rfl, rfl⟩
  cases o2 with
  | false =>
   go_wp2
   go_ret
   exact ⟨ret_bool (a := false) (Eq.symm (by simp [Wri.fields, z0.out, HT0.out, HOB.out] <;> omega)), HU.out⟩
  | true =>
   go_wp2
   go_ret
   exact ⟨ret_bool (a := false) (Eq.symm (by simp [Wri.fields, z0.out, HT0.out, HOB.out] <;> omega)), HU.out⟩
 have n15 : (k == 15) = false := bn y15
 go_wp2
 go_ret
 exact ⟨ret_bool (a := false) (Eq.symm (by simp [Wri.fields, z0.out, HT0.out, y1, y3, y29, y2, y5, y8, y10, y13, y20, y24, y9, y14, y15] <;> omega)), HU.out⟩
end Go.Proofs.YtonjdlialejedaaGreatDoor
