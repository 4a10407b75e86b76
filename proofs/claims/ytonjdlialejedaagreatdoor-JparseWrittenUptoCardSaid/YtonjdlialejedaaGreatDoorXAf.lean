/-
  Texts that the law leans on: PwD, PmD. Conditions: as each says.
-/
import Derived.Test.YtonjdlialejedaaGreatDoorXAe
import Derived.Test.YtonjdlialejedaaGreatDoorXAa
set_option linter.unusedSimpArgs false
set_option linter.unusedVariables false
namespace Go.Proofs.YtonjdlialejedaaGreatDoor
open Go.Lib (hid)
open Go.RowKit
set_option maxRecDepth 100000 in
set_option maxHeartbeats 4000000 in
theorem form_any (k nu : Int) (t : List UInt8) (A : Option Addr) (n c : Nat) (hn : n ≤ 70368744177664) (w : World) : Calls Tryz.prog 61 #[.agg (nc k nu t (.slice A n c))] w fun e w' => e = .returned (.tuple #[.string (byt (Wri.form k nu n).1), .bool (Wri.form k nu n).2]) ∧ Below w.heap.size w w' := by
 have HPL := hid (fun W => plain_any k nu t A n c hn W)
 obtain ⟨PF, hPF⟩ : ∃ q, byt (Wri.plain k n).1 = q := ⟨_, rfl⟩
 have HPF := hid hPF
 obtain ⟨PB, hPB⟩ : ∃ q, (Wri.plain k n).2 = q := ⟨_, rfl⟩
 have HPB := hid hPB
 rw [hPF, hPB] at HPL
 clear hPF hPB
 go_enter Tryz.func61, Tryz.ntmps61
 go_upto_region 1 with fail
 refine gen_world (F := fun W => Box W w.heap.size 24 (nc k nu t (.slice A n c)) ∧ Below w.heap.size w W) ⟨Box.new w _ _, below1 w _⟩ ?_
 rintro W0 ⟨b0, hU⟩
 have NB := hid b0
 have HU := hid hU
 clear b0 hU
 have nb := NB.out
 go_wp2_with (refine wpList_load_row rfl 24 (.tmp 1) rfl w.heap.size rfl _ (nc k nu t (.slice A n c)) (0, 0) _ nb Tryz.underlying24 rfl info_nod ?_)
 refine (HPL.out _).mono ?_
 rintro e w1 ⟨rfl, hb⟩
 have NB1 := bl NB hb
 have HU1 := hid (HU.out.trans (hb.mono HU.out.size))
 clear hb nb
 have c0 := NB1.out.cell 0
 have c1 := NB1.out.cell 1
 have c3 := NB1.out.cell 3
 simp [nc] at c0 c1 c3
 go_upto_region 2 with fail
 by_cases y22 : k = 22
 ·subst y22
  by_cases z : n = 3
  ·have zz : (((n : Int)) == 3) = true := by rw [beq_iff_eq]; omega
   have zy : (n : Int) = 3 := by omega
   go_wp2
   go_ret2
   refine ⟨?_, HU1.out⟩
   rw [← HPB.out]
   have e : Wri.form 22 nu n = ([101, 98, 105], (Wri.plain 22 n).2) := by unfold Wri.form; simp [z]
   rw [e]
   rfl
  have zz : ((n : Int) == 3) = false := by rw [beq_eq_false_iff_ne]; omega
  have zy : ¬ (n : Int) = 3 := by omega
  go_wp2
  go_ret2
  refine ⟨?_, HU1.out⟩
  rw [← HPB.out, ← HPF.out]
  have e : Wri.form 22 nu n = Wri.plain 22 n := by unfold Wri.form; simp [z]
  rw [e]
  rfl
 have n22 : (k == 22) = false := by rw [beq_eq_false_iff_ne]; omega
 have m22 : ¬ k = 22 := by omega
 go_upto_region 4 with fail
 by_cases y25 : k = 25
 ·subst y25
  by_cases z : n = 1
  ·have zz : (((n : Int)) == 1) = true := by rw [beq_iff_eq]; omega
   have zy : (n : Int) = 1 := by omega
   go_wp2
   go_ret2
   refine ⟨?_, HU1.out⟩
   rw [← HPB.out]
   have e : Wri.form 25 nu n = ([101], (Wri.plain 25 n).2) := by unfold Wri.form; simp [z]
   rw [e]
   rfl
  have zz : ((n : Int) == 1) = false := by rw [beq_eq_false_iff_ne]; omega
  have zy : ¬ (n : Int) = 1 := by omega
  go_wp2
  go_ret2
  refine ⟨?_, HU1.out⟩
  rw [← HPB.out, ← HPF.out]
  have e : Wri.form 25 nu n = Wri.plain 25 n := by unfold Wri.form; simp [z]
  rw [e]
  rfl
 have n25 : (k == 25) = false := by rw [beq_eq_false_iff_ne]; omega
 have m25 : ¬ k = 25 := by omega
 go_upto_region 6 with fail
 by_cases y29 : k = 29
 ·subst y29
  by_cases z : nu = 3
  ·subst z
   go_wp2
   go_ret2
   refine ⟨?_, HU1.out⟩
   rw [← HPB.out]
   have e : Wri.form 29 3 n = ([98, 98, 98], (Wri.plain 29 n).2) := by unfold Wri.form; simp
   rw [e]
   rfl
  have zz : (nu == 3) = false := by rw [beq_eq_false_iff_ne]; omega
  have zy : ¬ nu = 3 := by omega
  go_wp2
  go_ret2
  refine ⟨?_, HU1.out⟩
  rw [← HPB.out, ← HPF.out]
  have e : Wri.form 29 nu n = Wri.plain 29 n := by unfold Wri.form; simp [z]
  rw [e]
  rfl
 have n29 : (k == 29) = false := by rw [beq_eq_false_iff_ne]; omega
 have m29 : ¬ k = 29 := by omega
 go_wp2
 go_ret2
 refine ⟨?_, HU1.out⟩
 rw [← HPB.out, ← HPF.out]
 have e : Wri.form k nu n = Wri.plain k n := by unfold Wri.form; simp [m22, m25, m29]
 rw [e]
 rfl
set_option maxRecDepth 100000 in
set_option maxHeartbeats 4000000 in
theorem sort_any (k nu : Int) (t : List UInt8) (l : List Pars.Node) (A : Option Addr) (n cp : Nat) (c : UInt8) (w : World) : Calls Tryz.prog 65 #[.agg (nc k nu t (.slice A n cp)), .int .u8 (c.toNat : Int)] w fun e w' => e = .returned (.bool (Wri.sort (.mk k nu t l) c)) ∧ Below w.heap.size w w' := by
 obtain ⟨ci, hci⟩ : ∃ q : Int, (c.toNat : Int) = q := ⟨_, rfl⟩
 have HCI := hid hci
 obtain ⟨T, hTe⟩ : ∃ q, byt t = q := ⟨_, rfl⟩
 have HT := hid hTe
 have e0 : nc k nu t (.slice A n cp) = #[.int .i64 k, .int .i64 nu, .string T, .slice A n cp] := by rw [← hTe]; rfl
 rw [e0, hci]
 clear hci hTe e0
 go_enter Tryz.func65, Tryz.ntmps65
 go_upto_region 1 with fail
 refine gen_world (F := fun W => Box W w.heap.size 24 #[.int .i64 k, .int .i64 nu, .string T, .slice A n cp] ∧ Below w.heap.size w W) ⟨Box.new w _ _, below1 w _⟩ ?_
 rintro W0 ⟨b0, hU⟩
 have NB := hid b0
 have HU := hid hU
 have c0 := b0.cell 0
 have c2 := b0.cell 2
 simp at c0 c2
 clear b0 hU
 go_upto_region 2 with fail
 by_cases z : c = 112
 ·subst z
  have hz : ci = 112 := HCI.out.symm.trans (by rfl)
  subst hz
  by_cases y8 : k = 8
  ·subst y8
   go_wp2
   go_ret
   exact ⟨ret_bool (a := true) (Eq.symm (by simp [Wri.sort, Pars.Node.kind, Pars.Node.text] <;> first | omega | (intros; omega) | (apply decide_eq_false; rintro ⟨_, _⟩; omega))), HU.out⟩
  have n8 : (k == 8) = false := bn y8
  go_wp2
  go_ret
  exact ⟨ret_bool (a := false) (Eq.symm (by simp [Wri.sort, Pars.Node.kind, Pars.Node.text, y8] <;> first | omega | (intros; omega) | (apply decide_eq_false; rintro ⟨_, _⟩; omega))), HU.out⟩
 have h112 : ¬ ci = 112 := by
  intro h
  exact z (by have := HCI.out; apply UInt8.toNat_inj.1; show c.toNat = 112; omega)
 have g112 : (ci == 112) = false := bn h112
 have Z112 := hid z
 clear z
 go_upto_region 4 with fail
 by_cases z : c = 116
 ·subst z
  have hz : ci = 116 := HCI.out.symm.trans (by rfl)
  subst hz
  by_cases y5 : k = 5
  ·subst y5
   go_wp2
   go_ret
   exact ⟨ret_bool (a := true) (Eq.symm (by simp [Wri.sort, Pars.Node.kind, Pars.Node.text] <;> first | omega | (intros; omega) | (apply decide_eq_false; rintro ⟨_, _⟩; omega))), HU.out⟩
  have n5 : (k == 5) = false := bn y5
  by_cases y12 : k = 12
  ·subst y12
   go_wp2
   go_ret
   exact ⟨ret_bool (a := true) (Eq.symm (by simp [Wri.sort, Pars.Node.kind, Pars.Node.text] <;> first | omega | (intros; omega) | (apply decide_eq_false; rintro ⟨_, _⟩; omega))), HU.out⟩
  have n12 : (k == 12) = false := bn y12
  by_cases y13 : k = 13
  ·subst y13
   go_wp2
   go_ret
   exact ⟨ret_bool (a := true) (Eq.symm (by simp [Wri.sort, Pars.Node.kind, Pars.Node.text] <;> first | omega | (intros; omega) | (apply decide_eq_false; rintro ⟨_, _⟩; omega))), HU.out⟩
  have n13 : (k == 13) = false := bn y13
  go_wp2
  go_ret
  exact ⟨ret_bool (a := false) (Eq.symm (by simp [Wri.sort, Pars.Node.kind, Pars.Node.text, y5, y12, y13] <;> first | omega | (intros; omega) | (apply decide_eq_false; rintro ⟨_, _⟩; omega))), HU.out⟩
 have h116 : ¬ ci = 116 := by
  intro h
  exact z (by have := HCI.out; apply UInt8.toNat_inj.1; show c.toNat = 116; omega)
 have g116 : (ci == 116) = false := bn h116
 have Z116 := hid z
 clear z
 go_upto_region 6 with fail
 by_cases z : c = 100
 ·subst z
  have hz : ci = 100 := HCI.out.symm.trans (by rfl)
  subst hz
  by_cases y9 : k = 9
  ·subst y9
   by_cases hT : T = ⟨#[]⟩
   ·have ht0 : t = [] := byt_inj (HT.out.trans (hT.trans rfl))
    subst hT
    go_wp2
    go_ret
    exact ⟨ret_bool (a := false) (Eq.symm (by simp [Wri.sort, Pars.Node.kind, Pars.Node.text, ht0] <;> first | omega | (intros; omega) | (apply decide_eq_false; rintro ⟨_, _⟩; omega))), HU.out⟩
   obtain ⟨q1, q2, q3⟩ := same_no hT
   have q4 := of_decide_eq_false q2
   have q5 : (T.toList == []) = false := by
    have e : (⟨#[]⟩ : ByteArray).toList = [] := by simp [ByteArray.toList_eq]
    rw [e] at q1
    exact q1
   have q6 : T.toList.isEmpty = false := by
    rw [← HT.out, byt_list]
    cases t with
    | nil => exact absurd (HT.out.symm.trans rfl) hT
    | cons a l => rfl
   have ht0 : ¬ t = [] := fun e => hT (HT.out.symm.trans (by rw [e]; rfl))
   go_wp2
   go_ret
   exact ⟨ret_bool (a := true) (Eq.symm (by simp [Wri.sort, Pars.Node.kind, Pars.Node.text, ht0] <;> first | omega | (intros; omega) | (apply decide_eq_false; rintro ⟨_, _⟩; omega))), HU.out⟩
  have n9 : (k == 9) = false := bn y9
  go_wp2
  go_ret
  exact ⟨ret_bool (a := false) (Eq.symm (by simp [Wri.sort, Pars.Node.kind, Pars.Node.text, y9] <;> first | omega | (intros; omega) | (apply decide_eq_false; rintro ⟨_, _⟩; omega))), HU.out⟩
 have h100 : ¬ ci = 100 := by
  intro h
  exact z (by have := HCI.out; apply UInt8.toNat_inj.1; show c.toNat = 100; omega)
 have g100 : (ci == 100) = false := bn h100
 have Z100 := hid z
 clear z
 go_upto_region 8 with fail
 by_cases z : c = 98
 ·subst z
  have hz : ci = 98 := HCI.out.symm.trans (by rfl)
  subst hz
  by_cases y30 : k = 30
  ·subst y30
   go_wp2
   go_ret
   exact ⟨ret_bool (a := true) (Eq.symm (by simp [Wri.sort, Pars.Node.kind, Pars.Node.text] <;> first | omega | (intros; omega) | (apply decide_eq_false; rintro ⟨_, _⟩; omega))), HU.out⟩
  have n30 : (k == 30) = false := bn y30
  go_wp2
  go_ret
  exact ⟨ret_bool (a := false) (Eq.symm (by simp [Wri.sort, Pars.Node.kind, Pars.Node.text, y30] <;> first | omega | (intros; omega) | (apply decide_eq_false; rintro ⟨_, _⟩; omega))), HU.out⟩
 have h98 : ¬ ci = 98 := by
  intro h
  exact z (by have := HCI.out; apply UInt8.toNat_inj.1; show c.toNat = 98; omega)
 have g98 : (ci == 98) = false := bn h98
 have Z98 := hid z
 clear z
 go_upto_region 9 with fail
 by_cases z : c = 108
 ·subst z
  have hz : ci = 108 := HCI.out.symm.trans (by rfl)
  subst hz
  by_cases y30 : k = 30
  ·subst y30
   go_wp2
   go_ret
   exact ⟨ret_bool (a := true) (Eq.symm (by simp [Wri.sort, Pars.Node.kind, Pars.Node.text] <;> first | omega | (intros; omega) | (apply decide_eq_false; rintro ⟨_, _⟩; omega))), HU.out⟩
  have n30 : (k == 30) = false := bn y30
  go_wp2
  go_ret
  exact ⟨ret_bool (a := false) (Eq.symm (by simp [Wri.sort, Pars.Node.kind, Pars.Node.text, y30] <;> first | omega | (intros; omega) | (apply decide_eq_false; rintro ⟨_, _⟩; omega))), HU.out⟩
 have h108 : ¬ ci = 108 := by
  intro h
  exact z (by have := HCI.out; apply UInt8.toNat_inj.1; show c.toNat = 108; omega)
 have g108 : (ci == 108) = false := bn h108
 have Z108 := hid z
 clear z
 go_upto_region 10 with fail
 by_cases z : c = 103
 ·subst z
  have hz : ci = 103 := HCI.out.symm.trans (by rfl)
  subst hz
  by_cases y30 : k = 30
  ·subst y30
   go_wp2
   go_ret
   exact ⟨ret_bool (a := true) (Eq.symm (by simp [Wri.sort, Pars.Node.kind, Pars.Node.text] <;> first | omega | (intros; omega) | (apply decide_eq_false; rintro ⟨_, _⟩; omega))), HU.out⟩
  have n30 : (k == 30) = false := bn y30
  go_wp2
  go_ret
  exact ⟨ret_bool (a := false) (Eq.symm (by simp [Wri.sort, Pars.Node.kind, Pars.Node.text, y30] <;> first | omega | (intros; omega) | (apply decide_eq_false; rintro ⟨_, _⟩; omega))), HU.out⟩
 have h103 : ¬ ci = 103 := by
  intro h
  exact z (by have := HCI.out; apply UInt8.toNat_inj.1; show c.toNat = 103; omega)
 have g103 : (ci == 103) = false := bn h103
 have Z103 := hid z
 clear z
 go_upto_region 12 with fail
 by_cases z : c = 105
 ·subst z
  have hz : ci = 105 := HCI.out.symm.trans (by rfl)
  subst hz
  by_cases y30 : k = 30
  ·subst y30
   go_wp2
   go_ret
   exact ⟨ret_bool (a := true) (Eq.symm (by simp [Wri.sort, Pars.Node.kind, Pars.Node.text] <;> first | omega | (intros; omega) | (apply decide_eq_false; rintro ⟨_, _⟩; omega))), HU.out⟩
  have n30 : (k == 30) = false := bn y30
  by_cases y22 : k = 22
  ·subst y22
   go_wp2
   go_ret
   exact ⟨ret_bool (a := true) (Eq.symm (by simp [Wri.sort, Pars.Node.kind, Pars.Node.text] <;> first | omega | (intros; omega) | (apply decide_eq_false; rintro ⟨_, _⟩; omega))), HU.out⟩
  have n22 : (k == 22) = false := bn y22
  go_wp2
  go_ret
  exact ⟨ret_bool (a := false) (Eq.symm (by simp [Wri.sort, Pars.Node.kind, Pars.Node.text, y30, y22] <;> first | omega | (intros; omega) | (apply decide_eq_false; rintro ⟨_, _⟩; omega))), HU.out⟩
 have h105 : ¬ ci = 105 := by
  intro h
  exact z (by have := HCI.out; apply UInt8.toNat_inj.1; show c.toNat = 105; omega)
 have g105 : (ci == 105) = false := bn h105
 have Z105 := hid z
 clear z
 go_upto_region 14 with fail
 by_cases z : c = 113
 ·subst z
  have hz : ci = 113 := HCI.out.symm.trans (by rfl)
  subst hz
  by_cases y10 : k = 10
  ·subst y10
   go_wp2
   go_ret
   exact ⟨ret_bool (a := true) (Eq.symm (by simp [Wri.sort, Pars.Node.kind, Pars.Node.text] <;> first | omega | (intros; omega) | (apply decide_eq_false; rintro ⟨_, _⟩; omega))), HU.out⟩
  have n10 : (k == 10) = false := bn y10
  go_wp2
  go_ret
  exact ⟨ret_bool (a := false) (Eq.symm (by simp [Wri.sort, Pars.Node.kind, Pars.Node.text, y10] <;> first | omega | (intros; omega) | (apply decide_eq_false; rintro ⟨_, _⟩; omega))), HU.out⟩
 have h113 : ¬ ci = 113 := by
  intro h
  exact z (by have := HCI.out; apply UInt8.toNat_inj.1; show c.toNat = 113; omega)
 have g113 : (ci == 113) = false := bn h113
 have Z113 := hid z
 clear z
 go_upto_region 16 with fail
 by_cases z : c = 115
 ·subst z
  have hz : ci = 115 := HCI.out.symm.trans (by rfl)
  subst hz
  by_cases r1 : 20 ≤ k
  ·have r1d : decide (20 ≤ k) = true := decide_eq_true r1
   by_cases r2 : k ≤ 31
   ·have r2d : decide (k ≤ 31) = true := decide_eq_true r2
    go_wp2
    go_ret
    exact ⟨ret_bool (a := true) (Eq.symm (by simp [Wri.sort, Pars.Node.kind, Pars.Node.text, r1, r2] <;> first | omega | (intros; omega) | (apply decide_eq_false; rintro ⟨_, _⟩; omega))), HU.out⟩
   have r2d : decide (k ≤ 31) = false := decide_eq_false r2
   go_wp2
   go_ret
   exact ⟨ret_bool (a := false) (Eq.symm (by simp [Wri.sort, Pars.Node.kind, Pars.Node.text, r1, r2] <;> first | omega | (intros; omega) | (apply decide_eq_false; rintro ⟨_, _⟩; omega))), HU.out⟩
  have r1d : decide (20 ≤ k) = false := decide_eq_false r1
  go_wp2
  go_ret
  exact ⟨ret_bool (a := false) (Eq.symm (by simp [Wri.sort, Pars.Node.kind, Pars.Node.text, r1] <;> first | omega | (intros; omega) | (apply decide_eq_false; rintro ⟨_, _⟩; omega))), HU.out⟩
 have h115 : ¬ ci = 115 := by
  intro h
  exact z (by have := HCI.out; apply UInt8.toNat_inj.1; show c.toNat = 115; omega)
 have g115 : (ci == 115) = false := bn h115
 have Z115 := hid z
 clear z
 by_cases r1 : 1 ≤ k
 ·have r1d : decide (1 ≤ k) = true := decide_eq_true r1
  by_cases r2 : k ≤ 19
  ·have r2d : decide (k ≤ 19) = true := decide_eq_true r2
   by_cases y8 : k = 8
   ·subst y8
    go_wp2
    go_ret
    exact ⟨ret_bool (a := false) (Eq.symm (by simp [Wri.sort, Pars.Node.kind, Pars.Node.text, Z112.out, Z116.out, Z100.out, Z98.out, Z108.out, Z103.out, Z105.out, Z113.out, Z115.out] <;> first | omega | (intros; omega) | (apply decide_eq_false; rintro ⟨_, _⟩; omega))), HU.out⟩
   have n8 : (k == 8) = false := bn y8
   by_cases y10 : k = 10
   ·subst y10
    go_wp2
    go_ret
    exact ⟨ret_bool (a := false) (Eq.symm (by simp [Wri.sort, Pars.Node.kind, Pars.Node.text, Z112.out, Z116.out, Z100.out, Z98.out, Z108.out, Z103.out, Z105.out, Z113.out, Z115.out] <;> first | omega | (intros; omega) | (apply decide_eq_false; rintro ⟨_, _⟩; omega))), HU.out⟩
   have n10 : (k == 10) = false := bn y10
   by_cases y9 : k = 9
   ·subst y9
    by_cases hT : T = ⟨#[]⟩
    ·have ht0 : t = [] := byt_inj (HT.out.trans (hT.trans rfl))
     subst hT
     go_wp2
     go_ret
     exact ⟨ret_bool (a := true) (Eq.symm (by simp [Wri.sort, Pars.Node.kind, Pars.Node.text, Z112.out, Z116.out, Z100.out, Z98.out, Z108.out, Z103.out, Z105.out, Z113.out, Z115.out, ht0] <;> first | omega | (intros; omega) | (apply decide_eq_false; rintro ⟨_, _⟩; omega))), HU.out⟩
    obtain ⟨q1, q2, q3⟩ := same_no hT
    have q4 := of_decide_eq_false q2
    have q5 : (T.toList == []) = false := by
     have e : (⟨#[]⟩ : ByteArray).toList = [] := by simp [ByteArray.toList_eq]
     rw [e] at q1
     exact q1
    have q6 : T.toList.isEmpty = false := by
     rw [← HT.out, byt_list]
     cases t with
     | nil => exact absurd (HT.out.symm.trans rfl) hT
     | cons a l => rfl
    have ht0 : ¬ t = [] := fun e => hT (HT.out.symm.trans (by rw [e]; rfl))
    go_wp2
    go_ret
    exact ⟨ret_bool (a := false) (Eq.symm (by simp [Wri.sort, Pars.Node.kind, Pars.Node.text, Z112.out, Z116.out, Z100.out, Z98.out, Z108.out, Z103.out, Z105.out, Z113.out, Z115.out, ht0] <;> first | omega | (intros; omega) | (apply decide_eq_false; rintro ⟨_, _⟩; omega))), HU.out⟩
   have n9 : (k == 9) = false := bn y9
   have m8 : (k != 8) = true := by simp [bne, n8]
   have m10 : (k != 10) = true := by simp [bne, n10]
   have m9 : (k != 9) = true := by simp [bne, n9]
   go_wp2
   go_ret
   exact ⟨ret_bool (a := true) (Eq.symm (by simp [Wri.sort, Pars.Node.kind, Pars.Node.text, Z112.out, Z116.out, Z100.out, Z98.out, Z108.out, Z103.out, Z105.out, Z113.out, Z115.out, r1, r2, y8, y10, y9] <;> first | omega | (intros; omega) | (apply decide_eq_false; rintro ⟨_, _⟩; omega))), HU.out⟩
  have r2d : decide (k ≤ 19) = false := decide_eq_false r2
  go_wp2
  go_ret
  exact ⟨ret_bool (a := false) (Eq.symm (by simp [Wri.sort, Pars.Node.kind, Pars.Node.text, Z112.out, Z116.out, Z100.out, Z98.out, Z108.out, Z103.out, Z105.out, Z113.out, Z115.out, r1, r2] <;> first | omega | (intros; omega) | (apply decide_eq_false; rintro ⟨_, _⟩; omega))), HU.out⟩
 have r1d : decide (1 ≤ k) = false := decide_eq_false r1
 go_wp2
 go_ret
 exact ⟨ret_bool (a := false) (Eq.symm (by simp [Wri.sort, Pars.Node.kind, Pars.Node.text, Z112.out, Z116.out, Z100.out, Z98.out, Z108.out, Z103.out, Z105.out, Z113.out, Z115.out, r1] <;> first | omega | (intros; omega) | (apply decide_eq_false; rintro ⟨_, _⟩; omega))), HU.out⟩
end Go.Proofs.YtonjdlialejedaaGreatDoor
namespace Go.Proofs.YtonjdlialejedaaGreatDoor
open Go.Lib (hid)
open Go.RowKit
theorem NodeAt.lit {w : World} {S : Nat → Prop} : ∀ {n : Pars.Node} {cs : Array Value}, NodeAt w S n cs → ∃ v, cs = #[.int .i64 n.kind, .int .i64 n.num, .string (byt n.text), v] ∧ v.oneCell' = true
 | .mk k n t l, cs, h => by unfold NodeAt at h; obtain ⟨A, cap, css, rfl, _⟩ := h; exact ⟨_, rfl, rfl⟩
theorem nz_one (a b : Int) (s : ByteArray) (A : Option Addr) (n c : Nat) : (#[.int .i64 a, .int .i64 b, .string s, .slice A n c] : Array Value).all (·.oneCell') = true := by simp [Value.oneCell']
theorem NodeAt.build {w : World} {S : Nat → Prop} {l : List Pars.Node} {css : List (Array Value)} {g : Nat} {cells : Array Value} (k n : Int) (t : List UInt8) (hb : Box w g 24 cells) (hs : S g) (hk : NodesAt w S l css) (hc : cells.toList = flatA css := by rfl) (hl : l.length ≤ 1000 := by simp) : NodeAt w S (.mk k n t l) (nc k n t (.slice (some ⟨g, 0, none⟩) l.length l.length)) := by
 unfold NodeAt
 refine ⟨_, _, css, rfl, Nat.le_refl _, by omega, fun _ => ⟨g, 0, rfl, hs, hb.lt, fun i u hu => ?_⟩, hk⟩
 rw [Nat.zero_add, hb.cell, ← hu, ← hc]
 simp
set_option maxRecDepth 100000 in
set_option maxHeartbeats 4000000 in
theorem cond_step {n : Nat} (h : All n) : ∀ {w : World} {b : Nat} {ts : List KT} {A : Option Addr} {c k : Nat} {fn lp : Bool}, PSt w b ts A c k fn lp → 20 * (ts.length - k) + 11 < n + 1 → Calls Tryz.prog 79 #[.pointer (some ⟨b, 0, none⟩)] w (Got w b ts A c k fn lp (Pars.run (n + 1) .cond fn lp (left ts k))) := by
 intro w b ts A c k fn lp hP hm
 have HR : Hid (Pars.run (n + 1) .cond fn lp (left ts k) = _) := hid (by rw [Pars.run])
 have hbl := hP.box.lt
 have hle := hP.kle
 go_enter Tryz.func79, Tryz.ntmps79
 go_upto_region 1 with fail
 refine gen_world (F := fun W => Box W w.heap.size 24 #[.int .i64 0, .int .i64 0, .string ⟨#[]⟩, .slice none 0 0] ∧ Below w.heap.size w W) ⟨Box.new w _ _, below1 w _⟩ ?_
 rintro W0 ⟨r0, hU⟩
 have RB := hid r0
 have HP := hid (hP.below hU)
 have HU : Hid (Upd w W0 b) := hid (Upd.below hU b)
 have HZ : Hid (w.heap.size < W0.heap.size) := hid r0.lt
 have hz0 := r0.lt
 have HZW : Hid (W0.heap.size ≤ W0.heap.size) := hid (Nat.le_refl _)
 clear r0 hU hP
 go_wp2_with fail
 refine (h.bin 0 (by omega) HP.out (by omega)).mono ?_
 rintro e w1 (⟨x1, k1, cs1, hr, hk1, hk2, rfl, hn, hx, hu⟩ | ⟨hr, rfl, hu⟩)
 rotate_left
 ·exact ⟨rfl, .inr ⟨HR.out.trans (Pars.and_no hr), rfl, HU.out.trans hu⟩⟩
 have hlt1 := got_lt hr rfl
 replace HR := hid (HR.out.trans (Pars.and_some hr))
 have HN1 : Hid (NodeAt _ (fun g => W0.heap.size ≤ g) x1 cs1) := hid (hn.weak (fun g hg => by have := HZW.out; omega))
 have hcs1 : (Tryz.prog.info? 24).map (·.size) = some cs1.size := by rw [NodeAt.size hn]; exact info_nod
 have h41 : (4 : Nat) = cs1.size := (NodeAt.size hn).symm
 have hone1 := NodeAt.one hn
 have HCS1 := hid hcs1
 have H41 := hid h41
 have HONE1 := hid hone1
 replace RB := bg RB hu
 replace HP := hid (HP.out.upd hx hu (by omega))
 replace HU := hid (HU.out.trans hu)
 replace HZW := hid (Nat.le_trans HZW.out hu.size)
 clear hr hn hx hu hcs1 h41 hone1
 have hle1 := HP.out.kle
 obtain ⟨v1, hlit, hvo⟩ := NodeAt.lit HN1.out
 rw [hlit] at HN1 HCS1 H41 HONE1 ⊢
 have HVO1 := hid hvo
 clear hlit hvo
 go_upto_region 2 with (refine wpList_store_box rfl 24 (.tmp 3) (.tmp 6) rfl w1.heap.size #[.int .i64 x1.kind, .int .i64 x1.num, .string (byt x1.text), v1] rfl rfl 24 _ (Box.new w1 _ _) HCS1.out H41.out HONE1.out ?_; intro w2 hx hv hz; have HZ1 := hid hz; clear hz)
 have hb : Below w1.heap.size w1 w2 := ((Below.refl _ w1).alloc (Nat.le_refl _) _).trans (hv.own (Nat.le_refl _) (by simp))
 have EB1 := hid hx
 have hzE1 := Nat.lt_of_lt_of_le HZ.out HZW.out
 replace RB := bl RB hb
 replace HN1 := hid (HN1.out.below hb)
 replace HP := hid (HP.out.below hb)
 replace HU := hid (HU.out.step hb)
 replace HZW := hid (Nat.le_trans HZW.out hb.size)
 clear hx hv hb
 go_wp2_with fail
 refine (is_any [63] _ b ts A c k1 fn lp HP.out).mono ?_
 rintro e w3 (⟨hi, hk, rfl, hx, hu⟩ | ⟨hi, rfl, hx, hu⟩)
 rotate_left
 ·replace HR := hid (HR.out.trans (Pars.alt_no hi))
  replace RB := bg RB hu
  replace EB1 := bg EB1 hu
  replace HN1 := hid (HN1.out.upd hu (fun g hg => by first | omega | (simp only at hg; omega)))
  replace HP := hid (HP.out.upd hx hu (by omega))
  replace HU := hid (HU.out.trans hu)
  replace HZW := hid (Nat.le_trans HZW.out hu.size)
  clear hi hx hu
  have eb1 := EB1.out
  go_wp2_with (first | (refine wpList_load_row rfl 24 (.tmp 3) rfl w1.heap.size rfl _ #[.int .i64 x1.kind, .int .i64 x1.num, .string (byt x1.text), v1] (0, 0) _ eb1 Tryz.underlying24 rfl HCS1.out ?_) | (refine wpList_store_box rfl 24 (.tmp 2) (.tmp 10) rfl w.heap.size #[.int .i64 x1.kind, .int .i64 x1.num, .string (byt x1.text), v1] rfl rfl 24 _ RB.out HCS1.out H41.out HONE1.out ?_; intro wz hxz huz hzz; have HZZ := hid hzz; clear hzz))
  refine bodyPost_ret (results_box rfl _ _ w.heap.size 24 _ _ rfl hxz Tryz.underlying24 rfl HCS1.out) rfl ?_
  exact .inl ⟨x1, k1, #[.int .i64 x1.kind, .int .i64 x1.num, .string (byt x1.text), v1], HR.out, by omega, HP.out.kle, rfl, (HN1.out.upd huz (fun g hg => by first | omega | (simp only at hg; omega))).weak (fun g hg => by first | omega | (simp only at hg; omega)), Box.grown HP.out.box huz (by intro h; injection h with h; omega), Upd.fresh HU.out huz (Nat.le_refl _)⟩
 replace HR := hid (HR.out.trans (Pars.alt_some hi))
 replace RB := bg RB hu
 replace EB1 := bg EB1 hu
 replace HN1 := hid (HN1.out.upd hu (fun g hg => by first | omega | (simp only at hg; omega)))
 replace HP := hid (HP.out.upd hx hu (by omega))
 replace HU := hid (HU.out.trans hu)
 replace HZW := hid (Nat.le_trans HZW.out hu.size)
 clear hi hx hu
 go_wp2_with fail
 refine (h.expr HP.out (by omega)).mono ?_
 rintro e w4 (⟨x2, k2, cs2, hr, hk1, hk2, rfl, hn, hx, hu⟩ | ⟨hr, rfl, hu⟩)
 rotate_left
 ·exact ⟨rfl, .inr ⟨HR.out.trans (Pars.and_no hr), rfl, HU.out.trans hu⟩⟩
 have hlt2 := got_lt hr rfl
 replace HR := hid (HR.out.trans (Pars.and_some hr))
 have HN2 : Hid (NodeAt _ (fun g => W0.heap.size ≤ g) x2 cs2) := hid (hn.weak (fun g hg => by have := HZW.out; omega))
 have hcs2 : (Tryz.prog.info? 24).map (·.size) = some cs2.size := by rw [NodeAt.size hn]; exact info_nod
 have h42 : (4 : Nat) = cs2.size := (NodeAt.size hn).symm
 have hone2 := NodeAt.one hn
 have HCS2 := hid hcs2
 have H42 := hid h42
 have HONE2 := hid hone2
 replace RB := bg RB hu
 replace EB1 := bg EB1 hu
 replace HN1 := hid (HN1.out.upd hu (fun g hg => by first | omega | (simp only at hg; omega)))
 replace HP := hid (HP.out.upd hx hu (by omega))
 replace HU := hid (HU.out.trans hu)
 replace HZW := hid (Nat.le_trans HZW.out hu.size)
 clear hr hn hx hu hcs2 h42 hone2
 have hle2 := HP.out.kle
 obtain ⟨v2, hlit, hvo⟩ := NodeAt.lit HN2.out
 rw [hlit] at HN2 HCS2 H42 HONE2 ⊢
 have HVO2 := hid hvo
 clear hlit hvo
 go_upto_region 5 with (refine wpList_store_box rfl 24 (.tmp 4) (.tmp 12) rfl w4.heap.size #[.int .i64 x2.kind, .int .i64 x2.num, .string (byt x2.text), v2] rfl rfl 24 _ (Box.new w4 _ _) HCS2.out H42.out HONE2.out ?_; intro w5 hx hv hz; have HZ2 := hid hz; clear hz)
 have hb : Below w4.heap.size w4 w5 := ((Below.refl _ w4).alloc (Nat.le_refl _) _).trans (hv.own (Nat.le_refl _) (by simp))
 have EB2 := hid hx
 have hzE2 := Nat.lt_of_lt_of_le HZ.out HZW.out
 replace RB := bl RB hb
 replace EB1 := bl EB1 hb
 replace HN1 := hid (HN1.out.below hb)
 replace HN2 := hid (HN2.out.below hb)
 replace HP := hid (HP.out.below hb)
 replace HU := hid (HU.out.step hb)
 replace HZW := hid (Nat.le_trans HZW.out hb.size)
 clear hx hv hb
 go_wp2_with fail
 refine (must_any [58] _ b ts A c (k2) fn lp HP.out).mono ?_
 rintro e w6 (⟨hi, hk, rfl, hx, hu⟩ | ⟨hi, rfl, hu⟩)
 rotate_left
 ·exact ⟨rfl, .inr ⟨HR.out.trans (Pars.must_no hi), rfl, HU.out.trans hu⟩⟩
 replace HR := hid (HR.out.trans (Pars.must_some hi))
 replace RB := bg RB hu
 replace EB1 := bg EB1 hu
 replace EB2 := bg EB2 hu
 replace HN1 := hid (HN1.out.upd hu (fun g hg => by first | omega | (simp only at hg; omega)))
 replace HN2 := hid (HN2.out.upd hu (fun g hg => by first | omega | (simp only at hg; omega)))
 replace HP := hid (HP.out.upd hx hu (by omega))
 replace HU := hid (HU.out.trans hu)
 replace HZW := hid (Nat.le_trans HZW.out hu.size)
 clear hi hx hu
 go_upto_region 6 with fail
 refine wp_region_held_drew (S := fun w' => Box w' (w1.heap.size) 24 #[.int .i64 x1.kind, .int .i64 x1.num, .string (byt x1.text), v1] ∧ Box w' (w4.heap.size) 24 #[.int .i64 x2.kind, .int .i64 x2.num, .string (byt x2.text), v2] ∧ True) (by kernel_rfl) ⟨Box.drew EB1.out, Box.drew EB2.out, trivial⟩ (fun hHeld => ?_)
 obtain ⟨wd, hwd⟩ : ∃ wd, w6.drew = wd := ⟨_, rfl⟩
 have hb : Below w6.heap.size w6 wd := hwd ▸ (Below.refl _ w6).drew
 rw [hwd] at hHeld
 (try rw [hwd])
 clear hwd
 replace RB := bl RB hb
 replace EB1 := bl EB1 hb
 replace EB2 := bl EB2 hb
 replace HN1 := hid (HN1.out.below hb)
 replace HN2 := hid (HN2.out.below hb)
 replace HP := hid (HP.out.below hb)
 replace HU := hid (HU.out.step hb)
 replace HZW := hid (Nat.le_trans HZW.out hb.size)
 clear hb
 refine wpAnyH_take (i := 0) (v := _) rfl (by kernel_rfl) (by kernel_rfl) (by kernel_rfl) (fun _ _ _ h => h) (yields_load_box (by kernel_rfl) 24 (.tmp 3) rfl (w1.heap.size) 24 (#[.int .i64 x1.kind, .int .i64 x1.num, .string (byt x1.text), v1]) _ rfl (fun _ h => h.1) Tryz.underlying24 rfl HCS1.out) (by assumption) ?_
 (try simp only [Act.put, sq])
 refine wpAnyH_take (i := 1) (v := _) rfl (by kernel_rfl) (by kernel_rfl) (by kernel_rfl) (fun _ _ _ h => h) (yields_load_box (by kernel_rfl) 24 (.tmp 4) rfl (w4.heap.size) 24 (#[.int .i64 x2.kind, .int .i64 x2.num, .string (byt x2.text), v2]) _ rfl (fun _ h => h.2.1) Tryz.underlying24 rfl HCS2.out) (by assumption) ?_
 (try simp only [Act.put, sq])
 refine tH (i := 2) (v := ?_) rfl ?_ (by assumption) ?_
 rotate_left
 ·intro w hSw
  (try dsimp only at hSw)
  go_simp
  try (with_reducible rfl)
 (try simp only [Act.put, sq])
 refine rdH 3 rfl fun K hK => ?_
 go_simp
 refine (h.expr HP.out (by omega)).mono ?_
 rintro e wc (⟨x3, k3, cs3, hr, hk1, hk2, rfl, hn, hx, hu⟩ | ⟨hr, rfl, hu⟩)
 rotate_left
 ·exact ⟨rfl, .inr ⟨HR.out.trans (Pars.and_no hr), rfl, HU.out.trans hu⟩⟩
 have hlt3 := got_lt hr rfl
 replace HR := hid (HR.out.trans (Pars.and_some hr))
 have HN3 : Hid (NodeAt _ (fun g => W0.heap.size ≤ g) x3 cs3) := hid (hn.weak (fun g hg => by have := HZW.out; omega))
 have hcs3 : (Tryz.prog.info? 24).map (·.size) = some cs3.size := by rw [NodeAt.size hn]; exact info_nod
 have h43 : (4 : Nat) = cs3.size := (NodeAt.size hn).symm
 have hone3 := NodeAt.one hn
 have HCS3 := hid hcs3
 have H43 := hid h43
 have HONE3 := hid hone3
 replace RB := bg RB hu
 replace EB1 := bg EB1 hu
 replace EB2 := bg EB2 hu
 replace HN1 := hid (HN1.out.upd hu (fun g hg => by first | omega | (simp only at hg; omega)))
 replace HN2 := hid (HN2.out.upd hu (fun g hg => by first | omega | (simp only at hg; omega)))
 replace HP := hid (HP.out.upd hx hu (by omega))
 replace HU := hid (HU.out.trans hu)
 replace HZW := hid (Nat.le_trans HZW.out hu.size)
 clear hr hn hx hu hcs3 h43 hone3
 obtain ⟨v3, hlit, hvo⟩ := NodeAt.lit HN3.out
 rw [hlit] at HN3 HCS3 H43 HONE3 ⊢
 have HVO3 := hid hvo
 clear hlit hvo
 go_wp2_with fail
 refine hK.out _ _ ⟨EB1.out, EB2.out, trivial⟩ (fun hHeld => ?_)
 clear hK K
 (try simp only [Act.put, sq])
 refine rdH 4 rfl fun K hK => ?_
 go_simp
 have bxB := Box.new wc 24 #[.int .i64 x1.kind, .int .i64 x1.num, .string (byt x1.text), v1, .int .i64 x2.kind, .int .i64 x2.num, .string (byt x2.text), v2, .int .i64 x3.kind, .int .i64 x3.num, .string (byt x3.text), v3]
 have hb : Below wc.heap.size wc (wc.alloc (.cells #[.int .i64 x1.kind, .int .i64 x1.num, .string (byt x1.text), v1, .int .i64 x2.kind, .int .i64 x2.num, .string (byt x2.text), v2, .int .i64 x3.kind, .int .i64 x3.num, .string (byt x3.text), v3] 24)) := below1 wc _
 obtain ⟨wb, hwb⟩ : ∃ wb, (wc.alloc (.cells #[.int .i64 x1.kind, .int .i64 x1.num, .string (byt x1.text), v1, .int .i64 x2.kind, .int .i64 x2.num, .string (byt x2.text), v2, .int .i64 x3.kind, .int .i64 x3.num, .string (byt x3.text), v3] 24)) = wb := ⟨_, rfl⟩
 rw [hwb] at bxB hb
 rw [hwb]
 clear hwb
 have hgB : W0.heap.size ≤ wc.heap.size := HZW.out
 replace RB := bl RB hb
 replace EB1 := bl EB1 hb
 replace EB2 := bl EB2 hb
 replace HN1 := hid (HN1.out.below hb)
 replace HN2 := hid (HN2.out.below hb)
 replace HN3 := hid (HN3.out.below hb)
 replace HP := hid (HP.out.below hb)
 replace HU := hid (HU.out.step hb)
 replace HZW := hid (Nat.le_trans HZW.out hb.size)
 have BXB := hid bxB
 refine hK.out _ _ ⟨EB1.out, EB2.out, trivial⟩ (fun hHeld => ?_)
 clear hK K hb bxB
 (try simp only [Act.put, sq])
 refine tH (i := 5) (v := ?_) rfl ?_ (by assumption) ?_
 rotate_left
 ·intro w hSw
  (try dsimp only at hSw)
  go_simp
  try (with_reducible rfl)
 (try simp only [Act.put, sq])
 refine rdH 6 rfl fun K hK => ?_
 refine step_store_box rfl 24 (.tmp 2) (.tmp 20) rfl (w.heap.size) #[.int .i64 18, .int .i64 0, .string ⟨#[]⟩, .slice (some ⟨wc.heap.size, 0, none⟩) 3 3] rfl rfl 24 _ RB.out info_nod rfl (nz_one _ _ _ _ _ _) ?_
 intro wz hxz huz hzz
 have HZZ := hid hzz
 refine hK.out _ _ ⟨Box.grown EB1.out huz (by intro h; injection h with h; omega), Box.grown EB2.out huz (by intro h; injection h with h; omega), trivial⟩ (fun hHeld => ?_)
 clear hK K
 (try simp only [Act.put, sq])
 refine wpAnyH_done (by kernel_rfl) ?_ _
 go_wp2
 refine bodyPost_ret (results_box rfl _ _ w.heap.size 24 _ _ rfl hxz Tryz.underlying24 rfl info_nod) rfl ?_
 have hnb : NodeAt wb (fun g => W0.heap.size ≤ g) (.mk 18 0 [] [x1, x2, x3]) #[.int .i64 18, .int .i64 0, .string ⟨#[]⟩, .slice (some ⟨wc.heap.size, 0, none⟩) 3 3] := NodeAt.build (css := [#[.int .i64 x1.kind, .int .i64 x1.num, .string (byt x1.text), v1], #[.int .i64 x2.kind, .int .i64 x2.num, .string (byt x2.text), v2], #[.int .i64 x3.kind, .int .i64 x3.num, .string (byt x3.text), v3]]) 18 0 [] BXB.out hgB ⟨HN1.out, HN2.out, HN3.out, trivial⟩
 exact .inl ⟨_, _, _, HR.out, by omega, HP.out.kle, rfl, (hnb.upd huz (fun g hg => by (try simp only at hg); omega)).weak (fun g hg => by (try simp only at hg); omega), Box.grown HP.out.box huz (by intro h; injection h with h; omega), Upd.fresh HU.out huz (Nat.le_refl _)⟩
end Go.Proofs.YtonjdlialejedaaGreatDoor
