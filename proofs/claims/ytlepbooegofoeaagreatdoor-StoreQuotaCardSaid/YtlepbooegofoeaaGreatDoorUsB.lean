/-
  An address checked, and written. Conditions: the library's variables hold what they hold; the address is a good one; the parts are short; the path lies in memory.
-/
import Derived.Test.YtlepbooegofoeaaGreatDoorUsA
import Derived.Test.YtlepbooegofoeaaGreatDoorGrd
import Derived.Test.YtlepbooegofoeaaGreatDoorUrM
namespace Go.Proofs.YtlepbooegofoeaaGreatDoor
set_option linter.unusedSimpArgs false
set_option linter.unusedVariables false
open Go.RowKit

theorem parse_no0 {s : List UInt8} {n : Nat} (h : Urly.parse s = .error n) : n ≠ 0 := by
  unfold Urly.parse at h
  split at h
  · injection h with h; omega
  · split at h
    · injection h with h; omega
    · split at h
      · injection h with h; omega
      · split at h
        · injection h with h; omega
        · simp only at h
          split at h
          · cases h
          · injection h with h; omega
theorem check_two {u : Urly.U} (h : 500 < (Urly.text u).length) : Urly.check u = 2 := by unfold Urly.check; rw [if_pos h]
theorem check_zero {u : Urly.U} (hg : Urly.Good u) (h : ¬ 500 < (Urly.text u).length) : Urly.check u = 0 := by unfold Urly.check; rw [if_neg h, Urly.parse_text hg (by omega)]; simp
def NumOut (n : Nat) (w : World) (e : Ending) (w' : World) : Prop := e = .returned (.int .i64 (n : Int)) ∧ Below w.heap.size w w'
theorem numOut_mk {n : Nat} {m : Int} {w w' : World} {e : Ending} (h : (n : Int) = m) (he : e = .returned (.int .i64 m)) (hb : Below w.heap.size w w') : NumOut n w e w' := by subst h; exact ⟨he, hb⟩
/-- the cells of an address, each. -/
theorem cells8 {w : World} {b : Nat} {u : Urly.U} {v : Value} (h : Box w b 47 (ucells u v)) : w.cell? ⟨b, 0, none⟩ = some (.string (byt u.scheme)) ∧ w.cell? ⟨b, 1, none⟩ = some (.string (byt u.host)) ∧ w.cell? ⟨b, 2, none⟩ = some (.int .i64 (u.port : Int)) ∧ w.cell? ⟨b, 3, none⟩ = some v ∧ w.cell? ⟨b, 4, none⟩ = some (.string (byt u.query)) ∧ w.cell? ⟨b, 5, none⟩ = some (.bool u.asks) ∧ w.cell? ⟨b, 6, none⟩ = some (.string (byt u.fragment)) ∧ w.cell? ⟨b, 7, none⟩ = some (.bool u.points) := ⟨h.cell 0, h.cell 1, h.cell 2, h.cell 3, h.cell 4, h.cell 5, h.cell 6, h.cell 7⟩
set_option maxRecDepth 100000 in
set_option maxHeartbeats 8000000 in
theorem ucheck_any (u : Urly.U) (v : Value) (w : World) (hg : Urly.Good u) (hu : Urly.Sz u) (he : Env w) (hv : Rd w 1 (txts u.path) u.path.length v) :
    Calls Tryz.prog 29 #[.agg (ucells u v)] w (NumOut (Urly.check u) w) := by
  have HT : Hid (∀ w1, Below w.heap.size w w1 → Calls Tryz.prog 47 #[.agg (ucells u v)] w1 (TextOut (Urly.text u) w1)) := Lib.hid (fun w1 h1 => text_any u v w1 hu (he.below h1) (hv.below h1))
  have HV := Lib.hid hv
  have HGD := Lib.hid hg
  have hz := byt_size (Urly.text u)
  have HPA : Hid (¬ 500 < (Urly.text u).length → ∀ w1, Below w.heap.size w w1 → Calls Tryz.prog 24 #[.string (byt (Urly.text u))] w1 (ParseOut (Urly.text u) w1)) := Lib.hid (fun _ w1 h1 => parse_any _ w1 (he.below h1))
  obtain ⟨S, hS⟩ : ∃ S, byt (Urly.text u) = S := ⟨_, rfl⟩
  have HB := Lib.hid (Box.new w 47 (ucells u v))
  have HW0 : Hid (Below w.heap.size w (w.alloc (.cells (ucells u v) 47))) := Lib.hid (below1 w _)
  unfold TextOut at HT
  rw [hS] at hz HPA HT
  have HIS : Hid (∀ v, (Tryz.prog.info? 47).map (·.size) = some (ucells u v).size) := Lib.hid (fun _ => info_url)
  obtain ⟨cs, hcs⟩ : ∃ cs, ucells u v = cs := ⟨_, rfl⟩
  have HCS := Lib.hid hcs
  have hisz : (Tryz.prog.info? 47).map (·.size) = some cs.size := by rw [← hcs]; exact info_url
  rw [hcs] at HB HW0 HT ⊢
  have HZ := Lib.hid hz
  clear hS hcs he hu hv hg
  by_cases hl : 500 < (Urly.text u).length
  · have HC := Lib.hid (check_two hl)
    have d1 : decide ((S.size : Int) > 500) = true := decide_eq_true (by omega)
    have d2 : (500 : Int) < (S.size : Int) := by omega
    clear hz hl HPA
    go_enter Tryz.func29, Tryz.ntmps29
    go_wp2_with (refine wpList_load_row rfl 47 (.tmp 1) rfl w.heap.size rfl _ cs (0, 0) _ HB.out Tryz.underlying47 rfl hisz ?_)
    refine (HT.out _ HW0.out).mono ?_
    rintro e w1 ⟨rfl, hw1⟩
    have HW1 := Lib.hid (HW0.out.trans (hw1.mono HW0.out.size))
    clear hw1
    go_wp2
    go_ret
    exact numOut_mk (by rw [HC.out]; rfl) rfl HW1.out
  · have HC := Lib.hid (check_zero HGD.out hl)
    have HPT := Lib.hid (Urly.parse_text HGD.out (by omega))
    have HPP := Lib.hid (HPA.out hl)
    have d1 : decide ((S.size : Int) > 500) = false := decide_eq_false (by omega)
    have d2 : ¬ (500 : Int) < (S.size : Int) := by omega
    clear hz hl HPA
    go_enter Tryz.func29, Tryz.ntmps29
    go_wp2_with (refine wpList_load_row rfl 47 (.tmp 1) rfl w.heap.size rfl _ cs (0, 0) _ HB.out Tryz.underlying47 rfl hisz ?_)
    refine (HT.out _ HW0.out).mono ?_
    rintro e w1 ⟨rfl, hw1⟩
    have HB1 : Hid (Box w1 w.heap.size 47 cs) := Lib.hid (HB.out.below hw1 (by simp))
    have HW1 := Lib.hid (HW0.out.trans (hw1.mono HW0.out.size))
    clear hw1 HB
    go_wp2_with (fail)
    refine (HPP.out _ HW1.out).mono ?_
    rintro e w2 (⟨u', v2, hp, rfl, hown, hlen, hw2⟩ | ⟨n, hp, _⟩)
    rotate_left
    · rw [HPT.out] at hp; cases hp
    rw [HPT.out] at hp
    injection hp with hp
    subst hp
    have HB2 : Hid (Box w2 w.heap.size 47 cs) := Lib.hid (HB1.out.below hw2 HB1.out.lt)
    have HW2 := Lib.hid (HW1.out.trans (hw2.mono HW1.out.size))
    obtain ⟨A2, cap2, rfl⟩ := own_slice hown
    have HO2 := Lib.hid hown
    clear hw2 hown HB1 HW1 HPP HPT
    have hi2 := HIS.out (.slice A2 u.path.length cap2)
    have h12 := ucells_one u A2 u.path.length cap2
    obtain ⟨c2, hc2⟩ : ∃ c, ucells u (.slice A2 u.path.length cap2) = c := ⟨_, rfl⟩
    rw [hc2] at hi2 h12 ⊢
    have HC2 := Lib.hid hc2
    clear hc2
    have HNE : Hid (w.heap.size ≠ w2.heap.size) := Lib.hid (by have := HB2.out.lt; omega)
    go_wp2_with (first | (refine wpList_store_box rfl 47 (.tmp 4) (.tmp 14) rfl w2.heap.size c2 rfl rfl 47 _ (Box.new w2 _ _) hi2 (by rw [← HC2.out]; rfl) h12 ?_; intro w3 hx3 hu3 hz3; have hb3 := box_upd (HB2.out.alloc _) hu3 HNE.out) | (refine wpList_load_row_g (by kernel_rfl) 47 (.tmp 1) rfl w.heap.size rfl _ cs _ hb3 Tryz.underlying47 rfl hisz ?_) | (refine wpList_load_row_g (by kernel_rfl) 47 (.tmp 4) rfl w2.heap.size rfl _ c2 _ hx3 Tryz.underlying47 rfl hi2 ?_))
    have hb23 : Below w2.heap.size w2 w3 := (below1 w2 _).trans (hu3.own (Nat.le_refl _) (by simp))
    have HSM : Hid (Calls Tryz.prog 61 #[.agg cs, .agg c2] w3 fun e w' => e = .returned (.bool true) ∧ Below w3.heap.size w3 w') := Lib.hid (by
      rw [← HCS.out, ← HC2.out]
      exact same_any u HGD.out.pth v _ w3 (HV.out.below (HW2.out.trans (hb23.mono HW2.out.size))) ((Rd.own HO2.out).below hb23))
    have HW3 : Hid (Below w.heap.size w w3) := Lib.hid (HW2.out.trans (hb23.mono HW2.out.size))
    clear hb23 hu3 hb3 hx3 hz3
    refine HSM.out.mono ?_
    rintro e w4 ⟨rfl, hw4⟩
    have HW4 := Lib.hid (HW3.out.trans (hw4.mono HW3.out.size))
    clear hw4
    go_wp2
    go_ret
    exact numOut_mk (by rw [HC.out]; rfl) rfl HW4.out
/-! ### write -/
def WriteOut (r : Except Nat (List UInt8)) (w : World) (e : Ending) (w' : World) : Prop :=
  e = .returned (.tuple (match r with
    | .ok s => #[.string (byt s), .int .i64 0]
    | .error n => #[.string (byt []), .int .i64 (n : Int)])) ∧ Below w.heap.size w w'
theorem writeOut_ok {r : Except Nat (List UInt8)} {s : List UInt8} {S : ByteArray} {w w' : World} {e : Ending} (h : r = .ok s) (hS : byt s = S) (he : e = .returned (.tuple #[.string S, .int .i64 0])) (hb : Below w.heap.size w w') : WriteOut r w e w' := by subst h; subst hS; exact ⟨he, hb⟩
theorem writeOut_no {r : Except Nat (List UInt8)} {n : Nat} {m : Int} {w w' : World} {e : Ending} (h : r = .error n) (hm : (n : Int) = m) (he : e = .returned (.tuple #[.string (byt []), .int .i64 m])) (hb : Below w.heap.size w w') : WriteOut r w e w' := by subst h; subst hm; exact ⟨he, hb⟩
set_option maxRecDepth 100000 in
set_option maxHeartbeats 8000000 in
theorem uwrite_any (u : Urly.U) (v : Value) (w : World) (hg : Urly.Good u) (hu : Urly.Sz u) (he : Env w) (hv : Rd w 1 (txts u.path) u.path.length v) :
    Calls Tryz.prog 28 #[.agg (ucells u v)] w (WriteOut (Urly.write u) w) := by
  have HT : Hid (∀ w1, Below w.heap.size w w1 → Calls Tryz.prog 47 #[.agg (ucells u v)] w1 (TextOut (Urly.text u) w1)) := Lib.hid (fun w1 h1 => text_any u v w1 hu (he.below h1) (hv.below h1))
  have HC : Hid (∀ w1, Below w.heap.size w w1 → Calls Tryz.prog 29 #[.agg (ucells u v)] w1 (NumOut (Urly.check u) w1)) := Lib.hid (fun w1 h1 => ucheck_any u v w1 hg hu (he.below h1) (hv.below h1))
  obtain ⟨S, hS⟩ : ∃ S, byt (Urly.text u) = S := ⟨_, rfl⟩
  have HB := Lib.hid (Box.new w 47 (ucells u v))
  have HW0 : Hid (Below w.heap.size w (w.alloc (.cells (ucells u v) 47))) := Lib.hid (below1 w _)
  unfold TextOut at HT
  unfold NumOut at HC
  rw [hS] at HT
  have HS := Lib.hid hS
  obtain ⟨cs, hcs⟩ : ∃ cs, ucells u v = cs := ⟨_, rfl⟩
  have hisz : (Tryz.prog.info? 47).map (·.size) = some cs.size := by rw [← hcs]; exact info_url
  rw [hcs] at HB HW0 HT HC ⊢
  clear hS hcs he hu hv hg
  by_cases hl : Urly.check u = 0
  · have HWR : Hid (Urly.write u = .ok (Urly.text u)) := Lib.hid (by unfold Urly.write; rw [if_neg (by simpa using hl)])
    rw [hl] at HC
    clear hl
    go_enter Tryz.func28, Tryz.ntmps28
    go_wp2_with (refine wpList_load_row rfl 47 (.tmp 1) rfl w.heap.size rfl _ cs (0, 0) _ HB.out Tryz.underlying47 rfl hisz ?_)
    refine (HC.out _ HW0.out).mono ?_
    rintro e w1 ⟨rfl, hw1⟩
    have HB1 : Hid (Box w1 w.heap.size 47 cs) := Lib.hid (HB.out.below hw1 (by simp))
    have HW1 := Lib.hid (HW0.out.trans (hw1.mono HW0.out.size))
    clear hw1 HB
    go_wp2_with (refine wpList_load_row rfl 47 (.tmp 1) rfl w.heap.size rfl _ cs (0, 0) _ HB1.out Tryz.underlying47 rfl hisz ?_)
    refine (HT.out _ HW1.out).mono ?_
    rintro e w2 ⟨rfl, hw2⟩
    have HW2 := Lib.hid (HW1.out.trans (hw2.mono HW1.out.size))
    clear hw2
    go_wp2
    go_returns
    exact writeOut_ok HWR.out HS.out rfl HW2.out
  · have HWR : Hid (Urly.write u = .error (Urly.check u)) := Lib.hid (by unfold Urly.write; rw [if_pos hl])
    obtain ⟨m, hm⟩ : ∃ m : Int, (Urly.check u : Int) = m := ⟨_, rfl⟩
    have hm0 : (m != 0) = true := by rw [bne, beq_no (by omega)]; rfl
    rw [hm] at HC
    have HM := Lib.hid hm
    clear hl hm
    go_enter Tryz.func28, Tryz.ntmps28
    go_wp2_with (refine wpList_load_row rfl 47 (.tmp 1) rfl w.heap.size rfl _ cs (0, 0) _ HB.out Tryz.underlying47 rfl hisz ?_)
    refine (HC.out _ HW0.out).mono ?_
    rintro e w1 ⟨rfl, hw1⟩
    have HW1 := Lib.hid (HW0.out.trans (hw1.mono HW0.out.size))
    clear hw1 HB
    go_wp2
    go_returns
    exact writeOut_no HWR.out HM.out rfl HW1.out
/-! ### origin of a text -/
set_option maxRecDepth 100000 in
set_option maxHeartbeats 8000000 in
theorem uorigin_any (s : List UInt8) (w : World) (he : Env w) :
    Calls Tryz.prog 19 #[.string (byt s)] w (WriteOut (Urly.originOf s) w) := by
  have HP : Hid (Calls Tryz.prog 24 #[.string (byt s)] w (ParseOut s w)) := Lib.hid (parse_any s w he)
  have HO : Hid (∀ (u : Urly.U) (v : Value) (w1 : World), Urly.Sz u → Below w.heap.size w w1 → Calls Tryz.prog 49 #[.agg (ucells u v)] w1 (TextOut (Urly.origin u) w1)) := Lib.hid (fun u v w1 hu h1 => origin_any u v w1 hu (he.below h1))
  obtain ⟨S, hS⟩ : ∃ S, byt s = S := ⟨_, rfl⟩
  rw [hS] at HP ⊢
  clear hS he
  go_enter Tryz.func19, Tryz.ntmps19
  go_wp2_with (fail)
  refine HP.out.mono ?_
  rintro e w1 (⟨u, v, hp, rfl, hown, hlen, hw1⟩ | ⟨n, hp, rfl, hw1⟩)
  · have HOR : Hid (Urly.originOf s = .ok (Urly.origin u)) := Lib.hid (Urly.origin_ok hp)
    have HSZ := Lib.hid (Urly.parse_size hp).1
    have HW1 := Lib.hid hw1
    obtain ⟨A, cap, rfl⟩ := own_slice hown
    have h12 := ucells_one u A u.path.length cap
    have hisz : (Tryz.prog.info? 47).map (·.size) = some (ucells u (.slice A u.path.length cap)).size := info_url
    have HOO := Lib.hid (HO.out u (.slice A u.path.length cap))
    have hcsz : (8 : Nat) = (ucells u (.slice A u.path.length cap)).size := rfl
    obtain ⟨cs, hcs⟩ : ∃ cs, ucells u (.slice A u.path.length cap) = cs := ⟨_, rfl⟩
    rw [hcs] at h12 hisz HOO hcsz ⊢
    have HCZ := Lib.hid hcsz
    clear hcsz hcs hp hw1 hown hlen HO HP
    go_wp2_with (first | (refine wpList_store_box rfl 47 (.tmp 4) (.tmp 9) rfl w1.heap.size cs rfl rfl 47 _ (Box.new w1 _ _) hisz (by rw [← HCZ.out]; rfl) h12 ?_; intro w3 hx3 hu3 hz3) | (refine wpList_load_row rfl 47 (.tmp 4) rfl w1.heap.size rfl _ cs (0, 0) _ hx3 Tryz.underlying47 rfl hisz ?_))
    have hb13 : Below w1.heap.size w1 w3 := (below1 w1 _).trans (hu3.own (Nat.le_refl _) (by simp))
    have HW3 : Hid (Below w.heap.size w w3) := Lib.hid (HW1.out.trans (hb13.mono HW1.out.size))
    clear hb13 hu3 hx3 hz3
    refine (HOO.out _ HSZ.out HW3.out).mono ?_
    rintro e w4 ⟨rfl, hw4⟩
    have HW4 := Lib.hid (HW3.out.trans (hw4.mono HW3.out.size))
    clear hw4
    go_wp2
    go_returns
    exact writeOut_ok HOR.out rfl rfl HW4.out
  · have HOR : Hid (Urly.originOf s = .error n) := Lib.hid (Urly.origin_fail hp)
    have HW1 := Lib.hid hw1
    have hn0 : n ≠ 0 := parse_no0 hp
    obtain ⟨m, hm⟩ : ∃ m : Int, (n : Int) = m := ⟨_, rfl⟩
    have hm0 : (m != 0) = true := by rw [bne, beq_no (by omega)]; rfl
    have HM := Lib.hid hm
    rw [hm]
    clear hm hn0 hp hw1 HO HP
    go_wp2_with (refine wpList_store_box rfl 47 (.tmp 4) (.tmp 9) rfl w1.heap.size uzero rfl rfl 47 _ (Box.new w1 _ _) info_url rfl uzero_one ?_; intro w3 hx3 hu3 hz3)
    have hb13 : Below w1.heap.size w1 w3 := (below1 w1 _).trans (hu3.own (Nat.le_refl _) (by simp))
    have HW3 : Hid (Below w.heap.size w w3) := Lib.hid (HW1.out.trans (hb13.mono HW1.out.size))
    go_returns
    exact writeOut_no HOR.out HM.out rfl HW3.out
end Go.Proofs.YtlepbooegofoeaaGreatDoor
