/-
  ValueSame's walk, where the two are the same. Conditions: the library's table lies where it lies; a text has fewer than 2^47 bytes.
-/
import Derived.Test.YtollnadeaffomaaDoorVaSame
namespace Go.Proofs.YtollnadeaffomaaDoor
open Go.RowKit

set_option maxRecDepth 100000 in
set_option maxHeartbeats 4000000 in
theorem same_walk_true (a b : Valu.V) (hsame : Valu.same a b = true) (w : World) (he : Env w) (h4 : 4 ≤ w.heap.size) (ha : a.s.length ≤ 140737488355328) (hb : b.s.length ≤ 140737488355328) :
    Calls Tryd.prog 6 #[vag a, vag b] w fun e w' => e = .returned (.bool true) ∧ Below w.heap.size w w' := by
  have HL := Lib.hid lives_true
  have hcat : (⟨#[]⟩ : ByteArray) ++ (⟨#[]⟩ : ByteArray) = ⟨#[]⟩ := rfl
  obtain ⟨t, ht⟩ : ∃ t, Valu.truthy a = t := ⟨_, rfl⟩
  obtain ⟨s, hs, hs2⟩ : ∃ s, Valu.same a b = s ∧ s = true := ⟨_, rfl, hsame⟩
  have HU1 := Lib.hid (not_is a ha t ht)
  have HU2 := Lib.hid (fun w => not_not t w)
  have HTa := Lib.hid (truth_is a ha t ht)
  have HTn := Lib.hid (truth_is (Valu.truth (!t)) (by cases t <;> decide) (!t) (Valu.truthy_truth _))
  have HTm := Lib.hid (truth_is (Valu.truth t) (by cases t <;> decide) t (Valu.truthy_truth _))
  have HSaa := Lib.hid (same_is a a ha ha true (Valu.same_self a))
  have HSab := Lib.hid (same_is a b ha hb s hs)
  have HSba := Lib.hid (same_is b a hb ha s (by rw [Valu.same_comm]; exact hs))
  have HXa := Lib.hid (text_is a ha _ rfl)
  have HKa := Lib.hid (kind_is a ha _ rfl)
  have HX : SameTo b s (Valu.text a) (Valu.kind a) t := by
    intro h; rw [h] at hs; obtain ⟨h1, h2, h3⟩ := Valu.same_all hs; exact ⟨h1.symm, h2.symm, h3.symm.trans ht⟩
  clear ht hs
  generalize hx : Valu.text a = X at *
  generalize hk : Valu.kind a = K at *
  clear hx hk
  go_enter Tryd.func6, Tryd.ntmps6
  go_wp2_with (fail)
  have a0 : VBox ((w.alloc (.cells (vcells a) 23)).alloc (.cells (vcells b) 23)) w.heap.size a := (Box.new w _ (vcells a)).alloc _
  have b0 : VBox ((w.alloc (.cells (vcells a) 23)).alloc (.cells (vcells b) 23)) (w.heap.size + 1) b := new2 w _ _ _
  have hb0 : Below w.heap.size w ((w.alloc (.cells (vcells a) 23)).alloc (.cells (vcells b) 23)) := (below1 w _).alloc (by simp) _
  generalize ((w.alloc (.cells (vcells a) 23)).alloc (.cells (vcells b) 23)) = W0 at *
  refine (HU1.out _).mono ?_
  rintro e w1 ⟨rfl, hb1⟩
  have a1 := Box.below a0 hb1 a0.lt
  have b1 := Box.below b0 hb1 b0.lt
  have hb01 : Below w.heap.size w w1 := hb0.trans (hb1.mono hb0.size)
  have hz1 := hb01.size
  clear a0 b0 hb0 hb1
  go_upto_region 2 with (fail)
  have a2 := Box.alloc a1 (.cells (vcells (Valu.truth (!t))) 23)
  have b2 := Box.alloc b1 (.cells (vcells (Valu.truth (!t))) 23)
  have c2 : VBox (w1.alloc (.cells (vcells (Valu.truth (!t))) 23)) w1.heap.size (Valu.truth (!t)) := Box.new w1 _ _
  have hb02 : Below w.heap.size w (w1.alloc (.cells (vcells (Valu.truth (!t))) 23)) := hb01.alloc hz1 _
  clear a1 b1 hb01 hz1
  generalize (w1.alloc (.cells (vcells (Valu.truth (!t))) 23)) = W2 at *
  generalize w1.heap.size = n2 at *
  obtain ⟨x0, x1, x2⟩ := box3 c2
  go_wp2_with (fail)
  refine (HU2.out _).mono ?_
  rintro e w3 ⟨rfl, hb3⟩
  clear x0 x1 x2
  have a3 := Box.below a2 hb3 a2.lt
  have b3 := Box.below b2 hb3 b2.lt
  have c3 := Box.below c2 hb3 c2.lt
  have hb03 : Below w.heap.size w w3 := hb02.trans (hb3.mono hb02.size)
  have hz3 := hb03.size
  clear a2 b2 c2 hb02 hb3
  go_upto_region 3 with (fail)
  have a4 := Box.alloc a3 (.cells (vcells (Valu.truth t)) 23)
  have b4 := Box.alloc b3 (.cells (vcells (Valu.truth t)) 23)
  have c4 := Box.alloc c3 (.cells (vcells (Valu.truth t)) 23)
  have d4 : VBox (w3.alloc (.cells (vcells (Valu.truth t)) 23)) w3.heap.size (Valu.truth t) := Box.new w3 _ _
  have hb04 : Below w.heap.size w (w3.alloc (.cells (vcells (Valu.truth t)) 23)) := hb03.alloc hz3 _
  clear a3 b3 c3 hb03 hz3
  generalize (w3.alloc (.cells (vcells (Valu.truth t)) 23)) = W at *
  generalize w3.heap.size = n4 at *
  generalize (Valu.truth t) = d at *
  generalize (Valu.truth (!t)) = c at *
  obtain rfl : s = true := hs2
  cases t
  all_goals
    go_region_held3 (fun w' => Env w' ∧ 4 ≤ w'.heap.size ∧ Below W.heap.size W w' ∧ w'.cell? ⟨w.heap.size, 0, none⟩ = some (.int .i64 a.k) ∧ w'.cell? ⟨w.heap.size, 1, none⟩ = some (.int .i64 a.n) ∧ w'.cell? ⟨w.heap.size, 2, none⟩ = some (.string (byt a.s)) ∧ w'.cell? ⟨w.heap.size + 1, 0, none⟩ = some (.int .i64 b.k) ∧ w'.cell? ⟨w.heap.size + 1, 1, none⟩ = some (.int .i64 b.n) ∧ w'.cell? ⟨w.heap.size + 1, 2, none⟩ = some (.string (byt b.s)) ∧ w'.cell? ⟨n2, 0, none⟩ = some (.int .i64 c.k) ∧ w'.cell? ⟨n2, 1, none⟩ = some (.int .i64 c.n) ∧ w'.cell? ⟨n2, 2, none⟩ = some (.string (byt c.s)) ∧ w'.cell? ⟨n4, 0, none⟩ = some (.int .i64 d.k) ∧ w'.cell? ⟨n4, 1, none⟩ = some (.int .i64 d.n) ∧ w'.cell? ⟨n4, 2, none⟩ = some (.string (byt d.s)))
      (first | exact held4 he h4 hb04 a4 b4 c4 d4 (Below.refl _ W) (drew0 W) | (go_split_ands; exact held4 he h4 hb04 a4 b4 c4 d4 (by assumption) hb1))
      (first | (go_at_call 8; first | ((with_reducible refine (HL.out _ ?_ ?_).mono ?_); (go_split_ands; assumption); (go_split_ands; assumption); rintro e w1 ⟨rfl, hb1⟩)) | (go_at_call 11; first | ((with_reducible refine (HTm.out _).mono ?_); rintro e w1 ⟨rfl, hb1⟩) | ((with_reducible refine (HTa.out _).mono ?_); rintro e w1 ⟨rfl, hb1⟩) | ((with_reducible refine (HTn.out _).mono ?_); rintro e w1 ⟨rfl, hb1⟩)) | (go_at_call 13; first | ((with_reducible refine (HSaa.out _).mono ?_); rintro e w1 ⟨rfl, hb1⟩) | ((with_reducible refine (HSab.out _).mono ?_); rintro e w1 ⟨rfl, hb1⟩) | ((with_reducible refine (HSba.out _).mono ?_); rintro e w1 ⟨rfl, hb1⟩)))
    rename_i hH
    have a5 := Box.below a4 hH.2.2.1 a4.lt
    have b5 := Box.below b4 hH.2.2.1 b4.lt
    have hb05 := hb04.trans (hH.2.2.1.mono hb04.size)
    clear hH
    generalize w1 = V at *
    go_upto_region 5 with (fail)
    have hX := HX rfl
    have HXb := Lib.hid (text_is b hb X hX.1)
    have HKb := Lib.hid (kind_is b hb K hX.2.1)
    have HTb := Lib.hid (truth_is b hb _ hX.2.2)
    clear hX
    go_region_held3 (fun w' => Env w' ∧ 4 ≤ w'.heap.size ∧ Below V.heap.size V w' ∧ w'.cell? ⟨w.heap.size, 0, none⟩ = some (.int .i64 a.k) ∧ w'.cell? ⟨w.heap.size, 1, none⟩ = some (.int .i64 a.n) ∧ w'.cell? ⟨w.heap.size, 2, none⟩ = some (.string (byt a.s)) ∧ w'.cell? ⟨w.heap.size + 1, 0, none⟩ = some (.int .i64 b.k) ∧ w'.cell? ⟨w.heap.size + 1, 1, none⟩ = some (.int .i64 b.n) ∧ w'.cell? ⟨w.heap.size + 1, 2, none⟩ = some (.string (byt b.s)))
      (first | exact held2 he h4 hb05 a5 b5 (Below.refl _ V) (drew0 V) | (go_split_ands; exact held2 he h4 hb05 a5 b5 (by assumption) hb1))
      (first | (go_at_call 11; first | ((with_reducible refine (HTa.out _).mono ?_); rintro e w1 ⟨rfl, hb1⟩) | ((with_reducible refine (HTb.out _).mono ?_); rintro e w1 ⟨rfl, hb1⟩)) | (go_at_call 13; first | ((with_reducible refine (HSab.out _).mono ?_); rintro e w1 ⟨rfl, hb1⟩)) | (go_at_call 14; first | ((with_reducible refine (HXa.out _ ?_ ?_).mono ?_); (go_split_ands; assumption); (go_split_ands; assumption); rintro e w1 ⟨rfl, hb1⟩) | ((with_reducible refine (HXb.out _ ?_ ?_).mono ?_); (go_split_ands; assumption); (go_split_ands; assumption); rintro e w1 ⟨rfl, hb1⟩)) | (go_at_call 15; first | ((with_reducible refine (HKa.out _).mono ?_); rintro e w1 ⟨rfl, hb1⟩) | ((with_reducible refine (HKb.out _).mono ?_); rintro e w1 ⟨rfl, hb1⟩)))
    rename_i hH
    go_wp2
    go_ret
    exact ⟨rfl, hb05.trans (hH.2.2.1.mono hb05.size)⟩
end Go.Proofs.YtollnadeaffomaaDoor
