/-
  A node by itself is right, or not. Conditions: its rows read as lists.
-/
import Derived.Test.YtdommcjlpibpeaaDoorEvC
namespace Go.Proofs.YtdommcjlpibpeaaDoor
set_option linter.unusedSimpArgs false
set_option linter.unusedVariables false
open Go.RowKit

set_option maxRecDepth 100000 in
set_option maxHeartbeats 2000000 in
theorem one_any (x : NodeV) (w : World) (hx : NRd w x) :
    Calls Tryd.prog 32 #[.agg (nc x)] w fun e w' => e = .returned (.int .i64 (Domy.one x.n : Int)) ∧ Below w.heap.size w w' := by
  have HX := Lib.hid hx
  have hb0 := bare_any x
  have HA : Hid (∀ w', Below w.heap.size w w' → Calls Tryd.prog 39 #[x.as] w' fun e w'' => e = .returned (.int .i64 (Domy.attrsE x.n.attrs : Int)) ∧ Below w'.heap.size w' w'') := fun w' h => attrs_any _ _ w' (hx.below h).a
  obtain ⟨b1, hb1⟩ : ∃ b, Domy.bare x.n = b := ⟨_, rfl⟩
  obtain ⟨b2, hb2⟩ : ∃ b, Domy.isName x.n.name = b := ⟨_, rfl⟩
  obtain ⟨E, hE⟩ : ∃ E, Domy.attrsE x.n.attrs = E := ⟨_, rfl⟩
  have HB : Hid (∀ w, Calls Tryd.prog 37 #[.agg (nc x)] w fun e w' => e = .returned (.bool b1) ∧ Below w.heap.size w w') := fun w => by have := hb0 w; rw [hb1] at this; exact this
  have HN : Hid (∀ w, Calls Tryd.prog 38 #[.string (byt x.n.name)] w fun e w' => e = .returned (.bool b2) ∧ Below w.heap.size w w') := fun w => by have := name_any x.n.name w; rw [hb2] at this; exact this
  rw [hE] at HA
  have hone : Hid (Domy.one x.n = if x.n.kind < 1 ∨ 5 < x.n.kind ∨ b1 = false then 7 else if x.n.kind = 2 ∧ b2 = false then 3 else if E ≠ 0 then E else if 400 < x.n.text.length ∨ 400 < x.n.name.length then 2 else 0) := by
    show _ = _
    unfold Domy.one
    rw [hb1, hb2, hE]
  clear hb0 hb1 hb2 hE hx
  obtain ⟨⟨kind, name, attrs, text, parent, kids⟩, A, ca, K, ck⟩ := x
  have hn4 : ((byt name).size : Int) = (name.length : Int) := by rw [byt_size]
  have ht4 : ((byt text).size : Int) = (text.length : Int) := by rw [byt_size]
  have HN4 := Lib.hid hn4
  have HT4 := Lib.hid ht4
  clear hn4 ht4
  simp only at hone
  go_enter Tryd.func32, Tryd.ntmps32
  go_upto_region 1 with (fail)
  have b0 := Box.new w 32 (nc ⟨⟨kind, name, attrs, text, parent, kids⟩, A, ca, K, ck⟩)
  have hU : Below w.heap.size w (w.alloc (.cells (nc ⟨⟨kind, name, attrs, text, parent, kids⟩, A, ca, K, ck⟩) 32)) := below1 w _
  generalize (w.alloc (.cells (nc ⟨⟨kind, name, attrs, text, parent, kids⟩, A, ca, K, ck⟩) 32)) = W at *
  by_cases q1 : kind < 1
  · have d1 : decide (kind < 1) = true := decide_eq_true q1
    have u0 := b0.cell 0
    have u1 := b0.cell 1
    have u2 := b0.cell 2
    have u3 := b0.cell 3
    have u4 := b0.cell 4
    have u5 := b0.cell 5
    simp at u0 u1 u2 u3 u4 u5
    go_wp2
    go_ret
    exact ⟨ret_int (by rw [hone.out]; rw [if_pos (.inl q1)]; rfl), hU⟩
  · have d1 : decide (kind < 1) = false := decide_eq_false q1
    by_cases q2 : kind > 5
    · have d2 : decide (kind > 5) = true := decide_eq_true q2
      have u0 := b0.cell 0
      have u1 := b0.cell 1
      have u2 := b0.cell 2
      have u3 := b0.cell 3
      have u4 := b0.cell 4
      have u5 := b0.cell 5
      simp at u0 u1 u2 u3 u4 u5
      go_wp2
      go_ret
      exact ⟨ret_int (by rw [hone.out]; rw [if_pos (.inr (.inl q2))]; rfl), hU⟩
    · have d2 : decide (kind > 5) = false := decide_eq_false q2
      have u0 := b0.cell 0
      have u1 := b0.cell 1
      have u2 := b0.cell 2
      have u3 := b0.cell 3
      have u4 := b0.cell 4
      have u5 := b0.cell 5
      simp at u0 u1 u2 u3 u4 u5
      go_wp2_with (fail)
      refine (HB.out _).mono ?_
      rintro e w1 ⟨rfl, hb1⟩
      have B1 := Lib.hid (hU.trans (hb1.mono hU.size))
      have x1 := b0.below hb1 b0.lt
      clear hb1 u0 u1 u2 u3 u4 u5 b0 hU
      have u0 := x1.cell 0
      have u1 := x1.cell 1
      have u2 := x1.cell 2
      have u3 := x1.cell 3
      have u4 := x1.cell 4
      have u5 := x1.cell 5
      simp at u0 u1 u2 u3 u4 u5
      cases b1 with
      | false =>
        go_wp2
        go_ret
        exact ⟨ret_int (by rw [hone.out]; rw [if_pos (.inr (.inr (by simp)))]; rfl), B1.out⟩
      | true =>
        have H0 : Hid (¬ (kind < 1 ∨ 5 < kind ∨ true = false)) := by rintro (h | h | h) <;> first | omega | cases h
        by_cases q6 : kind = 2
        · have g6 : (kind == 2) = true := by simp [q6]
          have Q6 := Lib.hid q6
          clear q6 q1 q2
          go_wp2_with (fail)
          refine (HN.out _).mono ?_
          rintro e w2 ⟨rfl, hb2⟩
          have B2 := Lib.hid (B1.out.trans (hb2.mono B1.out.size))
          have x2 := x1.below hb2 x1.lt
          clear hb2 u0 u1 u2 u3 u4 u5 x1
          have u0 := x2.cell 0
          have u1 := x2.cell 1
          have u2 := x2.cell 2
          have u3 := x2.cell 3
          have u4 := x2.cell 4
          have u5 := x2.cell 5
          simp at u0 u1 u2 u3 u4 u5
          cases b2 with
          | false =>
            go_wp2
            go_ret
            exact ⟨ret_int (by rw [hone.out]; rw [if_neg H0.out, if_pos ⟨Q6.out, by simp⟩]; rfl), B2.out⟩
          | true =>
            go_wp2_with (fail)
            refine (HA.out _ B2.out).mono ?_
            rintro e w3 ⟨rfl, hb3⟩
            have B3 := Lib.hid (B2.out.trans (hb3.mono B2.out.size))
            have x3 := x2.below hb3 x2.lt
            clear hb3 u0 u1 u2 u3 u4 u5
            have u0 := x3.cell 0
            have u1 := x3.cell 1
            have u2 := x3.cell 2
            have u3 := x3.cell 3
            have u4 := x3.cell 4
            have u5 := x3.cell 5
            simp at u0 u1 u2 u3 u4 u5
            by_cases q3 : E = 0
            · have g3 : ((E : Int) == 0) = true := by simp [q3]
              have g3' : ((E : Int) != 0) = false := by simp [q3]
              have Q3 := Lib.hid q3
              clear q3
              by_cases q4 : (text.length : Int) > 400
              · have d4 : decide (((byt text).size : Int) > 400) = true := decide_eq_true (by rw [HT4.out]; exact q4)
                have Q4 := Lib.hid q4
                clear q4
                go_wp2
                go_ret
                exact ⟨ret_int (by rw [hone.out]; rw [if_neg H0.out, if_neg (by simp)]; rw [if_neg (by simp [Q3.out])]; rw [if_pos (by have := Q4.out; omega)]; rfl), B3.out⟩
              · have d4 : decide (((byt text).size : Int) > 400) = false := decide_eq_false (by rw [HT4.out]; exact q4)
                have Q4 := Lib.hid q4
                clear q4
                by_cases q5 : (name.length : Int) > 400
                · have d5 : decide (((byt name).size : Int) > 400) = true := decide_eq_true (by rw [HN4.out]; exact q5)
                  have Q5 := Lib.hid q5
                  clear q5
                  go_wp2
                  go_ret
                  exact ⟨ret_int (by rw [hone.out]; rw [if_neg H0.out, if_neg (by simp)]; rw [if_neg (by simp [Q3.out])]; rw [if_pos (by have := Q5.out; omega)]; rfl), B3.out⟩
                · have d5 : decide (((byt name).size : Int) > 400) = false := decide_eq_false (by rw [HN4.out]; exact q5)
                  have Q5 := Lib.hid q5
                  clear q5
                  go_wp2
                  go_ret
                  exact ⟨ret_int (by rw [hone.out]; rw [if_neg H0.out, if_neg (by simp)]; rw [if_neg (by simp [Q3.out])]; rw [if_neg (by have := Q4.out; have := Q5.out; omega)]; rfl), B3.out⟩
            · have g3 : ((E : Int) == 0) = false := by rw [beq_eq_false_iff_ne]; omega
              have g3' : ((E : Int) != 0) = true := by simp; omega
              have Q3 := Lib.hid q3
              clear q3
              go_wp2
              go_ret
              exact ⟨ret_int (by rw [hone.out]; rw [if_neg H0.out, if_neg (by simp)]; rw [if_pos Q3.out]), B3.out⟩
        · have g6 : (kind == 2) = false := by simp [q6]
          have Q6 := Lib.hid q6
          clear q6 q1 q2
          go_wp2_with (fail)
          refine (HA.out _ B1.out).mono ?_
          rintro e w3 ⟨rfl, hb3⟩
          have B3 := Lib.hid (B1.out.trans (hb3.mono B1.out.size))
          have x3 := x1.below hb3 x1.lt
          clear hb3 u0 u1 u2 u3 u4 u5
          have u0 := x3.cell 0
          have u1 := x3.cell 1
          have u2 := x3.cell 2
          have u3 := x3.cell 3
          have u4 := x3.cell 4
          have u5 := x3.cell 5
          simp at u0 u1 u2 u3 u4 u5
          by_cases q3 : E = 0
          · have g3 : ((E : Int) == 0) = true := by simp [q3]
            have g3' : ((E : Int) != 0) = false := by simp [q3]
            have Q3 := Lib.hid q3
            clear q3
            by_cases q4 : (text.length : Int) > 400
            · have d4 : decide (((byt text).size : Int) > 400) = true := decide_eq_true (by rw [HT4.out]; exact q4)
              have Q4 := Lib.hid q4
              clear q4
              go_wp2
              go_ret
              exact ⟨ret_int (by rw [hone.out]; rw [if_neg H0.out, if_neg (fun h => Q6.out h.1)]; rw [if_neg (by simp [Q3.out])]; rw [if_pos (by have := Q4.out; omega)]; rfl), B3.out⟩
            · have d4 : decide (((byt text).size : Int) > 400) = false := decide_eq_false (by rw [HT4.out]; exact q4)
              have Q4 := Lib.hid q4
              clear q4
              by_cases q5 : (name.length : Int) > 400
              · have d5 : decide (((byt name).size : Int) > 400) = true := decide_eq_true (by rw [HN4.out]; exact q5)
                have Q5 := Lib.hid q5
                clear q5
                go_wp2
                go_ret
                exact ⟨ret_int (by rw [hone.out]; rw [if_neg H0.out, if_neg (fun h => Q6.out h.1)]; rw [if_neg (by simp [Q3.out])]; rw [if_pos (by have := Q5.out; omega)]; rfl), B3.out⟩
              · have d5 : decide (((byt name).size : Int) > 400) = false := decide_eq_false (by rw [HN4.out]; exact q5)
                have Q5 := Lib.hid q5
                clear q5
                go_wp2
                go_ret
                exact ⟨ret_int (by rw [hone.out]; rw [if_neg H0.out, if_neg (fun h => Q6.out h.1)]; rw [if_neg (by simp [Q3.out])]; rw [if_neg (by have := Q4.out; have := Q5.out; omega)]; rfl), B3.out⟩
          · have g3 : ((E : Int) == 0) = false := by rw [beq_eq_false_iff_ne]; omega
            have g3' : ((E : Int) != 0) = true := by simp; omega
            have Q3 := Lib.hid q3
            clear q3
            go_wp2
            go_ret
            exact ⟨ret_int (by rw [hone.out]; rw [if_neg H0.out, if_neg (fun h => Q6.out h.1)]; rw [if_pos Q3.out]), B3.out⟩
end Go.Proofs.YtdommcjlpibpeaaDoor
