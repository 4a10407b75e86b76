/-
  Whether none of some errors is one; the chapter's word that tells that addresses live. Conditions: the errors lie in a block that is known whole; the library's variables hold what they hold.
-/
import Derived.Test.YtlepbooegofoeaaGreatDoorUsE
import Derived.Test.YtlepbooegofoeaaGreatDoorUsT
namespace Go.Proofs.YtlepbooegofoeaaGreatDoor
set_option linter.unusedSimpArgs false
set_option linter.unusedVariables false
open Go.RowKit

theorem all_hit {α : Type} {p : α → Bool} {l : List α} {k : Nat} {x : α} (h : l[k]? = some x) (hp : p x = false) : l.all p = false := by
  rw [List.all_eq_false]
  exact ⟨x, List.mem_of_getElem? h, by rw [hp]; simp⟩
theorem all_yes {α : Type} {p : α → Bool} {l : List α} (h : ∀ (j : Nat) (y : α), l[j]? = some y → p y = true) : l.all p = true := by
  rw [List.all_eq_true]
  intro x hx
  obtain ⟨j, hj⟩ := List.getElem?_of_mem hx
  exact h j x hj
def errs (l : List Int) : Array Value := (l.map (Value.int .i64)).toArray
set_option maxHeartbeats 2000000 in
theorem ok_any (l : List Int) (b : Nat) (w : World) (hb : Box w b 23 (errs l)) (hl : l.length ≤ 100) :
    Calls Tryz.prog 21 #[.slice (some ⟨b, 0, none⟩) l.length l.length] w fun e w' => e = .returned (.bool (l.all fun n => decide (n = 0))) ∧ w' = w := by
  have HB := Lib.hid hb
  obtain ⟨n, hn⟩ : ∃ n, l.length = n := ⟨_, rfl⟩
  have HN := Lib.hid hn
  rw [hn] at hl ⊢
  clear hb hn
  go_enter Tryz.func21, Tryz.ntmps21
  go_upto_region 2 with (fail)
  go_loopg [4, 7] n (fun gg _ s7 wr => ∃ j : Nat, j ≤ n ∧ n - j ≤ gg ∧ s7 = .int .i64 (j : Int) ∧ wr = w ∧ Hid (∀ (i : Nat) (x : Int), i < j → l[i]? = some x → x = 0))
  case atStart => exact ⟨0, Nat.zero_le _, by omega, rfl, rfl, fun i x hi => absurd hi (Nat.not_lt_zero _)⟩
  case round =>
    obtain ⟨j, hj, hgg, rfl, rfl, AA⟩ := hrel
    by_cases hlt : j < n
    · have hlt2 : decide ((j : Int) < (n : Int)) = true := decide_eq_true (by omega)
      have hltz : (j : Int) < (n : Int) := by omega
      obtain ⟨x, hx⟩ : ∃ x, l[j]? = some x := ⟨_, List.getElem?_eq_getElem (by rw [HN.out]; exact hlt)⟩
      have cx : wr.cell? ⟨b, j, none⟩ = some (.int .i64 x) := by
        rw [HB.out.cell j]
        simp [errs, hx]
      have HX := Lib.hid hx
      clear hx
      by_cases y : x = 0
      · subst y
        go_wp2
        go_roundg (n - (j + 1))
        case measure => omega
        case rel =>
          refine ⟨j + 1, by omega, by omega, by go_num, rfl, (show Hid _ from fun i x hi hx => ?_)⟩
          by_cases e : i = j
          · subst e
            have := HX.out
            rw [hx] at this
            injection this
          · exact AA.out i x (by omega) hx
      · have e1 : (x != 0) = true := by simp [y]
        have Y := Lib.hid y
        clear y
        go_wp2
        go_ret
        exact ⟨ret_bool (all_hit HX.out (decide_eq_false Y.out)).symm, rfl⟩
    · have hlt2 : decide ((j : Int) < (n : Int)) = false := decide_eq_false (by omega)
      go_wp2
      go_ret
      exact ⟨ret_bool (all_yes (fun i x hi => decide_eq_true (AA.out i x (by have := (List.getElem?_eq_some_iff.1 hi).1; have := HN.out; omega) hi))).symm, rfl⟩
def TruthOut (w : World) (e : Ending) (w' : World) : Prop := e = .returned (.bool true) ∧ Below w.heap.size w w'
set_option maxRecDepth 100000 in
set_option maxHeartbeats 4000000 in
theorem urlLives_true (w : World) (he : Env w) : Calls Tryz.prog 13 #[] w (TruthOut w) := by
  have HR : Hid (Calls Tryz.prog 15 #[.string ⟨#[104, 116, 116, 112, 58, 47, 47, 65, 46, 98, 58, 56, 48, 47, 120, 47, 121, 63, 113, 35, 102]⟩, .string ⟨#[46, 46, 47, 122]⟩] w (fun e w' => e = .returned (.tuple #[.string ⟨#[104, 116, 116, 112, 58, 47, 47, 97, 46, 98, 47, 122]⟩, .int .i64 0]) ∧ Below w.heap.size w w')) := Lib.hid (by
    have := resolve_any [104, 116, 116, 112, 58, 47, 47, 65, 46, 98, 58, 56, 48, 47, 120, 47, 121, 63, 113, 35, 102] [46, 46, 47, 122] w he
    unfold WriteOut at this
    rw [Urly.lives_res] at this
    exact this)
  have HP : Hid (∀ w1, Below w.heap.size w w1 → Calls Tryz.prog 24 #[.string ⟨#[104, 116, 116, 112, 115, 58, 47, 47, 104, 47, 97, 37, 50, 102, 98]⟩] w1 (ParseOut [104, 116, 116, 112, 115, 58, 47, 47, 104, 47, 97, 37, 50, 102, 98] w1)) := Lib.hid (fun w1 h1 => parse_any _ w1 (he.below h1))
  have HEN : Hid (∀ w, Calls Tryz.prog 11 #[.string ⟨#[97, 32, 98]⟩] w (fun e w' => e = .returned (.string ⟨#[97, 37, 50, 48, 98]⟩) ∧ Below w.heap.size w w')) := Lib.hid (fun w => by
    have := encode_any [97, 32, 98] w (by simp)
    rw [Urly.lives_enc] at this
    exact this)
  have HOK : Hid (∀ (w1 : World), Calls Tryz.prog 21 #[.slice (some ⟨w1.heap.size, 0, none⟩) 2 2] (w1.alloc (.cells #[.int .i64 0, .int .i64 0] 23)) fun e w' => e = .returned (.bool true) ∧ Below w1.heap.size w1 w') := Lib.hid (fun w1 => (ok_any [0, 0] w1.heap.size _ (Box.new w1 _ _) (by simp)).mono fun e w' ⟨h1, h2⟩ => ⟨h1, by rw [h2]; exact below1 w1 _⟩)
  clear he
  go_enter Tryz.func13, Tryz.ntmps13
  go_wp2_with (fail)
  refine HR.out.mono ?_
  rintro e w1 ⟨rfl, hw1⟩
  have HW1 := Lib.hid hw1
  clear hw1 HR
  go_wp2_with (fail)
  refine (HP.out _ HW1.out).mono ?_
  rintro e w2 (⟨u, v, hp, rfl, hown, hlen, hw2⟩ | ⟨n, hp, rfl, hw2⟩)
  rotate_left
  · rw [Urly.lives_par] at hp; cases hp
  rw [Urly.lives_par] at hp
  injection hp with hp
  subst hp
  obtain ⟨A, cap, rfl⟩ := own_slice hown
  have HW2 := Lib.hid (HW1.out.trans (hw2.mono HW1.out.size))
  obtain ⟨g, hA, hc⟩ : ∃ g, A = some ⟨g, 0, none⟩ ∧ w2.cell? ⟨g, 0, none⟩ = some (.string ⟨#[97, 47, 98]⟩) ∧ g < w2.heap.size := by
    obtain ⟨g, cap', e⟩ := own_succ (k := 0) hown
    injection e with e _ _
    subst e
    obtain ⟨A', c', e1, _, _, h3⟩ := Rd.own hown
    injection e1 with e1 _ _
    obtain ⟨g', o', e2, h4, h5⟩ := h3 (by simp)
    rw [e2] at e1
    injection e1 with e1
    injection e1 with e1 e3 _
    subst e1; subst e3
    exact ⟨g, rfl, h5 0 _ rfl, h4⟩
  subst hA
  have HC := Lib.hid hc
  clear hw2 hown hlen hc HW1
  have h12 := ucells_one ⟨[104, 116, 116, 112, 115], [104], 0, [[97, 47, 98]], [], false, [], false⟩ (some ⟨g, 0, none⟩) 1 cap
  have hisz : (Tryz.prog.info? 47).map (·.size) = some (ucells ⟨[104, 116, 116, 112, 115], [104], 0, [[97, 47, 98]], [], false, [], false⟩ (.slice (some ⟨g, 0, none⟩) 1 cap)).size := info_url
  have hcsz : (8 : Nat) = (ucells ⟨[104, 116, 116, 112, 115], [104], 0, [[97, 47, 98]], [], false, [], false⟩ (.slice (some ⟨g, 0, none⟩) 1 cap)).size := rfl
  have k3 : (ucells ⟨[104, 116, 116, 112, 115], [104], 0, [[97, 47, 98]], [], false, [], false⟩ (.slice (some ⟨g, 0, none⟩) 1 cap))[3]? = some (.slice (some ⟨g, 0, none⟩) 1 cap) := rfl
  simp only [List.length_cons, List.length_nil, Nat.zero_add]
  obtain ⟨cs, hcs⟩ : ∃ cs, ucells ⟨[104, 116, 116, 112, 115], [104], 0, [[97, 47, 98]], [], false, [], false⟩ (.slice (some ⟨g, 0, none⟩) 1 cap) = cs := ⟨_, rfl⟩
  rw [hcs] at h12 hisz hcsz k3 ⊢
  have HK3 := Lib.hid k3
  have HCZ := Lib.hid hcsz
  clear hcs hcsz k3
  go_wp2_with (refine wpList_store_box rfl 47 (.tmp 3) (.tmp 11) rfl w2.heap.size cs rfl rfl 47 _ (Box.new w2 _ _) hisz (by rw [← HCZ.out]; rfl) h12 ?_; intro w3 hx3 hu3 hz3; have HZ3 := Lib.hid hz3; clear hz3)
  refine (HOK.out w3).mono ?_
  rintro e w4 ⟨rfl, hw4⟩
  have hb23 : Below w2.heap.size w2 w3 := (below1 w2 _).trans (hu3.own (Nat.le_refl _) (by simp))
  have hb24 : Below w2.heap.size w2 w4 := hb23.trans (hw4.mono hb23.size)
  have HW4 : Hid (Below w.heap.size w w4) := Lib.hid (HW2.out.trans (hb24.mono HW2.out.size))
  have x3 : w4.cell? ⟨w2.heap.size, 3, none⟩ = some (.slice (some ⟨g, 0, none⟩) 1 cap) := ((hx3.below hw4 hx3.lt).cell 3).trans HK3.out
  have xg : w4.cell? ⟨g, 0, none⟩ = some (.string ⟨#[97, 47, 98]⟩) := by rw [hb24.cell (p := ⟨g, 0, none⟩) HC.out.2]; exact HC.out.1
  clear hb23 hb24 hw4 hu3 hx3 HZ3
  go_wp2_with (fail)
  refine (HEN.out _).mono ?_
  rintro e w5 ⟨rfl, hw5⟩
  have HW5 := Lib.hid (HW4.out.trans (hw5.mono HW4.out.size))
  clear hw5
  go_wp2
  go_ret
  exact ⟨rfl, HW5.out⟩
end Go.Proofs.YtlepbooegofoeaaGreatDoor
