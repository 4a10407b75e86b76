/-
  The walks of the laws of addresses: dots, back. Conditions: the library's variables hold what they hold.
-/
import Derived.Test.YtlepbooegofoeaaGreatDoorUsG
namespace Go.Proofs.YtlepbooegofoeaaGreatDoor
set_option linter.unusedSimpArgs false
set_option linter.unusedVariables false
open Go.RowKit

theorem has_no (l : List (List UInt8)) (x : List UInt8) (h0 : l ≠ []) (hx : x ∉ l) (v : Value) (w : World) (hv : Rd w 1 (txts l) l.length v) :
    Calls Tryz.prog 25 #[v, .string (byt x)] w fun e w' => e = .returned (.bool false) ∧ w' = w := by
  have hp : 0 < l.length := List.length_pos_iff.2 h0
  obtain ⟨A, ca, rfl, h1, h2, h3⟩ := hv
  obtain ⟨g, o, rfl, h4, h5⟩ := h3 hp
  have h := Tryz.slices_Contains_string g o l.length ca (l.map byt) (byt x) w (by simp) (by omega) (fun j hj => h5 j _ (txts_getD l j (by simpa using hj)))
  have hn : Lib.containsS ((l.map byt).take l.length) (byt x) = false := by
    rw [← Bool.not_eq_true, Lib.containsS_iff]
    intro hm
    have hm2 := List.mem_of_mem_take hm
    obtain ⟨y, hy, e⟩ := List.mem_map.1 hm2
    exact hx (byt_inj e ▸ hy)
  rw [hn] at h
  exact h
/-! ### UrlDots -/
set_option maxRecDepth 100000 in
set_option maxHeartbeats 4000000 in
theorem dots_walk (base ref : List UInt8) (w : World) (he : Env w) :
    Calls Tryz.prog 7 #[.string (byt base), .string (byt ref)] w (TruthOut w) := by
  have HR1 : Hid (ResC base ref w) := Lib.hid (resC base ref w he)
  have HPR : Hid (∀ s w1, Below w.heap.size w w1 → Calls Tryz.prog 24 #[.string (byt s)] w1 (ParseOut s w1)) := Lib.hid (fun s w1 h1 => parse_any s w1 (he.below h1))
  have HL : Hid (∀ w1, Below w.heap.size w w1 → Calls Tryz.prog 13 #[] w1 (TruthOut w1)) := Lib.hid (fun w1 h1 => urlLives_true w1 (he.below h1))
  clear he
  go_enter Tryz.func7, Tryz.ntmps7
  go_wp2_with (fail)
  refine HR1.out.mono ?_
  rintro e w1 ⟨s, m, rfl, ht, hw1⟩
  have HW1 := Lib.hid hw1
  have HT := Lib.hid ht
  clear hw1 ht HR1
  go_wp2_with (fail)
  refine (HL.out _ HW1.out).mono ?_
  rintro e w2 ⟨rfl, hw2⟩
  have HW2 := Lib.hid (HW1.out.trans (hw2.mono HW1.out.size))
  clear hw2
  rcases HT.out with ⟨hm, hr⟩ | ⟨hm, hs, _⟩
  · subst hm
    obtain ⟨u, hp, hne, hd1, hd2⟩ := Urly.dots_law hr
    have HPP := Lib.hid hp
    have HNE := Lib.hid hne
    have HD1 := Lib.hid hd1
    have HD2 := Lib.hid hd2
    clear hp hne hd1 hd2 hr
    go_wp2_with (fail)
    refine (HPR.out s _ HW2.out).mono ?_
    rintro e w3 (⟨u', v, hp, rfl, hown, hlen, hw3⟩ | ⟨n, hp, _⟩)
    rotate_left
    · rw [HPP.out] at hp; cases hp
    rw [HPP.out] at hp
    injection hp with hp
    subst hp
    have HW3 := Lib.hid (HW2.out.trans (hw3.mono HW2.out.size))
    obtain ⟨A, cap, rfl⟩ := own_slice hown
    have HRD := Lib.hid (Rd.own hown)
    have h12 := ucells_one u A u.path.length cap
    have hisz : (Tryz.prog.info? 47).map (·.size) = some (ucells u (.slice A u.path.length cap)).size := info_url
    have hcsz : (8 : Nat) = (ucells u (.slice A u.path.length cap)).size := rfl
    have k3 : (ucells u (.slice A u.path.length cap))[3]? = some (.slice A u.path.length cap) := rfl
    obtain ⟨cs, hcs⟩ : ∃ cs, ucells u (.slice A u.path.length cap) = cs := ⟨_, rfl⟩
    rw [hcs] at h12 hisz hcsz k3 ⊢
    have hpos : 0 < u.path.length := List.length_pos_iff.2 HNE.out
    have HC1 : Hid (∀ w1, Below w3.heap.size w3 w1 → Calls Tryz.prog 25 #[.slice A u.path.length cap, .string ⟨#[46]⟩] w1 fun e w' => e = .returned (.bool false) ∧ w' = w1) := Lib.hid (fun w1 h1 => has_no u.path [46] HNE.out HD1.out _ w1 (HRD.out.below h1))
    have HC2 : Hid (∀ w1, Below w3.heap.size w3 w1 → Calls Tryz.prog 25 #[.slice A u.path.length cap, .string ⟨#[46, 46]⟩] w1 fun e w' => e = .returned (.bool false) ∧ w' = w1) := Lib.hid (fun w1 h1 => has_no u.path [46, 46] HNE.out HD2.out _ w1 (HRD.out.below h1))
    obtain ⟨n, hn⟩ : ∃ n, u.path.length = n := ⟨_, rfl⟩
    rw [hn] at k3 HC1 HC2 hpos
    have HK3 := Lib.hid k3
    have HCZ := Lib.hid hcsz
    have p1 : decide ((n : Int) > 0) = true := decide_eq_true (by omega)
    have p2 : (0 : Int) < (n : Int) := by omega
    clear hcs hcsz k3 hw3 hown hlen hn
    go_upto_region 5 with (refine wpList_store_box rfl 47 (.tmp 7) (.tmp 29) rfl w3.heap.size cs rfl rfl 47 _ (Box.new w3 _ _) hisz (by rw [← HCZ.out]; rfl) h12 ?_; intro w4 hx4 hu4 hz4; have HZ4 := Lib.hid hz4; clear hz4)
    have hb34 : Below w3.heap.size w3 w4 := (below1 w3 _).trans (hu4.own (Nat.le_refl _) (by simp))
    have HW4 : Hid (Below w.heap.size w w4) := Lib.hid (HW3.out.trans (hb34.mono HW3.out.size))
    have x3 : w4.cell? ⟨w3.heap.size, 3, none⟩ = some (.slice A n cap) := (hx4.cell 3).trans HK3.out
    have HC1a := Lib.hid (HC1.out _ hb34)
    have HC2a := Lib.hid (HC2.out _ hb34)
    clear hb34 hu4 hx4 HZ4 HC1 HC2
    go_wp2_with (fail)
    refine HC1a.out.mono ?_
    rintro e w5 ⟨rfl, hw5⟩
    subst hw5
    go_wp2_with (fail)
    refine HC2a.out.mono ?_
    rintro e w5 ⟨rfl, hw5⟩
    subst hw5
    go_wp2
    go_ret
    exact ⟨by simp, HW4.out⟩
  · subst hs
    have h2 : (m != 0) = true := by rw [bne, beq_no hm]; rfl
    clear hm
    have hse : ((byt []).toList == []) = true := by rw [byt_list]; rfl
    have hse2 : (byt []).toList.isEmpty = true := by rw [byt_list]; rfl
    obtain ⟨S, hS⟩ : ∃ S, byt [] = S := ⟨_, rfl⟩
    rw [hS] at hse hse2 ⊢
    clear hS
    go_wp2_with (fail)
    refine (HL.out _ HW2.out).mono ?_
    rintro e w3 ⟨rfl, hw3⟩
    have HW3 := Lib.hid (HW2.out.trans (hw3.mono HW2.out.size))
    clear hw3
    go_wp2
    go_ret
    exact ⟨by simp, HW3.out⟩
end Go.Proofs.YtlepbooegofoeaaGreatDoor
