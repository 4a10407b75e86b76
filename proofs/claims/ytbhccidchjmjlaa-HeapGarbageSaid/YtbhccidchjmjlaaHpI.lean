/-
  Values moved, and Move: walked. Conditions: the cells, the values and the roots read as rows.
-/
import Derived.Test.YtbhccidchjmjlaaHpH
namespace Go.Proofs.Ytbhccidchjmjlaa
set_option linter.unusedSimpArgs false
set_option linter.unusedVariables false
open Go.RowKit

/-- the first of them have new numbers. -/
def mixV (f : Nat → Nat) (l : List Valu.V) (j : Nat) : List Valu.V := (l.take j).map (Hepy.ren f) ++ l.drop j
theorem mixV_at {f : Nat → Nat} {l : List Valu.V} {j : Nat} {x : Valu.V} (h : l[j]? = some x) : mixV f l j = (l.take j).map (Hepy.ren f) ++ x :: l.drop (j + 1) := by
  obtain ⟨h1, h2⟩ := List.getElem?_eq_some_iff.1 h
  unfold mixV
  rw [List.drop_eq_getElem_cons h1, h2]
theorem mixV_next {f : Nat → Nat} {l : List Valu.V} {j : Nat} {x : Valu.V} (h : l[j]? = some x) : mixV f l (j + 1) = (l.take j).map (Hepy.ren f) ++ Hepy.ren f x :: l.drop (j + 1) := by
  unfold mixV
  rw [List.take_add_one, h]; simp
theorem mixV_all (f : Nat → Nat) (l : List Valu.V) : mixV f l l.length = l.map (Hepy.ren f) := by unfold mixV; simp
theorem mixV_len (f : Nat → Nat) (l : List Valu.V) (j : Nat) : (mixV f l j).length = l.length := by unfold mixV; simp; omega
theorem set_vflat (A : List Valu.V) (x : Valu.V) (B : List Valu.V) (R : List Value) (m : Int) :
    (flat vc (A ++ x :: B) ++ R).set (A.length * 3 + 1) (.int .i64 m) = flat vc (A ++ ⟨x.k, m, x.s⟩ :: B) ++ R := by
  have h := flat_len (f := vc) (k := 3) (fun _ => rfl) A
  rw [flat_append, flat_append, flat_cons, flat_cons, List.append_assoc, List.append_assoc, List.append_assoc, List.append_assoc,
    List.set_append_right _ _ (by omega), h, show A.length * 3 + 1 - A.length * 3 = 1 by omega]
  rfl
theorem mixV_cell {f : Nat → Nat} {l : List Valu.V} {j : Nat} {x : Valu.V} (h : l[j]? = some x) (R : List Value) {i : Nat} {v : Value} (hv : (vc x).toList[i]? = some v) : (flat vc (mixV f l j) ++ R)[j * 3 + i]? = some v := by
  have h1 : (mixV f l j)[j]? = some x := by
    rw [mixV_at h]
    have : ((l.take j).map (Hepy.ren f)).length = j := by simp; have := (List.getElem?_eq_some_iff.1 h).1; omega
    rw [List.getElem?_append_right (by omega), this]; simp
  have h2 := flat_at (f := vc) (k := 3) (fun _ => rfl) (mixV f l j) j x h1 i v hv
  rw [List.getElem?_append_left (List.getElem?_eq_some_iff.1 h2).1]
  exact h2
theorem ren_low {f : Nat → Nat} {v : Valu.V} (h : Hepy.ref v < 0) : Hepy.ren f v = v := by unfold Hepy.ren; rw [if_neg (by omega)]
theorem ren_high {f : Nat → Nat} {v : Valu.V} {n : Nat} (h : Hepy.ref v = (n : Int)) : Hepy.ren f v = ⟨v.k, (f n : Int), v.s⟩ := by unfold Hepy.ren; rw [if_pos (by omega), h, Int.toNat_natCast]
set_option maxRecDepth 100000 in
set_option maxHeartbeats 4000000 in
theorem moved_any (b t B n : Nat) (hv av : Value) (al : List Nat) (l : List Valu.V) (v : Value) (w : World) (hws : WS w B b t hv n al av) (hl : RdL w 3 vc l v) (hlz : l.length * 32 ≤ 140737488355328) (hal : ∀ m ∈ al, m < n) (hin : ∀ v ∈ l, 0 ≤ Hepy.ref v → (Hepy.ref v).toNat ∈ al) :
    Calls Try.prog 24 #[.pointer (some ⟨b, 0, none⟩), v] w fun e w' => OwnOut w 31 3 l.length (flat vc (l.map (Hepy.ren (Hepy.pos al)))) e w' := by
  have HCL := Lib.hid (clone_val l v w hl hlz)
  have HW := Lib.hid hws
  have HIN := Lib.hid hin
  have HAL := Lib.hid hal
  have HRF := Lib.hid (fun v w => ref_any v w)
  obtain ⟨A, cap, rfl, hc1, hc2, -⟩ := hl
  clear hws hin hal
  go_enter Try.func24, Try.ntmps24
  go_wp2_with (fail)
  refine (HCL.out).mono ?_
  rintro en W2 ⟨v2, rfl, hown2, hb2⟩
  have HB2 := Lib.hid hb2
  have hz2 := hb2.size
  obtain ⟨A3, cap3, rfl⟩ := own_slice hown2
  by_cases hp : 0 < l.length
  · obtain ⟨g3, cap', R, hv3, hbase, hbox, hq1, hq2, hq3⟩ := own_box hown2 hp
    injection hv3 with hA hv4 hc
    clear hv4
    subst hA
    subst hc
    have HBX := Lib.hid hbox
    have HQ3 := Lib.hid hq3
    clear hown2 hb2 HCL hbox hq3
    go_upto_region 3 with (fail)
    go_loopg [12] l.length (fun gg s12 wr => ∃ j : Nat, j ≤ l.length ∧ l.length - j ≤ gg ∧ s12 = .int .i64 (j : Int) ∧ Hid (Below w.heap.size w wr) ∧ Hid (Box wr g3 31 (flat vc (mixV (Hepy.pos al) l j) ++ R).toArray))
    case atStart => exact ⟨0, Nat.zero_le _, by omega, rfl, HB2.out, by show Box _ _ _ _; have := HBX.out; simpa [mixV] using this⟩
    case round =>
      obtain ⟨j, hj, hgg, rfl, BW, BX⟩ := hrel
      have hzr := BW.out.size
      have hg3 := BX.out.lt
      by_cases hlt : j < l.length
      · have hlt2 : decide ((j : Int) < (l.length : Int)) = true := decide_eq_true (by omega)
        have hltz : (j : Int) < (l.length : Int) := by omega
        obtain ⟨x, hx⟩ : ∃ x, l[j]? = some x := ⟨_, List.getElem?_eq_getElem hlt⟩
        have hrange : Hid (wr.rangeAt g3 (j * 3) (vc x).toList) := fun i u hu => by
          rw [BX.out.cell, List.getElem?_toArray]
          exact mixV_cell hx R hu
        have HRX := Lib.hid (HRF.out x)
        obtain ⟨r, hr⟩ : ∃ r, Hepy.ref x = r := ⟨_, rfl⟩
        rw [hr] at HRX
        have HR := Lib.hid hr
        have HX := Lib.hid hx
        have hinx := HIN.out x (List.mem_of_getElem? hx)
        rw [hr] at hinx
        have HINX := Lib.hid hinx
        clear hx hr hinx
        go_upto_region 5 with (first | (refine wpList_load_mid rfl 31 (.tmp 15) rfl g3 (j * 3) rfl (vc x).toList _ hrange.out Try.underlying31 rfl info_val ?_) | (refine wpList_store_box rfl 31 (.tmp 6) (.tmp 16) rfl wr.heap.size (vc x) rfl rfl 31 _ (Box.new wr _ _) info_val rfl (vc_one x) ?_; intro w6 hx6 hu6 hz6))
        have hb6 : Below wr.heap.size wr w6 := ((Below.refl _ wr).alloc (Nat.le_refl _) _).trans (hu6.own (Nat.le_refl _) (by simp))
        have BW6 := Lib.hid (BW.out.trans (hb6.mono hzr))
        have BX6 := Lib.hid (BX.out.below hb6 hg3)
        have HX6 := Lib.hid hx6
        have hz66 := hb6.size
        clear hb6 hu6 hx6 hrange BW BX
        go_wp2_with (refine wpList_load_row rfl 31 (.tmp 6) rfl wr.heap.size rfl _ (vc x) (0, 0) _ HX6.out Try.underlying31 rfl info_val ?_)
        refine (HRX.out _).mono ?_
        rintro en w7 ⟨rfl, hb7⟩
        have BW7 := Lib.hid (BW6.out.trans (hb7.mono (by omega)))
        have BX7 := Lib.hid (BX6.out.below hb7 BX6.out.lt)
        have HW7 := Lib.hid (HW.out.below BW7.out)
        clear hb7 BW6 BX6
        by_cases y1 : r < 0
        · have d1 : decide (r ≥ 0) = false := decide_eq_false (by omega)
          have hnx : mixV (Hepy.pos al) l (j + 1) = mixV (Hepy.pos al) l j := by
            rw [mixV_next HX.out, mixV_at HX.out, ren_low (by rw [HR.out]; exact y1)]
          have HNX := Lib.hid hnx
          clear y1 hnx
          go_wp2
          go_roundg (l.length - (j + 1))
          case measure => omega
          case rel => exact ⟨j + 1, by omega, by omega, by go_num, BW7.out, by rw [HNX.out]; exact BX7.out⟩
        · have d1 : decide (r ≥ 0) = true := decide_eq_true (by omega)
          obtain ⟨N, rfl⟩ : ∃ N : Nat, r = (N : Int) := ⟨r.toNat, by omega⟩
          have hmem : N ∈ al := by have := HINX.out (by omega); rwa [Int.toNat_natCast] at this
          have hNn := HAL.out N hmem
          have hNz : (N : Int) < (n : Int) := by omega
          have c1 := HW7.out.box.cell 1
          have tN := (HW7.out.to.cell N).trans (places_at hNn)
          have hpl : place al N = ((Hepy.pos al N : Nat) : Int) := by unfold place; rw [if_pos hmem]; rfl
          rw [hpl] at tN
          simp at c1
          have fk := BX7.out.frozen (j * 3 + 1)
          have ck : w7.cell? ⟨g3, j * 3 + 1, none⟩ = some (.int .i64 x.n) := by
            rw [BX7.out.cell, List.getElem?_toArray]
            exact mixV_cell HX.out R (i := 1) rfl
          obtain ⟨P, hP⟩ : ∃ P, Hepy.pos al N = P := ⟨_, rfl⟩
          rw [hP] at tN
          have BX9 : Hid (Box (w7.setCell ⟨g3, j * 3 + 1, none⟩ (.int .i64 (P : Int))) g3 31 (flat vc (mixV (Hepy.pos al) l (j + 1)) ++ R).toArray) := by
            have h1 := BX7.out.set (j * 3 + 1) (.int .i64 (P : Int))
            have e1 : ((l.take j).map (Hepy.ren (Hepy.pos al))).length = j := by simp; omega
            have e2 := set_vflat ((l.take j).map (Hepy.ren (Hepy.pos al))) x (l.drop (j + 1)) R (P : Int)
            rw [e1] at e2
            rw [List.setIfInBounds_toArray, mixV_at HX.out, e2] at h1
            rw [mixV_next HX.out, ren_high HR.out, hP]
            exact h1
          have BW9 : Hid (Below w.heap.size w (w7.setCell ⟨g3, j * 3 + 1, none⟩ (.int .i64 (P : Int)))) := BW7.out.setCell (p := ⟨g3, j * 3 + 1, none⟩) hbase _
          have hPb : (P : Int) ≤ 9223372036854775807 ∨ True := .inr trivial
          clear y1 hmem hpl hP hPb
          go_wp2
          go_roundg (l.length - (j + 1))
          case measure => omega
          case rel => exact ⟨j + 1, by omega, by omega, by go_num, BW9.out, BX9.out⟩
      · have hlt2 : decide ((j : Int) < (l.length : Int)) = false := decide_eq_false (by omega)
        obtain rfl : j = l.length := by omega
        go_wp2
        go_ret
        refine ⟨_, rfl, ?_, BW.out⟩
        have hbx := BX.out
        rw [mixV_all] at hbx
        have hfl : (flat vc (l.map (Hepy.ren (Hepy.pos al)))).length = l.length * 3 := by rw [flat_len (k := 3) (fun _ => rfl), List.length_map]
        have hfl2 : (flat vc l).length = l.length * 3 := flat_len (k := 3) (fun _ => rfl) l
        have hq := HQ3.out
        rw [List.length_append, hfl2] at hq
        exact box_own hbase hbx hq1 hq2 (by rw [List.length_append, hfl]; exact hq) (by rw [← hfl, List.take_left']; rfl) hfl
  · obtain rfl : l = [] := List.length_eq_zero_iff.1 (by omega)
    have HO2 := Lib.hid hown2
    clear hown2 hb2 HCL hp
    go_upto_region 3 with (fail)
    go_loopg [12] 1 (fun gg s12 wr => s12 = .int .i64 0 ∧ wr = W2)
    case atStart => exact ⟨rfl, rfl⟩
    case round =>
      obtain ⟨rfl, rfl⟩ := hrel
      go_wp2
      go_ret
      exact ⟨_, rfl, HO2.out, HB2.out⟩
end Go.Proofs.Ytbhccidchjmjlaa
