/-
  Play. Conditions: what is asked reads as a list.
-/
import Derived.Test.YtpjbblbehbepbaaLpX
namespace Go.Proofs.Ytpjbblbehbepbaa
set_option linter.unusedSimpArgs false
set_option linter.unusedVariables false
open Go.RowKit

set_option maxRecDepth 100000 in
set_option maxHeartbeats 8000000 in
theorem Play_long (l : List Loopy.Ask) (v : Value) (w : World) (hv : ARd w l v) (hl : 200 < l.length) :
    Calls Try.prog 9 #[v] w fun e w' => PlayOut w (Loopy.play l) e w' := by
  have HP : Hid (Loopy.play l = ([], q0, 2)) := by show _ = _; unfold Loopy.play; rw [if_pos hl]; rfl
  have hl1 : (200 : Int) < (l.length : Int) := by omega
  obtain ⟨A0, c0, rfl, hv1, hv2, hv3⟩ := hv
  have HV := Lib.hid hv3
  clear hv3
  go_enter Try.func9, Try.ntmps9
  go_upto_region 1 with (fail)
  have hb3 := Box.new w 26 #[.int .i64 0, .int .i64 0, .slice none 0 0, .slice none 0 0, .slice none 0 0]
  have hU : Below w.heap.size w (w.alloc (.cells #[.int .i64 0, .int .i64 0, .slice none 0 0, .slice none 0 0, .slice none 0 0] 26)) := below1 w _
  generalize w.alloc (.cells #[.int .i64 0, .int .i64 0, .slice none 0 0, .slice none 0 0, .slice none 0 0] 26) = W at *
  have hzW := hb3.lt
  go_wp2_with (refine wpList_store_box rfl 26 (.tmp 3) (.tmp 20) rfl (w.heap.size) (#[.int .i64 0, .int .i64 0, .slice none 0 0, .slice none 0 0, .slice none 0 0]) rfl rfl 26 _ hb3 info_loop rfl (by simp [Value.oneCell']) ?_; intro w9 hx9 hu9 hz9; clear hz9)
  refine bodyPost_ret (results_tbt rfl (Back.mk' (w.heap.size) 26 _ rfl hx9 Try.underlying26 rfl info_loop)) rfl ?_
  have hB9 : Below w.heap.size w w9 := (hU).trans (Upd.own (B := w.heap.size) hu9 (by omega) (hU).size)
  refine ⟨_, _, _, _, by rw [HP.out]; rfl, by rw [HP.out]; exact own_zero _ _, by rw [HP.out]; exact World.ownsRow_nil _ _ _ _, fun k hk => by simp [Value.ownBlock] at hk, hB9⟩

theorem bad_first : ∀ (l : List Loopy.Ask), (l.any fun a => !Valu.within a.what 1 6) = true → ∃ (k0 : Nat) (x0 : Loopy.Ask), k0 < l.length ∧ l[k0]? = some x0 ∧ Valu.within x0.what 1 6 = false ∧ ∀ k x, k < k0 → l[k]? = some x → Valu.within x.what 1 6 = true
  | [], h => by simp at h
  | a :: l, h => by
    cases ha : Valu.within a.what 1 6
    · exact ⟨0, a, by simp, rfl, ha, fun k x hk => by omega⟩
    · rw [List.any_cons, ha] at h
      obtain ⟨k0, x0, h1, h2, h3, h4⟩ := bad_first l (by simpa using h)
      refine ⟨k0 + 1, x0, by simp; omega, by simpa using h2, h3, fun k x hk hx => ?_⟩
      cases k with
      | zero => simp at hx; subst hx; exact ha
      | succ j => exact h4 j x (by omega) (by simpa using hx)
set_option maxRecDepth 100000 in
set_option maxHeartbeats 8000000 in
theorem Play_bad (l : List Loopy.Ask) (v : Value) (w : World) (hv : ARd w l v) (hl : ¬ 200 < l.length) (hb : (l.any fun a => !Valu.within a.what 1 6) = true) :
    Calls Try.prog 9 #[v] w fun e w' => PlayOut w (Loopy.play l) e w' := by
  obtain ⟨k0, x0, hk0, hx0, hbad, hbef⟩ : ∃ (k0 : Nat) (x0 : Loopy.Ask), k0 < l.length ∧ l[k0]? = some x0 ∧ Valu.within x0.what 1 6 = false ∧ ∀ k x, k < k0 → l[k]? = some x → Valu.within x.what 1 6 = true := bad_first l hb
  have HP : Hid (Loopy.play l = ([], q0, 3)) := by show _ = _; unfold Loopy.play; rw [if_neg hl, if_pos hb]; rfl
  have hl1 : ¬ (200 : Int) < (l.length : Int) := by omega
  have HX0 := Lib.hid hx0
  have HBAD := Lib.hid hbad
  have HBEF := Lib.hid hbef
  clear hx0 hbad hbef hb
  obtain ⟨A0, c0, rfl, hv1, hv2, hv3⟩ := hv
  have HV := Lib.hid hv3
  clear hv3
  go_enter Try.func9, Try.ntmps9
  go_upto_region 1 with (fail)
  have hb3 := Box.new w 26 #[.int .i64 0, .int .i64 0, .slice none 0 0, .slice none 0 0, .slice none 0 0]
  have hU : Below w.heap.size w (w.alloc (.cells #[.int .i64 0, .int .i64 0, .slice none 0 0, .slice none 0 0, .slice none 0 0] 26)) := below1 w _
  generalize w.alloc (.cells #[.int .i64 0, .int .i64 0, .slice none 0 0, .slice none 0 0, .slice none 0 0] 26) = W at *
  have hzW := hb3.lt
  go_wp2_with (fail)
  go_loopg [6, 23] l.length (fun gg _ c wr => ∃ k : Nat, k ≤ k0 ∧ l.length - k ≤ gg ∧ c = .int .i64 (k : Int) ∧ Hid (Below W.heap.size W wr))
  case atStart => exact ⟨0, Nat.zero_le _, by omega, rfl, Below.refl _ _⟩
  case round =>
    obtain ⟨k, hk, hg, rfl, BR⟩ := hrel
    have hbr := hU.trans (BR.out.mono hU.size)
    have hlt2 : decide ((k : Int) < (l.length : Int)) = true := by simp; omega
    by_cases hlt : k < k0
    · obtain ⟨x, hx⟩ : ∃ x, l[k]? = some x := ⟨_, List.getElem?_eq_getElem (by omega)⟩
      have HWI := Lib.hid (fun w => within_is _ _ _ _ (HBEF.out k x hlt hx) w)
      obtain ⟨g0, o, rfl, hg0, hrg⟩ := HV.out (by omega)
      have hrange : Hid (wr.rangeAt g0 (o + k * 7) (ac x).toList) := fun i u hu => by
        rw [hbr.cell (p := ⟨g0, o + k * 7 + i, none⟩) hg0]
        exact RdL.elem (f := ac) (fun _ => rfl) hrg hx i u hu
      clear hrg
      clear hx
      go_wp2_with (first | (refine wpList_load_mid rfl 35 (.tmp 25) rfl g0 (o + k * 7) rfl (ac x).toList _ hrange.out Try.underlying35 rfl info_ask ?_) | (refine wpList_store_box rfl 35 (.tmp 6) (.tmp 26) rfl wr.heap.size (ac x) rfl rfl 35 _ (Box.new wr _ _) info_ask rfl (ac_one x) ?_; intro w4 hx4 hu4 hz4; have q0 := hx4.cell 0; have q2 := hx4.cell 2; simp at q0 q2; have hzw := hx4.lt; clear hz4))
      refine (HWI.out _).mono ?_
      rintro e w5 ⟨rfl, rfl⟩
      have hb4 : Below W.heap.size W w4 := (BR.out.alloc BR.out.size _).trans (hu4.own BR.out.size (by simp; have := BR.out.size; omega))
      go_wp2_with (fail)
      go_roundg (l.length - (k + 1))
      case measure => omega
      case rel => exact ⟨k + 1, by omega, by omega, by go_num, hb4⟩
    · obtain rfl : k = k0 := by omega
      obtain ⟨x, rfl⟩ : ∃ x, x = x0 := ⟨_, rfl⟩
      have hx := HX0.out
      have HWI := Lib.hid (fun w => within_is _ _ _ _ HBAD.out w)
      obtain ⟨g0, o, rfl, hg0, hrg⟩ := HV.out (by omega)
      have hrange : Hid (wr.rangeAt g0 (o + k * 7) (ac x).toList) := fun i u hu => by
        rw [hbr.cell (p := ⟨g0, o + k * 7 + i, none⟩) hg0]
        exact RdL.elem (f := ac) (fun _ => rfl) hrg hx i u hu
      clear hrg
      clear hx
      go_wp2_with (first | (refine wpList_load_mid rfl 35 (.tmp 25) rfl g0 (o + k * 7) rfl (ac x).toList _ hrange.out Try.underlying35 rfl info_ask ?_) | (refine wpList_store_box rfl 35 (.tmp 6) (.tmp 26) rfl wr.heap.size (ac x) rfl rfl 35 _ (Box.new wr _ _) info_ask rfl (ac_one x) ?_; intro w4 hx4 hu4 hz4; have q0 := hx4.cell 0; have q2 := hx4.cell 2; simp at q0 q2; have hzw := hx4.lt; clear hz4))
      refine (HWI.out _).mono ?_
      rintro e w5 ⟨rfl, rfl⟩
      have hb4 : Below w.heap.size w w4 := (hbr.alloc hbr.size _).trans (hu4.own hbr.size (by simp; have := hbr.size; omega))
      have hb34 : Box w4 w.heap.size 26 #[.int .i64 0, .int .i64 0, .slice none 0 0, .slice none 0 0, .slice none 0 0] := Box.below hb3 ((BR.out.alloc BR.out.size _).trans (hu4.own BR.out.size (by simp; have := BR.out.size; omega))) hb3.lt
      go_wp2_with (refine wpList_store_box rfl 26 (.tmp 3) (.tmp 31) rfl (w.heap.size) (#[.int .i64 0, .int .i64 0, .slice none 0 0, .slice none 0 0, .slice none 0 0]) rfl rfl 26 _ hb34 info_loop rfl (by simp [Value.oneCell']) ?_; intro w9 hx9 hu9 hz9; clear hz9)
      refine bodyPost_ret (results_tbt rfl (Back.mk' (w.heap.size) 26 _ rfl hx9 Try.underlying26 rfl info_loop)) rfl ?_
      have hB9 : Below w.heap.size w w9 := (hb4).trans (Upd.own (B := w.heap.size) hu9 (by omega) (hb4).size)
      refine ⟨_, _, _, _, by rw [HP.out]; rfl, by rw [HP.out]; exact own_zero _ _, by rw [HP.out]; exact World.ownsRow_nil _ _ _ _, fun k hk => by simp [Value.ownBlock] at hk, hB9⟩

end Go.Proofs.Ytpjbblbehbepbaa
