/-
  Alike: walked. Conditions: the cells read as rows.
-/
import Derived.Test.YtbhccidchjmjlaaHpK
namespace Hepy
theorem moved_vals {h : List Cell} (k : Right h) {l : List Valu.V} (hf : l.all (fits h) = true) : ∀ c ∈ moved h l, c.vals.length ≤ 200 ∧ c.names.length ≤ 200 := by
  intro c hc
  unfold moved movedW at hc
  obtain ⟨n, hn, rfl⟩ := List.mem_map.1 hc
  have hok := (walked_came k.sound (fun v hv => (fits_leads (List.all_eq_true.1 hf v hv)).1)).ok
  have hm := at_mem (hok.lt n hn)
  have h1 := k.vl _ hm
  have h2 := k.names hm
  exact ⟨by simpa [renC] using h1, by simpa [renC] using h2⟩
theorem move_zero {h : List Cell} {l : List Valu.V} (k : (move h l).2.2 = 0) : askedH h l = 0 ∧ move h l = (moved h l, movedR h l, 0) := by
  unfold move at k ⊢
  by_cases h1 : askedH h l = 0
  · rw [if_neg (by simp [h1])]; exact ⟨h1, rfl⟩
  · rw [if_pos h1] at k; exact absurd k h1
end Hepy
namespace Go.Proofs.Ytbhccidchjmjlaa
set_option linter.unusedSimpArgs false
set_option linter.unusedVariables false
open Go.RowKit

theorem shr_of {h : List CellV} (k : ∀ c ∈ cells h, c.vals.length ≤ 200) : Shr h := fun x hx => by
  have := k x.c (by unfold cells; exact List.mem_map.2 ⟨x, hx, rfl⟩)
  omega
set_option maxRecDepth 100000 in
set_option maxHeartbeats 8000000 in
theorem Alike_any (h : List CellV) (hv : Value) (a : Valu.V) (k : List CellV) (kv : Value) (b : Valu.V) (w : World) (hr : HRd w h hv) (hk : HRd w k kv) (hza : a.s.length ≤ 9223372036854775807) (hzb : b.s.length ≤ 9223372036854775807) :
    Calls Try.prog 14 #[hv, .agg (vc a), kv, .agg (vc b)] w fun e w' => e = .returned (.tuple #[.bool (Hepy.alike (cells h) a (cells k) b).1, .int .i64 ((Hepy.alike (cells h) a (cells k) b).2 : Int)]) ∧ Below w.heap.size w w' := by
  have HC1 : Hid (∀ w', Below w.heap.size w w' → Calls Try.prog 18 #[hv] w' fun e w'' => e = .returned (.int .i64 (Hepy.checkH (cells h) : Int)) ∧ Below w'.heap.size w' w'') := fun w' hb => Check_any h hv w' (hr.below hb)
  have HC2 : Hid (∀ w', Below w.heap.size w w' → Calls Try.prog 18 #[kv] w' fun e w'' => e = .returned (.int .i64 (Hepy.checkH (cells k) : Int)) ∧ Below w'.heap.size w' w'') := fun w' hb => Check_any k kv w' (hk.below hb)
  have HM1 : Hid (∀ w' v, Below w.heap.size w w' → RdL w' 3 vc [a] v → Calls Try.prog 10 #[hv, v] w' fun e w'' => MoveOut w' (Hepy.move (cells h) [a]) e w'') := fun w' v hb hl => Move_any h hv [a] v w' (hr.below hb) hl (fun x hx => by rw [List.mem_singleton] at hx; subst hx; exact hza) (by simp)
  have HM2 : Hid (∀ w' v, Below w.heap.size w w' → RdL w' 3 vc [b] v → Calls Try.prog 10 #[kv, v] w' fun e w'' => MoveOut w' (Hepy.move (cells k) [b]) e w'') := fun w' v hb hl => Move_any k kv [b] v w' (hk.below hb) hl (fun x hx => by rw [List.mem_singleton] at hx; subst hx; exact hzb) (by simp)
  obtain ⟨ch, hch⟩ : ∃ ch, Hepy.checkH (cells h) = ch := ⟨_, rfl⟩
  obtain ⟨ck, hck⟩ : ∃ ck, Hepy.checkH (cells k) = ck := ⟨_, rfl⟩
  have HAL : Hid (Hepy.alike (cells h) a (cells k) b = if ch ≠ 0 then (false, ch) else if ck ≠ 0 then (false, ck) else if (Hepy.move (cells h) [a]).2.2 ≠ 0 then (false, (Hepy.move (cells h) [a]).2.2) else if (Hepy.move (cells k) [b]).2.2 ≠ 0 then (false, (Hepy.move (cells k) [b]).2.2) else (decide ((Hepy.move (cells h) [a]).1 = (Hepy.move (cells k) [b]).1) && decide (Hepy.ren (Hepy.pos (Hepy.walked (cells h) [a])) a = Hepy.ren (Hepy.pos (Hepy.walked (cells k) [b])) b), 0)) := by
    show _ = _
    unfold Hepy.alike
    rw [hch, hck]
  rw [hch] at HC1
  rw [hck] at HC2
  have HCH := Lib.hid hch
  have HCK := Lib.hid hck
  obtain ⟨A, cap, rfl, hc1, hc2, _⟩ := hr.r
  obtain ⟨A2, cap2, rfl, hc3, hc4, _⟩ := hk.r
  clear hr hk hch hck hza hzb
  go_enter Try.func14, Try.ntmps14
  go_upto_region 2 with (fail)
  refine gen_world (F := fun W => Box W w.heap.size 31 (vc a) ∧ Box W (w.heap.size + 1) 31 (vc b) ∧ Box W (w.heap.size + 2) 22 #[.slice A h.length cap, .slice A2 k.length cap2] ∧ Below w.heap.size w W) ⟨((Box.new w _ _).alloc _).alloc _, (new2 w _ _ _).alloc _, new3 w _ _ _ _, ((below1 w _).alloc (by simp) _).alloc (by simp <;> omega) _⟩ ?_
  rintro W0 ⟨ba, bb, bs, hU0⟩
  have HBA := Lib.hid ba
  have HBB := Lib.hid bb
  have HBS := Lib.hid bs
  have HU0 := Lib.hid hU0
  clear ba bb bs hU0
  go_loopg [22] 2 (fun gg s22 wr => ∃ j : Nat, j ≤ 2 ∧ 2 - j ≤ gg ∧ s22 = .int .i64 (j : Int) ∧ Hid (Below W0.heap.size W0 wr) ∧ Hid ((1 ≤ j → ch = 0) ∧ (2 ≤ j → ck = 0)))
  case atStart => exact ⟨0, by omega, by omega, rfl, Below.refl _ _, ⟨fun h => by omega, fun h => by omega⟩⟩
  case round =>
    obtain ⟨j, hj, hgg, rfl, BW, AA⟩ := hrel
    have HUr := Lib.hid (HU0.out.trans (BW.out.mono HU0.out.size))
    have bsr := HBS.out.below BW.out HBS.out.lt
    have s0 := bsr.cell 0
    have s1 := bsr.cell 1
    simp at s0 s1
    rcases (show j = 0 ∨ j = 1 ∨ j = 2 by omega) with rfl | rfl | rfl
    · clear s1
      go_wp2_with (fail)
      refine (HC1.out _ HUr.out).mono ?_
      rintro en w1 ⟨rfl, hb1⟩
      have BW1 := Lib.hid (BW.out.trans (hb1.mono BW.out.size))
      clear hb1
      by_cases y : ch = 0
      · subst y
        have g1 : (((0 : Nat) : Int) != 0) = false := by simp
        go_wp2
        go_roundg 1
        case measure => omega
        case rel => exact ⟨1, by omega, by omega, by go_num, BW1.out, ⟨fun _ => by trivial, fun h => by omega⟩⟩
      · have g1 : ((ch : Int) != 0) = true := by simp; omega
        have Y := Lib.hid y
        clear y
        go_wp2
        go_returns
        exact ⟨by rw [HAL.out, if_pos Y.out]; rfl, HU0.out.trans (BW1.out.mono HU0.out.size)⟩
    · clear s0
      go_wp2_with (fail)
      refine (HC2.out _ HUr.out).mono ?_
      rintro en w1 ⟨rfl, hb1⟩
      have BW1 := Lib.hid (BW.out.trans (hb1.mono BW.out.size))
      clear hb1
      have hch0 := AA.out.1 (by omega)
      by_cases y : ck = 0
      · have g1 : ((ck : Int) != 0) = false := by simp [y]
        have Y := Lib.hid y
        have Z := Lib.hid hch0
        clear y hch0
        go_wp2
        go_roundg 0
        case measure => omega
        case rel => exact ⟨2, by omega, by omega, by go_num, BW1.out, ⟨fun _ => Z.out, fun _ => Y.out⟩⟩
      · have g1 : ((ck : Int) != 0) = true := by simp; omega
        have Y := Lib.hid y
        have Z := Lib.hid hch0
        clear y hch0
        go_wp2
        go_returns
        exact ⟨by rw [HAL.out, if_neg (by simp [Z.out]), if_pos Y.out]; rfl, HU0.out.trans (BW1.out.mono HU0.out.size)⟩
    · have hch0 := AA.out.1 (by omega)
      have hck0 := AA.out.2 (by omega)
      subst hch0 hck0
      have HAL2 : Hid (Hepy.alike (cells h) a (cells k) b = if (Hepy.move (cells h) [a]).2.2 ≠ 0 then (false, (Hepy.move (cells h) [a]).2.2) else if (Hepy.move (cells k) [b]).2.2 ≠ 0 then (false, (Hepy.move (cells k) [b]).2.2) else (decide ((Hepy.move (cells h) [a]).1 = (Hepy.move (cells k) [b]).1) && decide (Hepy.ren (Hepy.pos (Hepy.walked (cells h) [a])) a = Hepy.ren (Hepy.pos (Hepy.walked (cells k) [b])) b), 0)) := HAL.out
      obtain ⟨wi, rfl⟩ : ∃ wi : World, wi = wr := ⟨_, rfl⟩
      have bai := HBA.out.below BW.out HBA.out.lt
      have HBBi := Lib.hid (HBB.out.below BW.out HBB.out.lt)
      have hzi := HUr.out.size
      have HMA := Lib.hid (HM1.out (wi.alloc (.cells (vc a) 31)) (.slice (some ⟨wi.heap.size, 0, none⟩) 1 1) (HUr.out.trans ((below1 wi _).mono hzi)) (rd_box (Box.new wi _ _) (by rfl) rfl (by omega)))
      obtain ⟨mh, rh, eh, hmh⟩ : ∃ mh rh eh, Hepy.move (cells h) [a] = (mh, rh, eh) := ⟨_, _, _, rfl⟩
      have HMH := Lib.hid hmh
      rw [hmh] at HMA HAL2
      have HBW := Lib.hid BW.out
      clear s0 s1 AA BW bsr hmh HAL
      go_wp2_with (refine wpList_load_row rfl 31 (.tmp 5) rfl w.heap.size rfl _ (vc a) (0, 0) _ bai Try.underlying31 rfl info_val ?_)
      refine (HMA.out).mono ?_
      rintro en w1 ⟨v1, v2, h1, rfl, hch1, hrd1, hrr1, hb1⟩
      have hzwi : wi.heap.size ≤ (wi.alloc (.cells (vc a) 31)).heap.size := by simp
      have hbi : Below wi.heap.size wi w1 := (below1 wi (.cells (vc a) 31)).trans (hb1.mono hzwi)
      have HU1 := Lib.hid (HUr.out.trans (hbi.mono hzi))
      have bb1 := HBBi.out.below hbi HBBi.out.lt
      have HRD1 := Lib.hid hrd1
      have HRR1 := Lib.hid hrr1
      have HCH1 := Lib.hid hch1
      obtain ⟨A3, cap3, rfl, _⟩ := hrd1.r
      obtain ⟨A4, cap4, rfl, _⟩ := hrr1
      have hz1 := HU1.out.size
      clear hrd1 hb1 hbi hch1 bai HMA
      simp only
      by_cases y1 : eh = 0
      · subst y1
        have g1 : (((0 : Nat) : Int) != 0) = false := by simp
        have HMB := Lib.hid (HM2.out (w1.alloc (.cells (vc b) 31)) (.slice (some ⟨w1.heap.size, 0, none⟩) 1 1) (HU1.out.trans ((below1 w1 _).mono hz1)) (rd_box (Box.new w1 _ _) (by rfl) rfl (by omega)))
        obtain ⟨mk, rk, ek, hmk⟩ : ∃ mk rk ek, Hepy.move (cells k) [b] = (mk, rk, ek) := ⟨_, _, _, rfl⟩
        have HMK := Lib.hid hmk
        rw [hmk] at HMB HAL2
        clear hmk
        go_wp2_with (refine wpList_load_row rfl 31 (.tmp 7) rfl (w.heap.size + 1) rfl _ (vc b) (0, 0) _ bb1 Try.underlying31 rfl info_val ?_)
        refine (HMB.out).mono ?_
        rintro en w2 ⟨v3, v4, k1, rfl, hck1, hrd2, hrr2, hb2⟩
        have hzw1 : w1.heap.size ≤ (w1.alloc (.cells (vc b) 31)).heap.size := by simp
        have hbi2 : Below w1.heap.size w1 w2 := (below1 w1 (.cells (vc b) 31)).trans (hb2.mono hzw1)
        have HU2 := Lib.hid (HU1.out.trans (hbi2.mono hz1))
        have HRD1b := Lib.hid (HRD1.out.below hbi2)
        have HRR1b := Lib.hid (HRR1.out.below hbi2)
        have HRD2 := Lib.hid hrd2
        have HRR2 := Lib.hid hrr2
        have HCK1 := Lib.hid hck1
        obtain ⟨A5, cap5, rfl, _⟩ := hrd2.r
        obtain ⟨A6, cap6, rfl, _⟩ := hrr2
        clear hrd2 hb2 hbi2 hck1 bb1 HMB HRD1 HRR1
        simp only
        by_cases y2 : ek = 0
        · subst y2
          have hm1 := Hepy.move_zero (h := cells h) (l := [a]) (by rw [HMH.out])
          have hm2 := Hepy.move_zero (h := cells k) (l := [b]) (by rw [HMK.out])
          rw [HMH.out] at hm1
          rw [HMK.out] at hm2
          obtain ⟨q1, q2⟩ := hm1
          obtain ⟨q3, q4⟩ := hm2
          injection q2 with q5 q6
          injection q6 with q6 _
          injection q4 with q7 q8
          injection q8 with q8 _
          have hs1 := Hepy.asked_zero.1 q1
          have hs3 := Hepy.asked_zero.1 q3
          have HS1 : Hid (Shr h1) := shr_of (by rw [HCH1.out]; show ∀ c ∈ mh, _; rw [q5]; exact fun c hc => (Hepy.moved_vals hs1.1 hs1.2 c hc).1)
          have HS2 : Hid (Shr k1) := shr_of (by rw [HCK1.out]; show ∀ c ∈ mk, _; rw [q7]; exact fun c hc => (Hepy.moved_vals hs3.1 hs3.2 c hc).1)
          obtain ⟨ra, hra⟩ : ∃ ra, Hepy.ren (Hepy.pos (Hepy.walked (cells h) [a])) a = ra := ⟨_, rfl⟩
          obtain ⟨rb, hrb⟩ : ∃ rb, Hepy.ren (Hepy.pos (Hepy.walked (cells k) [b])) b = rb := ⟨_, rfl⟩
          have e1 : rh = [ra] := by rw [q6]; unfold Hepy.movedR; rw [← hra]; rfl
          have e2 : rk = [rb] := by rw [q8]; unfold Hepy.movedR; rw [← hrb]; rfl
          subst e1 e2
          have HAL3 : Hid (Hepy.alike (cells h) a (cells k) b = (decide (cells h1 = cells k1) && decide (ra = rb), 0)) := by
            show _ = _
            rw [HAL2.out, HCH1.out, HCK1.out, hra, hrb]; rfl
          have HEQ : Hid (∀ w', Below w2.heap.size w2 w' → Calls Try.prog 25 #[.slice A3 h1.length cap3, .slice A5 k1.length cap5, .func (.func 28) #[] #[]] w' fun e w'' => e = .returned (.bool (decide (cells h1 = cells k1))) ∧ Below w'.heap.size w' w'') := fun w' hb => equalfn_any h1 k1 _ _ 28 w' eg_same1 same1 (HRD1b.out.below hb) (HRD2.out.below hb) HS1.out HS2.out
          obtain ⟨qe, hqe⟩ : ∃ qe, decide (cells h1 = cells k1) = qe := ⟨_, rfl⟩
          rw [hqe] at HEQ HAL3
          obtain ⟨g4, o4, e4, hg4, hrg4⟩ : ∃ g o, A4 = some ⟨g, o, none⟩ ∧ g < w2.heap.size ∧ w2.rangeAt g o (flat vc [ra]) := by
            obtain ⟨A', cap', e', _, _, hr'⟩ := HRR1b.out
            injection e' with e' _ _
            obtain ⟨g, o, e'', hg', hh'⟩ := hr' (by simp)
            exact ⟨g, o, e'.trans e'', hg', hh'⟩
          obtain ⟨g6, o6, e6, hg6, hrg6⟩ : ∃ g o, A6 = some ⟨g, o, none⟩ ∧ g < w2.heap.size ∧ w2.rangeAt g o (flat vc [rb]) := by
            obtain ⟨A', cap', e', _, _, hr'⟩ := HRR2.out
            injection e' with e' _ _
            obtain ⟨g, o, e'', hg', hh'⟩ := hr' (by simp)
            exact ⟨g, o, e'.trans e'', hg', hh'⟩
          subst e4 e6
          have r4 : w2.rangeAt g4 o4 (vc ra).toList := by have := hrg4; simpa [flat] using this
          have r6 : w2.rangeAt g6 o6 (vc rb).toList := by have := hrg6; simpa [flat] using this
          have hnq := fun w => eql_val ra rb w
          obtain ⟨qr, hqr⟩ : ∃ qr, decide (ra = rb) = qr := ⟨_, rfl⟩
          rw [hqr] at hnq HAL3
          have hz2 := HU2.out.size
          clear q1 q3 q5 q6 q7 q8 hs1 hs3 hra hrb hqe hrg4 hrg6 hqr
          go_upto_region 14 with (fail)
          cases qe with
          | true =>
            refine wp_region_held_drew (S := fun w' => Below w2.heap.size w2 w' ∧ w'.rangeAt g4 o4 (vc ra).toList ∧ w'.rangeAt g6 o6 (vc rb).toList) (by kernel_rfl) ⟨(Below.refl _ w2).drew, r4, r6⟩ (fun hHeld => ?_)
            refine wpAnyH_take (i := 0) (v := ?_) rfl (by kernel_rfl) (by kernel_rfl) (by kernel_rfl) (fun _ _ _ h => h) (Or.inl ⟨by kernel_rfl, ?_⟩) (by assumption) ?_
            rotate_left
            · intro w hSw
              (try dsimp only at hSw)
              go_simp
              try (with_reducible rfl)
            (try simp only [Act.put, List.getElem_toArray, List.getElem_cons_zero, List.setIfInBounds_toArray, List.set_cons_zero, List.set_cons_succ])
            refine wpAnyH_take (i := 1) (v := ?_) rfl (by kernel_rfl) (by kernel_rfl) (by kernel_rfl) (fun _ _ _ h => h) (Or.inl ⟨by kernel_rfl, ?_⟩) (by assumption) ?_
            rotate_left
            · intro w hSw
              (try dsimp only at hSw)
              go_simp
              try (with_reducible rfl)
            (try simp only [Act.put, List.getElem_toArray, List.getElem_cons_succ, List.getElem_cons_zero, List.setIfInBounds_toArray, List.set_cons_zero, List.set_cons_succ])
            refine wpAnyH_ready (rs := [2]) (by kernel_rfl) (by simp) ?_
            refine AllReadyH.cons rfl (fun K hK => ?_) AllReadyH.nil
            go_simp
            refine (HEQ.out _ hHeld.1).mono ?_
            rintro en w3 ⟨rfl, hb3⟩
            go_wp2_with (fail)
            refine hK.out _ _ ?_ (fun hHeld => ?_)
            · exact ⟨hHeld.1.trans (hb3.mono hHeld.1.size), fun i u hu => by rw [(hHeld.1.trans (hb3.mono hHeld.1.size)).cell (p := ⟨g4, o4 + i, none⟩) hg4]; exact r4 i u hu, fun i u hu => by rw [(hHeld.1.trans (hb3.mono hHeld.1.size)).cell (p := ⟨g6, o6 + i, none⟩) hg6]; exact r6 i u hu⟩
            clear hK K
            (try simp only [Act.put, List.getElem_toArray, List.getElem_cons_succ, List.getElem_cons_zero, List.setIfInBounds_toArray, List.set_cons_zero, List.set_cons_succ])
            refine wpAnyH_take (i := 3) (v := ?_) rfl (by kernel_rfl) (by kernel_rfl) (by kernel_rfl) (fun _ _ _ h => h) (Or.inl ⟨by kernel_rfl, ?_⟩) (by assumption) ?_
            rotate_left
            · intro w hSw
              (try dsimp only at hSw)
              go_simp
              try (with_reducible rfl)
            (try simp only [Act.put, List.getElem_toArray, List.getElem_cons_succ, List.getElem_cons_zero, List.setIfInBounds_toArray, List.set_cons_zero, List.set_cons_succ])
            refine wpAnyH_take (i := 4) (v := ?_) rfl (by kernel_rfl) (by kernel_rfl) (by kernel_rfl) (fun _ _ _ h => h) (Or.inl ⟨by kernel_rfl, ?_⟩) (by assumption) ?_
            rotate_left
            · intro w hSw
              (try dsimp only at hSw)
              go_simp
              try (with_reducible rfl)
            (try simp only [Act.put, List.getElem_toArray, List.getElem_cons_succ, List.getElem_cons_zero, List.setIfInBounds_toArray, List.set_cons_zero, List.set_cons_succ])
            refine wpAnyH_take (i := 5) (v := ?_) rfl (by kernel_rfl) (by kernel_rfl) (by kernel_rfl) (fun _ _ _ h => h) (Or.inl ⟨by kernel_rfl, ?_⟩) (by assumption) ?_
            rotate_left
            · intro w hSw
              (try dsimp only at hSw)
              go_simp
              try (with_reducible rfl)
            (try simp only [Act.put, List.getElem_toArray, List.getElem_cons_succ, List.getElem_cons_zero, List.setIfInBounds_toArray, List.set_cons_zero, List.set_cons_succ])
            refine wpAnyH_take (i := 6) (v := _) rfl (by kernel_rfl) (by kernel_rfl) (by kernel_rfl) (fun _ _ _ h => h) (yieldsIf_load_mid (by kernel_rfl) 31 (.tmp 59) rfl (g4) o4 rfl ((vc ra).toList) _ (fun _ h => h.2.1) Try.underlying31 rfl info_val) (by assumption) ?_
            (try simp only [Act.put, List.getElem_toArray, List.getElem_cons_succ, List.getElem_cons_zero, List.setIfInBounds_toArray, List.set_cons_zero, List.set_cons_succ])
            refine wpAnyH_take (i := 7) (v := ?_) rfl (by kernel_rfl) (by kernel_rfl) (by kernel_rfl) (fun _ _ _ h => h) (Or.inl ⟨by kernel_rfl, ?_⟩) (by assumption) ?_
            rotate_left
            · intro w hSw
              (try dsimp only at hSw)
              go_simp
              try (with_reducible rfl)
            (try simp only [Act.put, List.getElem_toArray, List.getElem_cons_succ, List.getElem_cons_zero, List.setIfInBounds_toArray, List.set_cons_zero, List.set_cons_succ])
            refine wpAnyH_take (i := 8) (v := ?_) rfl (by kernel_rfl) (by kernel_rfl) (by kernel_rfl) (fun _ _ _ h => h) (Or.inl ⟨by kernel_rfl, ?_⟩) (by assumption) ?_
            rotate_left
            · intro w hSw
              (try dsimp only at hSw)
              go_simp
              try (with_reducible rfl)
            (try simp only [Act.put, List.getElem_toArray, List.getElem_cons_succ, List.getElem_cons_zero, List.setIfInBounds_toArray, List.set_cons_zero, List.set_cons_succ])
            refine wpAnyH_take (i := 9) (v := _) rfl (by kernel_rfl) (by kernel_rfl) (by kernel_rfl) (fun _ _ _ h => h) (yieldsIf_load_mid (by kernel_rfl) 31 (.tmp 62) rfl (g6) o6 rfl ((vc rb).toList) _ (fun _ h => h.2.2) Try.underlying31 rfl info_val) (by assumption) ?_
            (try simp only [Act.put, List.getElem_toArray, List.getElem_cons_succ, List.getElem_cons_zero, List.setIfInBounds_toArray, List.set_cons_zero, List.set_cons_succ])
            refine wpAnyH_take (i := 10) (v := ?_) rfl (by kernel_rfl) (by kernel_rfl) (by kernel_rfl) (fun _ _ _ h => h) (Or.inl ⟨by kernel_rfl, ?_⟩) (by assumption) ?_
            rotate_left
            · intro w hSw
              (try dsimp only at hSw)
              go_simp
              try (with_reducible rfl)
            (try simp only [Act.put, List.getElem_toArray, List.getElem_cons_succ, List.getElem_cons_zero, List.setIfInBounds_toArray, List.set_cons_zero, List.set_cons_succ])
            refine wpAnyH_take (i := 11) (v := ?_) rfl (by kernel_rfl) (by kernel_rfl) (by kernel_rfl) (fun _ _ _ h => h) (Or.inl ⟨by kernel_rfl, ?_⟩) (by assumption) ?_
            rotate_left
            · intro w hSw
              (try dsimp only at hSw)
              go_simp
              try (with_reducible rfl)
            (try simp only [Act.put, List.getElem_toArray, List.getElem_cons_succ, List.getElem_cons_zero, List.setIfInBounds_toArray, List.set_cons_zero, List.set_cons_succ])
            refine wpAnyH_take (i := 12) (v := ?_) rfl (by kernel_rfl) (by kernel_rfl) (by kernel_rfl) (fun _ _ _ h => h) (Or.inl ⟨by kernel_rfl, ?_⟩) (by assumption) ?_
            rotate_left
            · intro w hSw
              (try dsimp only at hSw)
              go_simp
              try (with_reducible rfl)
            (try simp only [Act.put, List.getElem_toArray, List.getElem_cons_succ, List.getElem_cons_zero, List.setIfInBounds_toArray, List.set_cons_zero, List.set_cons_succ])
            refine wpAnyH_take (i := 13) (v := ?_) rfl (by kernel_rfl) (by kernel_rfl) (by kernel_rfl) (fun _ _ _ h => h) (Or.inl ⟨by kernel_rfl, ?_⟩) (by assumption) ?_
            rotate_left
            · intro w hSw
              (try dsimp only at hSw)
              go_simp
              try (with_reducible rfl)
            (try simp only [Act.put, List.getElem_toArray, List.getElem_cons_succ, List.getElem_cons_zero, List.setIfInBounds_toArray, List.set_cons_zero, List.set_cons_succ])
            refine wpAnyH_done (by kernel_rfl) ?_ _
            go_wp2
            go_returns
            exact ⟨by rw [HAL3.out]; rfl, HU2.out.trans (hHeld.1.mono hz2)⟩
          | false =>
            refine wp_region_held_drew (S := fun w' => Below w2.heap.size w2 w' ∧ w'.rangeAt g4 o4 (vc ra).toList ∧ w'.rangeAt g6 o6 (vc rb).toList) (by kernel_rfl) ⟨(Below.refl _ w2).drew, r4, r6⟩ (fun hHeld => ?_)
            refine wpAnyH_take (i := 0) (v := ?_) rfl (by kernel_rfl) (by kernel_rfl) (by kernel_rfl) (fun _ _ _ h => h) (Or.inl ⟨by kernel_rfl, ?_⟩) (by assumption) ?_
            rotate_left
            · intro w hSw
              (try dsimp only at hSw)
              go_simp
              try (with_reducible rfl)
            (try simp only [Act.put, List.getElem_toArray, List.getElem_cons_zero, List.setIfInBounds_toArray, List.set_cons_zero, List.set_cons_succ])
            refine wpAnyH_take (i := 1) (v := ?_) rfl (by kernel_rfl) (by kernel_rfl) (by kernel_rfl) (fun _ _ _ h => h) (Or.inl ⟨by kernel_rfl, ?_⟩) (by assumption) ?_
            rotate_left
            · intro w hSw
              (try dsimp only at hSw)
              go_simp
              try (with_reducible rfl)
            (try simp only [Act.put, List.getElem_toArray, List.getElem_cons_succ, List.getElem_cons_zero, List.setIfInBounds_toArray, List.set_cons_zero, List.set_cons_succ])
            refine wpAnyH_ready (rs := [2]) (by kernel_rfl) (by simp) ?_
            refine AllReadyH.cons rfl (fun K hK => ?_) AllReadyH.nil
            go_simp
            refine (HEQ.out _ hHeld.1).mono ?_
            rintro en w3 ⟨rfl, hb3⟩
            go_wp2_with (fail)
            refine hK.out _ _ ?_ (fun hHeld => ?_)
            · exact ⟨hHeld.1.trans (hb3.mono hHeld.1.size), fun i u hu => by rw [(hHeld.1.trans (hb3.mono hHeld.1.size)).cell (p := ⟨g4, o4 + i, none⟩) hg4]; exact r4 i u hu, fun i u hu => by rw [(hHeld.1.trans (hb3.mono hHeld.1.size)).cell (p := ⟨g6, o6 + i, none⟩) hg6]; exact r6 i u hu⟩
            clear hK K
            (try simp only [Act.put, List.getElem_toArray, List.getElem_cons_succ, List.getElem_cons_zero, List.setIfInBounds_toArray, List.set_cons_zero, List.set_cons_succ])
            refine wpAnyH_take (i := 3) (v := ?_) rfl (by kernel_rfl) (by kernel_rfl) (by kernel_rfl) (fun _ _ _ h => h) (Or.inl ⟨by kernel_rfl, ?_⟩) (by assumption) ?_
            rotate_left
            · intro w hSw
              (try dsimp only at hSw)
              go_simp
              try (with_reducible rfl)
            (try simp only [Act.put, List.getElem_toArray, List.getElem_cons_succ, List.getElem_cons_zero, List.setIfInBounds_toArray, List.set_cons_zero, List.set_cons_succ])
            refine wpAnyH_take (i := 4) (v := undef) rfl (by kernel_rfl) (by kernel_rfl) (by kernel_rfl) (fun _ _ _ h => h) (Or.inr ⟨by kernel_rfl, rfl⟩) (by assumption) ?_
            (try simp only [Act.put, List.getElem_toArray, List.getElem_cons_succ, List.getElem_cons_zero, List.setIfInBounds_toArray, List.set_cons_zero, List.set_cons_succ])
            refine wpAnyH_take (i := 5) (v := undef) rfl (by kernel_rfl) (by kernel_rfl) (by kernel_rfl) (fun _ _ _ h => h) (Or.inr ⟨by kernel_rfl, rfl⟩) (by assumption) ?_
            (try simp only [Act.put, List.getElem_toArray, List.getElem_cons_succ, List.getElem_cons_zero, List.setIfInBounds_toArray, List.set_cons_zero, List.set_cons_succ])
            refine wpAnyH_take (i := 6) (v := undef) rfl (by kernel_rfl) (by kernel_rfl) (by kernel_rfl) (fun _ _ _ h => h) (Or.inr ⟨by kernel_rfl, rfl⟩) (by assumption) ?_
            (try simp only [Act.put, List.getElem_toArray, List.getElem_cons_succ, List.getElem_cons_zero, List.setIfInBounds_toArray, List.set_cons_zero, List.set_cons_succ])
            refine wpAnyH_take (i := 7) (v := undef) rfl (by kernel_rfl) (by kernel_rfl) (by kernel_rfl) (fun _ _ _ h => h) (Or.inr ⟨by kernel_rfl, rfl⟩) (by assumption) ?_
            (try simp only [Act.put, List.getElem_toArray, List.getElem_cons_succ, List.getElem_cons_zero, List.setIfInBounds_toArray, List.set_cons_zero, List.set_cons_succ])
            refine wpAnyH_take (i := 8) (v := undef) rfl (by kernel_rfl) (by kernel_rfl) (by kernel_rfl) (fun _ _ _ h => h) (Or.inr ⟨by kernel_rfl, rfl⟩) (by assumption) ?_
            (try simp only [Act.put, List.getElem_toArray, List.getElem_cons_succ, List.getElem_cons_zero, List.setIfInBounds_toArray, List.set_cons_zero, List.set_cons_succ])
            refine wpAnyH_take (i := 9) (v := undef) rfl (by kernel_rfl) (by kernel_rfl) (by kernel_rfl) (fun _ _ _ h => h) (Or.inr ⟨by kernel_rfl, rfl⟩) (by assumption) ?_
            (try simp only [Act.put, List.getElem_toArray, List.getElem_cons_succ, List.getElem_cons_zero, List.setIfInBounds_toArray, List.set_cons_zero, List.set_cons_succ])
            refine wpAnyH_take (i := 10) (v := undef) rfl (by kernel_rfl) (by kernel_rfl) (by kernel_rfl) (fun _ _ _ h => h) (Or.inr ⟨by kernel_rfl, rfl⟩) (by assumption) ?_
            (try simp only [Act.put, List.getElem_toArray, List.getElem_cons_succ, List.getElem_cons_zero, List.setIfInBounds_toArray, List.set_cons_zero, List.set_cons_succ])
            refine wpAnyH_take (i := 11) (v := ?_) rfl (by kernel_rfl) (by kernel_rfl) (by kernel_rfl) (fun _ _ _ h => h) (Or.inl ⟨by kernel_rfl, ?_⟩) (by assumption) ?_
            rotate_left
            · intro w hSw
              (try dsimp only at hSw)
              go_simp
              try (with_reducible rfl)
            (try simp only [Act.put, List.getElem_toArray, List.getElem_cons_succ, List.getElem_cons_zero, List.setIfInBounds_toArray, List.set_cons_zero, List.set_cons_succ])
            refine wpAnyH_take (i := 12) (v := ?_) rfl (by kernel_rfl) (by kernel_rfl) (by kernel_rfl) (fun _ _ _ h => h) (Or.inl ⟨by kernel_rfl, ?_⟩) (by assumption) ?_
            rotate_left
            · intro w hSw
              (try dsimp only at hSw)
              go_simp
              try (with_reducible rfl)
            (try simp only [Act.put, List.getElem_toArray, List.getElem_cons_succ, List.getElem_cons_zero, List.setIfInBounds_toArray, List.set_cons_zero, List.set_cons_succ])
            refine wpAnyH_take (i := 13) (v := ?_) rfl (by kernel_rfl) (by kernel_rfl) (by kernel_rfl) (fun _ _ _ h => h) (Or.inl ⟨by kernel_rfl, ?_⟩) (by assumption) ?_
            rotate_left
            · intro w hSw
              (try dsimp only at hSw)
              go_simp
              try (with_reducible rfl)
            (try simp only [Act.put, List.getElem_toArray, List.getElem_cons_succ, List.getElem_cons_zero, List.setIfInBounds_toArray, List.set_cons_zero, List.set_cons_succ])
            refine wpAnyH_done (by kernel_rfl) ?_ _
            go_wp2
            go_returns
            exact ⟨by rw [HAL3.out]; rfl, HU2.out.trans (hHeld.1.mono hz2)⟩
        · have g2 : ((ek : Int) != 0) = true := by simp; omega
          have Y := Lib.hid y2
          clear y2
          go_wp2
          go_returns
          exact ⟨by rw [HAL2.out, if_neg (by simp), if_pos Y.out]; rfl, HU2.out⟩
      · have g1 : ((eh : Int) != 0) = true := by simp; omega
        have Y := Lib.hid y1
        clear y1
        go_wp2
        go_returns
        exact ⟨by rw [HAL2.out, if_pos Y.out]; rfl, HU1.out⟩
end Go.Proofs.Ytbhccidchjmjlaa
