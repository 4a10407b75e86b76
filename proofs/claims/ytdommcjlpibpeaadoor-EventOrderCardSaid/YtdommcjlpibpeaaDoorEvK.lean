/-
  The steps of a way. Conditions: the path reads as a list of 1 to 1000 numbers.
-/
import Derived.Test.YtdommcjlpibpeaaDoorEvJ
namespace Go.Proofs.YtdommcjlpibpeaaDoor
set_option linter.unusedSimpArgs false
set_option linter.unusedVariables false
open Go.RowKit

theorem gen_world {P : Program} {c : Code} {Q : Exit → Act → World → Prop} {a : Act} {w0 : World} {F : World → Prop} (hf : F w0) (h : ∀ W, F W → Code.wp P c Q a W) : Code.wp P c Q a w0 := h w0 hf
theorem _root_.Go.Proofs.YtdommcjlpibpeaaDoor.Box.keep {w w1 : World} {b B : Nat} {t : TypeId} {cs : Array Value} (h : Box w b t cs) (hb : Below B w w1) (hB : b < B) : Box w1 b t cs := (hb.block b hB).trans h
theorem parts_stp : (Tryd.prog.info? 66).map (fun i => (i.zero, i.size, i.bytes)) = some (some (.agg #[.int .i64 0, .int .i64 0, .bool false]), 3, 24) := by kernel_rfl
theorem egP : ∀ args w, (callFunc 35 args).run Tryd.prog w = .ok (.enter 35 args) w := Go.Proofs.enters_of Tryd.func35 (by kernel_rfl) rfl
set_option maxHeartbeats 400000 in
theorem phase_any (L k : Nat) (o : Int) (b : Nat) (w : World) (hc : w.cell? ⟨b, 0, none⟩ = some (.int .i64 (L : Int))) :
    Calls Tryd.prog 35 #[.int .i64 (k : Int), .int .i64 o, .pointer (some ⟨b, 0, none⟩)] w fun e w' => e = .returned (.int .i64 (Evy.phase L k o)) ∧ w' = w := by
  by_cases h : k = L
  · have h1 : ((k : Int) == (L : Int)) = true := by simp [h]
    have h1N : (k == L) = true := by simp [h]
    have H := Lib.hid h
    clear h
    go_enter Tryd.func35, Tryd.ntmps35
    go_wp2
    go_ret
    exact ⟨ret_int (by unfold Evy.phase; rw [if_pos H.out]), rfl⟩
  · have h1 : ((k : Int) == (L : Int)) = false := by rw [beq_eq_false_iff_ne]; omega
    have h1N : (k == L) = false := by rw [beq_eq_false_iff_ne]; exact h
    have H := Lib.hid h
    clear h
    go_enter Tryd.func35, Tryd.ntmps35
    go_wp2
    go_ret
    exact ⟨ret_int (by unfold Evy.phase; rw [if_neg H.out]), rfl⟩
theorem downs_step {L : Nat} : ∀ (p : List Int) (k : Nat) (n : Int) (j : Nat), p[j]? = some n → Evy.downs L k (p.take (j + 1)) = Evy.downs L k (p.take j) ++ [⟨n, Evy.phase L (k + j) 1, true⟩]
  | [], _, _, _, h => by simp at h
  | a :: p, k, n, 0, h => by simp at h; subst h; simp [Evy.downs]
  | a :: p, k, n, j + 1, h => by
    have := downs_step (L := L) p (k + 1) n j (by simpa using h)
    simp only [List.take_succ_cons, Evy.downs, List.cons_append]
    rw [this, show k + 1 + j = k + (j + 1) by omega]
theorem downs_len {L : Nat} : ∀ (p : List Int) (k : Nat), (Evy.downs L k p).length = p.length
  | [], _ => rfl
  | a :: p, k => by simp [Evy.downs, downs_len p]
/-- what remains of the way up from place t (or none). -/
def upsFrom (p : List Int) (b : Bool) (t : Int) : List Evy.Stp := if 0 ≤ t then Evy.ups p (p.length - 1) b t.toNat else []
theorem ups_no {p : List Int} {b : Bool} {k : Nat} (h : b = false) (hk : k ≠ p.length - 1) : upsFrom p b (k : Int) = [] := by
  unfold upsFrom
  rw [if_pos (by omega), Int.toNat_natCast, h]
  cases k with
  | zero => rw [Evy.ups, if_neg (by simp; omega)]
  | succ k => rw [Evy.ups, if_neg (by simp; omega)]
theorem ups_yes {p : List Int} {b : Bool} {k : Nat} {n : Int} (hn : p[k]? = some n) (h : b = true ∨ k = p.length - 1) : upsFrom p b (k : Int) = ⟨n, Evy.phase (p.length - 1) k 3, false⟩ :: upsFrom p b ((k : Int) - 1) := by
  unfold upsFrom
  rw [if_pos (by omega), Int.toNat_natCast]
  have hg : p.getD k 0 = n := by simp [List.getD, hn]
  cases k with
  | zero => rw [Evy.ups, if_pos (by simp; omega), if_neg (by omega), hg]
  | succ k => rw [Evy.ups, if_pos (by simp; omega), hg, if_pos (by omega), show (((k + 1 : Nat) : Int) - 1).toNat = k by omega]
set_option maxRecDepth 100000 in
set_option maxHeartbeats 4000000 in
theorem steps_any (p : List Int) (v : Value) (b : Bool) (w : World) (hp : RdL w 1 ic p v) (h0 : 0 < p.length) (h1 : p.length ≤ 1000) :
    Calls Tryd.prog 27 #[v, .bool b] w fun e w' => OwnOut w 66 3 (Evy.steps p b).length (flat sc (Evy.steps p b)) e w' := by
  obtain ⟨i0, hi0, hz0, hz1, hz2⟩ := info_parts parts_stp
  have HP := Lib.hid hp
  obtain ⟨A, cap, rfl, hc1, hc2, hrow⟩ := hp
  obtain ⟨g0, o0, rfl, hg0, hrg⟩ := hrow h0
  have HRG := Lib.hid hrg
  obtain ⟨L, hL⟩ : ∃ L, p.length = L + 1 := ⟨p.length - 1, by omega⟩
  have hst : Hid (Evy.steps p b = Evy.downs L 0 p ++ upsFrom p b (L : Int)) := by
    show _ = _
    unfold Evy.steps upsFrom
    rw [if_neg (by intro e; rw [e] at hL; simp at hL), if_pos (by omega), Int.toNat_natCast, hL]
    rfl
  have HLL := Lib.hid hL
  have hlm : (p.length : Int) - 1 = (L : Int) := by omega
  clear hrow hrg hL
  go_enter Tryd.func27, Tryd.ntmps27
  go_upto_region 2 with (fail)
  refine gen_world (F := fun W => Box W w.heap.size 3 #[.int .i64 (L : Int)] ∧ Below w.heap.size w W) ⟨Box.new w 3 #[.int .i64 (L : Int)], below1 w _⟩ ?_
  rintro W ⟨b5, hU⟩
  have hzW := b5.lt
  have eg := egP
  go_upto_region 5 with (fail)
  go_loopg [7, 17] p.length (fun gg s7 s17 wr => ∃ (k : Nat) (acc : List Evy.Stp) (A2 : Option Addr) (cap2 : Nat), k ≤ p.length ∧ p.length - k ≤ gg ∧ s7 = .slice A2 acc.length cap2 ∧ s17 = .int .i64 (k : Int) ∧ acc.length = k ∧ Hid (acc = Evy.downs L 0 (p.take k)) ∧ Hid (Below W.heap.size W wr) ∧ Hid (wr.ownsRow W.heap.size 66 3 (.slice A2 acc.length cap2) acc.length (flat sc acc)))
  case atStart => exact ⟨0, [], none, 0, Nat.zero_le _, by omega, rfl, rfl, rfl, rfl, Below.refl _ _, World.ownsRow_nil _ _ _ _⟩
  case round =>
    obtain ⟨k, acc, A2, cap2, hk, hg, rfl, rfl, hak, HA, BW, OW⟩ := hrel
    have b5r := b5.below BW.out b5.lt
    have hwr : Hid (Below w.heap.size w wr) := hU.trans (BW.out.mono hU.size)
    have hzr := BW.out.size
    by_cases hlt : k < p.length
    · have hlt2 : decide ((k : Int) < (p.length : Int)) = true := by simp; omega
      have hltz : (k : Int) < (p.length : Int) := by omega
      obtain ⟨n, hn⟩ : ∃ n, p[k]? = some n := ⟨_, List.getElem?_eq_getElem hlt⟩
      have cn := (hwr.out.cell (p := ⟨g0, o0 + k, none⟩) hg0).trans (by have := RdL.elem (k := 1) (f := ic) (fun _ => rfl) HRG.out hn 0 _ rfl; simpa using this)
      have HPH : Hid (∀ w', Box w' w.heap.size 3 #[.int .i64 (L : Int)] → Calls Tryd.prog 35 (#[.int .i64 (k : Int), .int .i64 1] ++ #[.pointer (some ⟨w.heap.size, 0, none⟩)]) w' fun e w'' => e = .returned (.int .i64 (Evy.phase L k 1)) ∧ w'' = w') := fun w' h => phase_any L k 1 w.heap.size w' (h.cell 0)
      have hds := downs_step (L := L) p 0 n k hn
      rw [Nat.zero_add] at hds
      obtain ⟨ph, hph⟩ : ∃ x, Evy.phase L k 1 = x := ⟨_, rfl⟩
      rw [hph] at HPH hds
      have HDS := Lib.hid hds
      have hown := OW.out
      have hlts := Lib.hid hown.lt
      have HO := Lib.hid hown
      have hk1 : acc.length ≤ 1000 := by omega
      have HAK := Lib.hid hak
      clear hn hds hph hown hak
      go_wp2_with (fail)
      refine (HPH.out wr b5r).mono ?_
      rintro e w1 ⟨rfl, hw⟩
      have hw2 := hw.symm
      subst hw2
      clear HPH hw cn b5r
      go_wp2_with (at_builtin; (refine wpList_append_lies _ rfl (.tmp 22) (.tmp 28) 63 rfl W.heap.size 66 i0 _ 3 24 Tryd.underlying63 hi0 hz0 hz1 hz2 rfl (by decide) _ acc.length (flat sc acc) rfl (HO.out.alloc _) ⟨wr.heap.size, 0, none⟩ 1 1 (sc ⟨n, ph, true⟩).toList rfl rfl (World.news_of_block (Box.new wr _ _)) (by simp [Value.oneCell']) (by omega) (by unfold maxLen; omega) (by omega) (by simp; omega) (wr.heap.size + 1) (by simp) ?_); intro g7 cap7 w7 hown7 hgr7 hor7 hlt7)
      have hb7 : Below W.heap.size W w7 := (BW.out.alloc hzr _).trans (below_grown hgr7 (by simp; omega) (fun j hj => (hlts.out j hj).1))
      go_roundg (p.length - (k + 1))
      case measure => omega
      case rel =>
        refine ⟨k + 1, acc ++ [⟨n, ph, true⟩], some ⟨g7, 0, none⟩, cap7, by omega, by omega, by simp, by go_num, by have := HAK.out; simp; omega, ?_, hb7, ?_⟩
        · show _ = _
          rw [HDS.out, ← HA.out]
        · show World.ownsRow _ _ _ _ _ _ _
          rw [flat_append]; simpa [flat] using hown7
    · have hlt2 : decide ((k : Int) < (p.length : Int)) = false := by simp; omega
      have HS0 : Hid (Evy.steps p b = acc ++ upsFrom p b (L : Int)) := by show _ = _; rw [hst.out, HA.out, List.take_of_length_le (by omega)]
      have hal : acc.length = p.length := by omega
      obtain ⟨wo, rfl⟩ : ∃ wo : World, wo = wr := ⟨_, rfl⟩
      have OW0 := Lib.hid OW.out
      have cl := b5r.cell 0
      simp at cl
      have HALP := Lib.hid hal
      have hk0 : acc.length ≤ 1000 := by omega
      clear HA hal hak
      go_upto_region 10 with (fail)
      clear cl
      go_loopg [7, 10] (L + 1) (fun gg s7 s10 wr => ∃ (t : Int) (acc : List Evy.Stp) (A2 : Option Addr) (cap2 : Nat), -1 ≤ t ∧ t ≤ (L : Int) ∧ (t + 1).toNat ≤ gg ∧ s7 = .slice A2 acc.length cap2 ∧ s10 = .int .i64 t ∧ (acc.length : Int) + t ≤ 3000 ∧ acc.length ≤ 3001 ∧ Hid (Evy.steps p b = acc ++ upsFrom p b t) ∧ Hid (Below W.heap.size W wr) ∧ Hid (wr.ownsRow W.heap.size 66 3 (.slice A2 acc.length cap2) acc.length (flat sc acc)))
      case atStart => exact ⟨(L : Int), acc, A2, cap2, by omega, by omega, by omega, rfl, rfl, by have := HLL.out; omega, by omega, HS0.out, BW.out, OW0.out⟩
      case round =>
        obtain ⟨t, acc, A2, cap2, ht1, ht2, hg2, rfl, rfl, hal3, hal4, HS, BW2, OW2⟩ := hrel
        have b52 := b5.below BW2.out b5.lt
        have hwr2 : Hid (Below w.heap.size w wr) := hU.trans (BW2.out.mono hU.size)
        have hzr2 := BW2.out.size
        have cl := b52.cell 0
        simp at cl
        by_cases y1 : t ≥ 0
        · have d1 : decide (t ≥ 0) = true := decide_eq_true y1
          obtain ⟨k2, rfl⟩ : ∃ k2 : Nat, t = (k2 : Int) := ⟨t.toNat, by omega⟩
          have d1N : decide (0 ≤ (k2 : Int)) = true := by simp
          obtain ⟨n, hn⟩ : ∃ n, p[k2]? = some n := ⟨_, List.getElem?_eq_getElem (by have := HLL.out; omega)⟩
          by_cases y2 : b = true ∨ k2 = L
          · have huy := ups_yes (b := b) hn (by have := HLL.out; rcases y2 with h | h; exact .inl h; exact .inr (by omega))
            rw [show p.length - 1 = L from by have := HLL.out; omega] at huy
            have HUY := Lib.hid huy
            have cn := (hwr2.out.cell (p := ⟨g0, o0 + k2, none⟩) hg0).trans (by have := RdL.elem (k := 1) (f := ic) (fun _ => rfl) HRG.out hn 0 _ rfl; simpa using this)
            have hkz : (k2 : Int) < (p.length : Int) := by have := HLL.out; omega
            have HPH : Hid (∀ w', Box w' w.heap.size 3 #[.int .i64 (L : Int)] → Calls Tryd.prog 35 #[.int .i64 (k2 : Int), .int .i64 3, .pointer (some ⟨w.heap.size, 0, none⟩)] w' fun e w'' => e = .returned (.int .i64 (Evy.phase L k2 3)) ∧ w'' = w') := fun w' h => phase_any L k2 3 w.heap.size w' (h.cell 0)
            have HSN : Hid (Evy.steps p b = (acc ++ [⟨n, Evy.phase L k2 3, false⟩]) ++ upsFrom p b ((k2 : Int) - 1)) := by show _ = _; rw [HS.out, HUY.out]; simp
            obtain ⟨ph, hph⟩ : ∃ x, Evy.phase L k2 3 = x := ⟨_, rfl⟩
            rw [hph] at HPH HSN
            have hown2 := OW2.out
            have hlts2 := Lib.hid hown2.lt
            have HO2 := Lib.hid hown2
            have HB5 := Lib.hid b52
            have BWR2 := Lib.hid BW2.out
            clear hn huy hph hown2 HUY
            cases b with
            | true =>
              clear y2
              go_upto_region 12 with (fail)
              refine wp_region_held_drew (S := fun w' => Below W.heap.size W w' ∧ w'.cell? ⟨g0, o0 + k2, none⟩ = some (.int .i64 n) ∧ Box w' w.heap.size 3 #[.int .i64 (L : Int)]) (by kernel_rfl) ⟨BWR2.out.drew, cn, HB5.out.drew⟩ (fun hHeld => ?_)
              refine wpAnyH_take (i := 0) (v := ?_) rfl (by kernel_rfl) (by kernel_rfl) (by kernel_rfl) (fun _ _ _ h => h) (Or.inl ⟨by kernel_rfl, ?_⟩) (by assumption) ?_
              rotate_left
              · intro w hSw
                (try dsimp only at hSw)
                go_simp
                try (with_reducible rfl)
              (try simp only [Act.put, List.getElem_toArray, List.getElem_cons_zero, List.setIfInBounds_toArray, List.set_cons_zero, List.set_cons_succ])
              refine wpAnyH_take (i := 1) (v := ?_) rfl (by kernel_rfl) (by kernel_rfl) (by kernel_rfl) (fun _ _ _ h => h) (Or.inl ⟨by kernel_rfl, ?_⟩) (by assumption) ?_
              rotate_left
              · intro w hSw
                (try dsimp only at hSw)
                go_simp
                try (with_reducible rfl)
              (try simp only [Act.put, List.getElem_toArray, List.getElem_cons_succ, List.getElem_cons_zero, List.setIfInBounds_toArray, List.set_cons_zero, List.set_cons_succ])
              refine wpAnyH_take (i := 2) (v := ?_) rfl (by kernel_rfl) (by kernel_rfl) (by kernel_rfl) (fun _ _ _ h => h) (Or.inl ⟨by kernel_rfl, ?_⟩) (by assumption) ?_
              rotate_left
              · intro w hSw
                (try dsimp only at hSw)
                go_simp
                try (with_reducible rfl)
              (try simp only [Act.put, List.getElem_toArray, List.getElem_cons_succ, List.getElem_cons_zero, List.setIfInBounds_toArray, List.set_cons_zero, List.set_cons_succ])
              refine wpAnyH_take (i := 3) (v := ?_) rfl (by kernel_rfl) (by kernel_rfl) (by kernel_rfl) (fun _ _ _ h => h) (Or.inl ⟨by kernel_rfl, ?_⟩) (by assumption) ?_
              rotate_left
              · intro w hSw
                (try dsimp only at hSw)
                go_simp
                try (with_reducible rfl)
              (try simp only [Act.put, List.getElem_toArray, List.getElem_cons_succ, List.getElem_cons_zero, List.setIfInBounds_toArray, List.set_cons_zero, List.set_cons_succ])
              refine wpAnyH_take (i := 4) (v := ?_) rfl (by kernel_rfl) (by kernel_rfl) (by kernel_rfl) (fun _ _ _ h => h) (Or.inl ⟨by kernel_rfl, ?_⟩) (by assumption) ?_
              rotate_left
              · intro w hSw
                (try dsimp only at hSw)
                go_simp
                try (with_reducible rfl)
              (try simp only [Act.put, List.getElem_toArray, List.getElem_cons_succ, List.getElem_cons_zero, List.setIfInBounds_toArray, List.set_cons_zero, List.set_cons_succ])
              refine wpAnyH_take (i := 5) (v := ?_) rfl (by kernel_rfl) (by kernel_rfl) (by kernel_rfl) (fun _ _ _ h => h) (Or.inl ⟨by kernel_rfl, ?_⟩) (by assumption) ?_
              rotate_left
              · intro w hSw
                (try dsimp only at hSw)
                go_simp
                try (with_reducible rfl)
              (try simp only [Act.put, List.getElem_toArray, List.getElem_cons_succ, List.getElem_cons_zero, List.setIfInBounds_toArray, List.set_cons_zero, List.set_cons_succ])
              refine wpAnyH_take (i := 6) (v := ?_) rfl (by kernel_rfl) (by kernel_rfl) (by kernel_rfl) (fun _ _ _ h => h) (Or.inl ⟨by kernel_rfl, ?_⟩) (by assumption) ?_
              rotate_left
              · intro w hSw
                (try dsimp only at hSw)
                go_simp
                try (with_reducible rfl)
              (try simp only [Act.put, List.getElem_toArray, List.getElem_cons_succ, List.getElem_cons_zero, List.setIfInBounds_toArray, List.set_cons_zero, List.set_cons_succ])
              refine wpAnyH_ready (rs := [7]) (by kernel_rfl) (by simp) ?_
              refine AllReadyH.cons rfl (fun K hK => ?_) AllReadyH.nil
              go_simp
              refine (HPH.out _ hHeld.2.2).mono ?_
              rintro e w6 ⟨rfl, hw⟩
              subst hw
              go_wp2_with (fail)
              refine hK.out _ _ ?_ (fun hHeld => ?_)
              · exact hHeld
              clear hK K
              (try simp only [Act.put, List.getElem_toArray, List.getElem_cons_succ, List.getElem_cons_zero, List.setIfInBounds_toArray, List.set_cons_zero, List.set_cons_succ])
              refine wpAnyH_take (i := 8) (v := ?_) rfl (by kernel_rfl) (by kernel_rfl) (by kernel_rfl) (fun _ _ _ h => h) (Or.inl ⟨by kernel_rfl, ?_⟩) (by assumption) ?_
              rotate_left
              · intro w hSw
                (try dsimp only at hSw)
                go_simp
                try (with_reducible rfl)
              (try simp only [Act.put, List.getElem_toArray, List.getElem_cons_succ, List.getElem_cons_zero, List.setIfInBounds_toArray, List.set_cons_zero, List.set_cons_succ])
              refine wpAnyH_ready (rs := [9]) (by kernel_rfl) (by simp) ?_
              refine AllReadyH.cons rfl (fun K hK => ?_) AllReadyH.nil
              go_simp
              refine hK.out _ _ ⟨hHeld.1.alloc hHeld.1.size _, (((below1 _ _).cell (p := ⟨g0, o0 + k2, none⟩) (block_lt_of_cell hHeld.2.1)).trans hHeld.2.1), hHeld.2.2.alloc _⟩ (fun hHeld => ?_)
              clear hK K
              (try simp only [Act.put, List.getElem_toArray, List.getElem_cons_succ, List.getElem_cons_zero, List.setIfInBounds_toArray, List.set_cons_zero, List.set_cons_succ])
              refine wpAnyH_ready (rs := [10]) (by kernel_rfl) (by simp) ?_
              refine AllReadyH.cons rfl (fun K hK => ?_) AllReadyH.nil
              refine step_append_lies _ rfl (.tmp 44) (.tmp 53) 63 rfl W.heap.size 66 i0 _ 3 24 Tryd.underlying63 hi0 hz0 hz1 hz2 rfl (by decide) (.slice A2 acc.length cap2) acc.length (flat sc acc) (by simp [Act.eval, Act.put]) (by exact HO2.out.alloc _) ⟨wr.heap.size, 0, none⟩ 1 1 (sc ⟨n, ph, false⟩).toList (by simp [Act.eval, Act.put]) rfl (by exact World.news_of_block (Box.new wr.drew _ _)) (by simp [Value.oneCell']) (by omega) (by unfold maxLen; omega) (by omega) (by simp; exact Nat.le_succ_of_le hzr2) (wr.heap.size + 1) (by simp) ?_
              intro g7 cap7 w7 hown7 hgr7 hor7 hlt7
              refine hK.out _ _ ⟨by have h7 : Below W.heap.size W w7 := hHeld.1.trans (below_grown hgr7 hHeld.1.size (fun j hj => (hlts2.out j hj).1)); exact h7, by rw [(below_grown (B := W.heap.size) hgr7 hHeld.1.size (fun j hj => (hlts2.out j hj).1)).cell (p := ⟨g0, o0 + k2, none⟩) (by have := hU.size; show g0 < _; omega)]; exact hHeld.2.1, hHeld.2.2.keep (below_grown (B := W.heap.size) hgr7 hHeld.1.size (fun j hj => (hlts2.out j hj).1)) hzW⟩ (fun hHeld => ?_)
              clear hK K
              (try simp only [Act.put, List.getElem_toArray, List.getElem_cons_succ, List.getElem_cons_zero, List.setIfInBounds_toArray, List.set_cons_zero, List.set_cons_succ])
              refine wpAnyH_take (i := 11) (v := ?_) rfl (by kernel_rfl) (by kernel_rfl) (by kernel_rfl) (fun _ _ _ h => h) (Or.inl ⟨by kernel_rfl, ?_⟩) (by assumption) ?_
              rotate_left
              · intro w hSw
                (try dsimp only at hSw)
                go_simp
                try (with_reducible rfl)
              (try simp only [Act.put, List.getElem_toArray, List.getElem_cons_succ, List.getElem_cons_zero, List.setIfInBounds_toArray, List.set_cons_zero, List.set_cons_succ])
              refine wpAnyH_done (by kernel_rfl) ?_ _
              go_wp2
              have hb7 := hHeld.1
              go_roundg k2
              case measure => omega
              case rel =>
                refine ⟨(k2 : Int) - 1, acc ++ [⟨n, ph, false⟩], some ⟨g7, 0, none⟩, cap7, by omega, by omega, by omega, by simp, by go_num, by simp only [List.length_append, List.length_cons, List.length_nil]; omega, by simp only [List.length_append, List.length_cons, List.length_nil]; omega, HSN, hb7, ?_⟩
                show World.ownsRow _ _ _ _ _ _ _
                rw [flat_append]; simpa [flat] using hown7
            | false =>
              have hkl : k2 = L := by rcases y2 with h | h; cases h; exact h
              have e2 : ((k2 : Int) == (L : Int)) = true := by simp [hkl]
              have e2N : (k2 == L) = true := by simp [hkl]
              clear y2 hkl
              go_upto_region 12 with (fail)
              refine wp_region_held_drew (S := fun w' => Below W.heap.size W w' ∧ w'.cell? ⟨g0, o0 + k2, none⟩ = some (.int .i64 n) ∧ Box w' w.heap.size 3 #[.int .i64 (L : Int)]) (by kernel_rfl) ⟨BWR2.out.drew, cn, HB5.out.drew⟩ (fun hHeld => ?_)
              refine wpAnyH_take (i := 0) (v := ?_) rfl (by kernel_rfl) (by kernel_rfl) (by kernel_rfl) (fun _ _ _ h => h) (Or.inl ⟨by kernel_rfl, ?_⟩) (by assumption) ?_
              rotate_left
              · intro w hSw
                (try dsimp only at hSw)
                go_simp
                try (with_reducible rfl)
              (try simp only [Act.put, List.getElem_toArray, List.getElem_cons_zero, List.setIfInBounds_toArray, List.set_cons_zero, List.set_cons_succ])
              refine wpAnyH_take (i := 1) (v := ?_) rfl (by kernel_rfl) (by kernel_rfl) (by kernel_rfl) (fun _ _ _ h => h) (Or.inl ⟨by kernel_rfl, ?_⟩) (by assumption) ?_
              rotate_left
              · intro w hSw
                (try dsimp only at hSw)
                go_simp
                try (with_reducible rfl)
              (try simp only [Act.put, List.getElem_toArray, List.getElem_cons_succ, List.getElem_cons_zero, List.setIfInBounds_toArray, List.set_cons_zero, List.set_cons_succ])
              refine wpAnyH_take (i := 2) (v := ?_) rfl (by kernel_rfl) (by kernel_rfl) (by kernel_rfl) (fun _ _ _ h => h) (Or.inl ⟨by kernel_rfl, ?_⟩) (by assumption) ?_
              rotate_left
              · intro w hSw
                (try dsimp only at hSw)
                go_simp
                try (with_reducible rfl)
              (try simp only [Act.put, List.getElem_toArray, List.getElem_cons_succ, List.getElem_cons_zero, List.setIfInBounds_toArray, List.set_cons_zero, List.set_cons_succ])
              refine wpAnyH_take (i := 3) (v := ?_) rfl (by kernel_rfl) (by kernel_rfl) (by kernel_rfl) (fun _ _ _ h => h) (Or.inl ⟨by kernel_rfl, ?_⟩) (by assumption) ?_
              rotate_left
              · intro w hSw
                (try dsimp only at hSw)
                go_simp
                try (with_reducible rfl)
              (try simp only [Act.put, List.getElem_toArray, List.getElem_cons_succ, List.getElem_cons_zero, List.setIfInBounds_toArray, List.set_cons_zero, List.set_cons_succ])
              refine wpAnyH_take (i := 4) (v := ?_) rfl (by kernel_rfl) (by kernel_rfl) (by kernel_rfl) (fun _ _ _ h => h) (Or.inl ⟨by kernel_rfl, ?_⟩) (by assumption) ?_
              rotate_left
              · intro w hSw
                (try dsimp only at hSw)
                go_simp
                try (with_reducible rfl)
              (try simp only [Act.put, List.getElem_toArray, List.getElem_cons_succ, List.getElem_cons_zero, List.setIfInBounds_toArray, List.set_cons_zero, List.set_cons_succ])
              refine wpAnyH_take (i := 5) (v := ?_) rfl (by kernel_rfl) (by kernel_rfl) (by kernel_rfl) (fun _ _ _ h => h) (Or.inl ⟨by kernel_rfl, ?_⟩) (by assumption) ?_
              rotate_left
              · intro w hSw
                (try dsimp only at hSw)
                go_simp
                try (with_reducible rfl)
              (try simp only [Act.put, List.getElem_toArray, List.getElem_cons_succ, List.getElem_cons_zero, List.setIfInBounds_toArray, List.set_cons_zero, List.set_cons_succ])
              refine wpAnyH_take (i := 6) (v := ?_) rfl (by kernel_rfl) (by kernel_rfl) (by kernel_rfl) (fun _ _ _ h => h) (Or.inl ⟨by kernel_rfl, ?_⟩) (by assumption) ?_
              rotate_left
              · intro w hSw
                (try dsimp only at hSw)
                go_simp
                try (with_reducible rfl)
              (try simp only [Act.put, List.getElem_toArray, List.getElem_cons_succ, List.getElem_cons_zero, List.setIfInBounds_toArray, List.set_cons_zero, List.set_cons_succ])
              refine wpAnyH_ready (rs := [7]) (by kernel_rfl) (by simp) ?_
              refine AllReadyH.cons rfl (fun K hK => ?_) AllReadyH.nil
              go_simp
              refine (HPH.out _ hHeld.2.2).mono ?_
              rintro e w6 ⟨rfl, hw⟩
              subst hw
              go_wp2_with (fail)
              refine hK.out _ _ ?_ (fun hHeld => ?_)
              · exact hHeld
              clear hK K
              (try simp only [Act.put, List.getElem_toArray, List.getElem_cons_succ, List.getElem_cons_zero, List.setIfInBounds_toArray, List.set_cons_zero, List.set_cons_succ])
              refine wpAnyH_take (i := 8) (v := ?_) rfl (by kernel_rfl) (by kernel_rfl) (by kernel_rfl) (fun _ _ _ h => h) (Or.inl ⟨by kernel_rfl, ?_⟩) (by assumption) ?_
              rotate_left
              · intro w hSw
                (try dsimp only at hSw)
                go_simp
                try (with_reducible rfl)
              (try simp only [Act.put, List.getElem_toArray, List.getElem_cons_succ, List.getElem_cons_zero, List.setIfInBounds_toArray, List.set_cons_zero, List.set_cons_succ])
              refine wpAnyH_ready (rs := [9]) (by kernel_rfl) (by simp) ?_
              refine AllReadyH.cons rfl (fun K hK => ?_) AllReadyH.nil
              go_simp
              refine hK.out _ _ ⟨hHeld.1.alloc hHeld.1.size _, (((below1 _ _).cell (p := ⟨g0, o0 + k2, none⟩) (block_lt_of_cell hHeld.2.1)).trans hHeld.2.1), hHeld.2.2.alloc _⟩ (fun hHeld => ?_)
              clear hK K
              (try simp only [Act.put, List.getElem_toArray, List.getElem_cons_succ, List.getElem_cons_zero, List.setIfInBounds_toArray, List.set_cons_zero, List.set_cons_succ])
              refine wpAnyH_ready (rs := [10]) (by kernel_rfl) (by simp) ?_
              refine AllReadyH.cons rfl (fun K hK => ?_) AllReadyH.nil
              refine step_append_lies _ rfl (.tmp 44) (.tmp 53) 63 rfl W.heap.size 66 i0 _ 3 24 Tryd.underlying63 hi0 hz0 hz1 hz2 rfl (by decide) (.slice A2 acc.length cap2) acc.length (flat sc acc) (by simp [Act.eval, Act.put]) (by exact HO2.out.alloc _) ⟨wr.heap.size, 0, none⟩ 1 1 (sc ⟨n, ph, false⟩).toList (by simp [Act.eval, Act.put]) rfl (by exact World.news_of_block (Box.new wr.drew _ _)) (by simp [Value.oneCell']) (by omega) (by unfold maxLen; omega) (by omega) (by simp; exact Nat.le_succ_of_le hzr2) (wr.heap.size + 1) (by simp) ?_
              intro g7 cap7 w7 hown7 hgr7 hor7 hlt7
              refine hK.out _ _ ⟨by have h7 : Below W.heap.size W w7 := hHeld.1.trans (below_grown hgr7 hHeld.1.size (fun j hj => (hlts2.out j hj).1)); exact h7, by rw [(below_grown (B := W.heap.size) hgr7 hHeld.1.size (fun j hj => (hlts2.out j hj).1)).cell (p := ⟨g0, o0 + k2, none⟩) (by have := hU.size; show g0 < _; omega)]; exact hHeld.2.1, hHeld.2.2.keep (below_grown (B := W.heap.size) hgr7 hHeld.1.size (fun j hj => (hlts2.out j hj).1)) hzW⟩ (fun hHeld => ?_)
              clear hK K
              (try simp only [Act.put, List.getElem_toArray, List.getElem_cons_succ, List.getElem_cons_zero, List.setIfInBounds_toArray, List.set_cons_zero, List.set_cons_succ])
              refine wpAnyH_take (i := 11) (v := ?_) rfl (by kernel_rfl) (by kernel_rfl) (by kernel_rfl) (fun _ _ _ h => h) (Or.inl ⟨by kernel_rfl, ?_⟩) (by assumption) ?_
              rotate_left
              · intro w hSw
                (try dsimp only at hSw)
                go_simp
                try (with_reducible rfl)
              (try simp only [Act.put, List.getElem_toArray, List.getElem_cons_succ, List.getElem_cons_zero, List.setIfInBounds_toArray, List.set_cons_zero, List.set_cons_succ])
              refine wpAnyH_done (by kernel_rfl) ?_ _
              go_wp2
              have hb7 := hHeld.1
              go_roundg k2
              case measure => omega
              case rel =>
                refine ⟨(k2 : Int) - 1, acc ++ [⟨n, ph, false⟩], some ⟨g7, 0, none⟩, cap7, by omega, by omega, by omega, by simp, by go_num, by simp only [List.length_append, List.length_cons, List.length_nil]; omega, by simp only [List.length_append, List.length_cons, List.length_nil]; omega, HSN, hb7, ?_⟩
                show World.ownsRow _ _ _ _ _ _ _
                rw [flat_append]; simpa [flat] using hown7
          · obtain ⟨y3, y4⟩ := not_or.1 y2
            have hbf : b = false := by simpa using y3
            subst hbf
            have e2 : ((k2 : Int) == (L : Int)) = false := by rw [beq_eq_false_iff_ne]; omega
            have e2N : (k2 == L) = false := by rw [beq_eq_false_iff_ne]; exact y4
            have HSN : Hid (Evy.steps p false = acc) := by show _ = _; rw [HS.out, ups_no rfl (by have := HLL.out; omega)]; simp
            clear y2 y3 y4 hn
            go_wp2
            go_ret
            exact ⟨_, rfl, by rw [HSN.out]; exact own_base OW2.out hU.size, hwr2.out⟩
        · have d1 : decide (t ≥ 0) = false := decide_eq_false y1
          have HSN : Hid (Evy.steps p b = acc) := by show _ = _; rw [HS.out]; unfold upsFrom; rw [if_neg (by omega)]; simp
          clear y1
          go_wp2
          go_ret
          exact ⟨_, rfl, by rw [HSN.out]; exact own_base OW2.out hU.size, hwr2.out⟩
end Go.Proofs.YtdommcjlpibpeaaDoor
