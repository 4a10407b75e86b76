/-
  A node by itself: its attributes, and whether it is right. Conditions: its rows read as lists.
-/
import Derived.Test.YtdommcjlpibpeaaDoorEvB
namespace Go.Proofs.YtdommcjlpibpeaaDoor
set_option linter.unusedSimpArgs false
set_option linter.unusedVariables false
open Go.RowKit

set_option maxHeartbeats 1000000 in
theorem index_attr (l : List Domy.Attr) (p : Domy.Attr → Bool) (g : Nat) (lb : Array Value) (v : Value) (w : World) (eg : ∀ args w, (callFunc g args).run Tryd.prog w = .ok (.enter g args) w)
    (hp : ∀ x ∈ l, ∀ w1, Below w.heap.size w w1 → Calls Tryd.prog g (#[.agg (kc x)] ++ lb) w1 fun e w' => e = .returned (.bool (p x)) ∧ Below w1.heap.size w1 w')
    (hR : RdL w 2 kc l v) (hl : l.length ≤ 1000000) :
    Calls Tryd.prog 46 #[v, .func (.func g) #[] lb] w fun e w' => e = .returned (.int .i64 (idx p l)) ∧ Below w.heap.size w w' := by
  obtain ⟨A, cap, rfl, hcap1, hcap2, hrow⟩ := hR
  have HP := Lib.hid hp
  have HR := Lib.hid hrow
  clear hp hrow
  go_enter Tryd.func46, Tryd.ntmps46
  go_wp2
  go_loopg [5, 8] l.length (fun gg _ s8 wr => ∃ kk : Nat, kk ≤ l.length ∧ l.length - kk ≤ gg ∧ s8 = .int .i64 (kk : Int) ∧ Hid (Below w.heap.size w wr) ∧ Hid (∀ j y, j < kk → l[j]? = some y → p y = false))
  case atStart => exact ⟨0, Nat.zero_le _, by omega, rfl, Below.refl _ w, fun j y hj => absurd hj (Nat.not_lt_zero _)⟩
  case round =>
    obtain ⟨kk, hkk, hg, rfl, BW, AA⟩ := hrel
    by_cases hlt : kk < l.length
    · have hltz : (kk : Int) < (l.length : Int) := by omega
      obtain ⟨y, hy⟩ : ∃ y, l[kk]? = some y := ⟨_, List.getElem?_eq_getElem hlt⟩
      obtain ⟨g0, o, rfl, hg0, hrg⟩ := HR.out (by omega)
      have hrange : Hid (wr.rangeAt g0 (o + kk * 2) (kc y).toList) := fun i u hu => by
        rw [BW.out.cell (p := ⟨g0, o + kk * 2 + i, none⟩) hg0]
        exact RdL.elem (f := kc) (fun _ => rfl) hrg hy i u hu
      have hcall0 := HP.out y (List.mem_of_getElem? hy) wr BW.out
      have HY := Lib.hid hy
      clear hy hrg
      cases hq : p y with
      | true =>
        rw [hq] at hcall0
        have hcall := Lib.hid hcall0
        clear hcall0
        go_wp2_with (refine wpList_load_mid rfl 81 (.tmp 14) rfl g0 (o + kk * 2) rfl (kc y).toList _ hrange.out Tryd.underlying81 rfl info_attr ?_)
        refine (hcall.out).mono ?_
        rintro e w1 ⟨rfl, hb'⟩
        go_wp2
        go_ret
        refine ⟨?_, BW.out.trans (hb'.mono BW.out.size)⟩
        rw [idx_hit p l kk y HY.out hq AA.out]; rfl
      | false =>
        rw [hq] at hcall0
        have hcall := Lib.hid hcall0
        clear hcall0
        go_wp2_with (refine wpList_load_mid rfl 81 (.tmp 14) rfl g0 (o + kk * 2) rfl (kc y).toList _ hrange.out Tryd.underlying81 rfl info_attr ?_)
        refine (hcall.out).mono ?_
        rintro e w1 ⟨rfl, hb'⟩
        go_wp2
        go_roundg (l.length - (kk + 1))
        case measure => omega
        case rel =>
          refine ⟨kk + 1, by omega, by omega, by go_num, BW.out.trans (hb'.mono BW.out.size), (show Hid _ from fun j z hj hz => ?_)⟩
          by_cases e : j = kk
          · subst e
            have := HY.out
            rw [hz] at this
            injection this with this
            rw [this]; exact hq
          · exact AA.out j z (by omega) hz
    · have hltz : ¬ (kk : Int) < (l.length : Int) := by omega
      go_wp2
      go_ret
      refine ⟨?_, BW.out⟩
      rw [idx_miss p l (fun j y hy => AA.out j y (by have := (List.getElem?_eq_some_iff.1 hy).1; omega) hy)]; rfl

theorem rd_take {α : Type} {w : World} {k : Nat} {f : α → Array Value} {l : List α} {A : Option Addr} {cap : Nat} (hk : ∀ x, (f x).size = k) (h : RdL w k f l (.slice A l.length cap)) (i : Nat) (hi : i ≤ l.length) : RdL w k f (l.take i) (.slice A i cap) := by
  obtain ⟨A', cap', e, h1, h2, h3⟩ := h
  injection e with e1 _ e3
  subst e1 e3
  have hlen : (l.take i).length = i := by simp; omega
  refine ⟨A, cap, by rw [hlen], by rw [hlen]; omega, h2, fun hn => ?_⟩
  rw [hlen] at hn
  obtain ⟨g, o, rfl, hg, hr⟩ := h3 (by omega)
  refine ⟨g, o, rfl, hg, fun j u hu => hr j u ?_⟩
  have e : flat f l = flat f (l.take i) ++ flat f (l.drop i) := by rw [← flat_append, List.take_append_drop]
  rw [e, List.getElem?_append_left (List.getElem?_eq_some_iff.1 hu).1]
  exact hu
theorem egF : ∀ args w, (callFunc 47 args).run Tryd.prog w = .ok (.enter 47 args) w := Go.Proofs.enters_of Tryd.func47 (by kernel_rfl) rfl
theorem parts_str : (Tryd.prog.info? 9).map (fun j => j.size) = some 1 := by kernel_rfl
set_option maxHeartbeats 1000000 in
theorem find1_any (a : Domy.Attr) (s : List UInt8) (b : Nat) (w : World) (hc : w.cell? ⟨b, 0, none⟩ = some (.string (byt s))) :
    Calls Tryd.prog 47 #[.agg (kc a), .pointer (some ⟨b, 0, none⟩)] w fun e w' => e = .returned (.bool (decide (a.name = s))) ∧ Below w.heap.size w w' := by
  have hlt : b < w.heap.size := block_lt_of_cell hc
  have hc2 : (w.alloc (.cells (kc a) 81)).cell? ⟨b, 0, none⟩ = some (.string (byt s)) := ((below1 w _).cell (p := ⟨b, 0, none⟩) hlt).trans hc
  have he : decide ((byt a.name).toList = (byt s).toList) = decide (a.name = s) := by rw [byt_list, byt_list]
  by_cases q : a.name = s
  · have h1 : ((byt a.name).toList = (byt s).toList) = True := by rw [byt_list, byt_list]; simp [q]
    have HQ := Lib.hid q
    clear q
    go_enter Tryd.func47, Tryd.ntmps47
    go_wp2
    go_ret
    exact ⟨ret_bool (by rw [HQ.out]; simp), below1 _ _⟩
  · have h1 : ((byt a.name).toList = (byt s).toList) = False := by rw [byt_list, byt_list]; simp [q]
    go_enter Tryd.func47, Tryd.ntmps47
    go_wp2
    go_ret
    exact ⟨ret_bool (by simp [byt_list, q]), below1 _ _⟩
set_option maxHeartbeats 1000000 in
theorem find_any (l : List Domy.Attr) (v : Value) (s : List UInt8) (w : World) (hR : RdL w 2 kc l v) (hl : l.length ≤ 1000000) :
    Calls Tryd.prog 43 #[v, .string (byt s)] w fun e w' => e = .returned (.int .i64 (idx (fun a => decide (a.name = s)) l)) ∧ Below w.heap.size w w' := by
  have HF := Lib.hid (index_attr l (fun a => decide (a.name = s)) 47 #[.pointer (some ⟨w.heap.size, 0, none⟩)] v (w.alloc (.cells #[.string (byt s)] 9)) egF
    (fun a _ w1 hb => find1_any a s w.heap.size w1 ((hb.cell (p := ⟨w.heap.size, 0, none⟩) (by simp)).trans ((Box.new w 9 #[.string (byt s)]).cell 0))) (hR.below (below1 w _)) hl)
  clear hR
  go_enter Tryd.func43, Tryd.ntmps43
  go_wp2_with (fail)
  refine (HF.out).mono ?_
  rintro e w1 ⟨rfl, hb⟩
  go_wp2
  go_ret
  exact ⟨rfl, (below1 w _).trans (hb.mono (by simp))⟩
theorem idx_names (s : List UInt8) : ∀ l : List Domy.Attr, decide (0 ≤ idx (fun a => decide (a.name = s)) l) = (l.map (·.name)).contains s := by
  intro l
  rw [idx_any, Bool.eq_iff_iff, List.any_eq_true, List.contains_iff_mem, List.mem_map]
  constructor
  · rintro ⟨x, hx, h⟩; exact ⟨x, hx, by simpa using h⟩
  · rintro ⟨x, hx, h⟩; exact ⟨x, hx, by simpa using h⟩
theorem attrs_step {l : List Domy.Attr} {k : Nat} {a : Domy.Attr} (h : l[k]? = some a) :
    Domy.attrsGo ((l.take k).map (·.name)) (l.drop k) = if Domy.isAttr a.name = false then 3 else if 400 < a.value.length then 2 else if ((l.take k).map (·.name)).contains a.name then 3 else Domy.attrsGo ((l.take (k + 1)).map (·.name)) (l.drop (k + 1)) := by
  obtain ⟨h1, h2⟩ := List.getElem?_eq_some_iff.1 h
  rw [List.drop_eq_getElem_cons h1, h2, List.take_add_one, h]
  simp [Domy.attrsGo]
set_option maxRecDepth 100000 in
set_option maxHeartbeats 1500000 in
theorem attrs_any (l : List Domy.Attr) (v : Value) (w : World) (hv : RdL w 2 kc l v) :
    Calls Tryd.prog 39 #[v] w fun e w' => e = .returned (.int .i64 (Domy.attrsE l : Int)) ∧ Below w.heap.size w w' := by
  have HV := Lib.hid hv
  obtain ⟨A, cap, rfl, hc1, hc2, hrow⟩ := hv
  have HR := Lib.hid hrow
  clear hrow
  by_cases hl : (l.length : Int) > 12
  · have dl : decide ((l.length : Int) > 12) = true := decide_eq_true hl
    have hE : Hid (Domy.attrsE l = 2) := by show _ = _; unfold Domy.attrsE; rw [if_pos (by omega)]
    go_enter Tryd.func39, Tryd.ntmps39
    go_wp2
    go_ret
    exact ⟨ret_int (by rw [hE.out]; rfl), Below.refl _ _⟩
  · have dl : decide ((l.length : Int) > 12) = false := decide_eq_false hl
    have hE : Hid (Domy.attrsE l = Domy.attrsGo [] l) := by show _ = _; unfold Domy.attrsE; rw [if_neg (by omega)]
    go_enter Tryd.func39, Tryd.ntmps39
    go_wp2
    go_loopg [10] l.length (fun gg s10 wr => ∃ k : Nat, k ≤ l.length ∧ l.length - k ≤ gg ∧ s10 = .int .i64 (k : Int) ∧ Hid (Below w.heap.size w wr) ∧ Hid (Domy.attrsGo [] l = Domy.attrsGo ((l.take k).map (·.name)) (l.drop k)))
    case atStart => exact ⟨0, Nat.zero_le _, by omega, rfl, Below.refl _ w, rfl⟩
    case round =>
      obtain ⟨k, hk, hg, rfl, BW, AG⟩ := hrel
      by_cases hlt : k < l.length
      · have hlt2 : decide ((k : Int) < (l.length : Int)) = true := by simp; omega
        have hltz : (k : Int) < (l.length : Int) := by omega
        have hkc : k ≤ cap := by omega
        obtain ⟨a, ha⟩ : ∃ a, l[k]? = some a := ⟨_, List.getElem?_eq_getElem hlt⟩
        obtain ⟨g0, o, rfl, hg0, hrg⟩ := HR.out (by omega)
        have hrange : Hid (wr.rangeAt g0 (o + k * 2) (kc a).toList) := fun i u hu => by
          rw [BW.out.cell (p := ⟨g0, o + k * 2 + i, none⟩) hg0]
          exact RdL.elem (k := 2) (f := kc) (fun _ => rfl) hrg ha i u hu
        have hst := attrs_step ha
        obtain ⟨b1, hb1⟩ : ∃ b, Domy.isAttr a.name = b := ⟨_, rfl⟩
        obtain ⟨b3, hb3⟩ : ∃ b, ((l.take k).map (·.name)).contains a.name = b := ⟨_, rfl⟩
        have HA : Hid (∀ w, Calls Tryd.prog 42 #[.string (byt a.name)] w fun e w' => e = .returned (.bool b1) ∧ Below w.heap.size w w') := fun w => by have := attrName_any a.name w; rw [hb1] at this; exact this
        rw [hb1, hb3] at hst
        have hix := idx_names a.name (l.take k)
        rw [hb3] at hix
        obtain ⟨I, hI⟩ : ∃ I, idx (fun x => decide (x.name = a.name)) (l.take k) = I := ⟨_, rfl⟩
        rw [hI] at hix
        have HFI : Hid (∀ w', Below w.heap.size w w' → Calls Tryd.prog 43 #[.slice (some ⟨g0, o, none⟩) k cap, .string (byt a.name)] w' fun e w'' => e = .returned (.int .i64 I) ∧ Below w'.heap.size w' w'') := fun w' h => by
          have := find_any (l.take k) (.slice (some ⟨g0, o, none⟩) k cap) a.name w' (rd_take (k := 2) (f := kc) (fun _ => rfl) (HV.out.below h) k (by omega)) (by simp; omega)
          rw [hI] at this
          exact this
        have HST := Lib.hid hst
        clear hb1 hb3 hst hI ha hrg
        have hval : ((byt a.value).size : Int) = (a.value.length : Int) := by rw [byt_size]
        go_wp2_with (first | (refine wpList_load_mid rfl 81 (.tmp 13) rfl g0 (o + k * 2) rfl (kc a).toList _ hrange.out Tryd.underlying81 rfl info_attr ?_) | (refine wpList_store_box rfl 81 (.tmp 4) (.tmp 14) rfl wr.heap.size (kc a) rfl rfl 81 _ (Box.new wr _ _) info_attr rfl (kc_one a) ?_; intro w4 hx4 hu4 hz4; have n0 := hx4.cell 0; simp at n0))
        refine (HA.out _).mono ?_
        rintro e w5 ⟨rfl, hb5⟩
        have hb4 : Below wr.heap.size wr w4 := ((Below.refl _ wr).alloc (Nat.le_refl _) _).trans (hu4.own (Nat.le_refl _) (by simp))
        have x5 := hx4.below hb5 hx4.lt
        have B5 := Lib.hid (BW.out.trans ((hb4.trans (hb5.mono hb4.size)).mono BW.out.size))
        have hlt5 := x5.lt
        clear n0 hx4 hu4 hz4 hb4 hb5
        have n0 := x5.cell 0
        have n1 := x5.cell 1
        simp at n0 n1
        clear x5
        have HF : Hid (∀ w', Below w5.heap.size w5 w' → Calls Tryd.prog 43 #[.slice (some ⟨g0, o, none⟩) k cap, .string (byt a.name)] w' fun e w'' => e = .returned (.int .i64 I) ∧ Below w'.heap.size w' w'') := fun w' h => HFI.out w' (B5.out.trans (h.mono B5.out.size))
        cases b1 with
        | false =>
          go_wp2
          go_ret
          exact ⟨ret_int (by rw [hE.out, AG.out, HST.out]; rfl), B5.out⟩
        | true =>
          by_cases hv4 : (a.value.length : Int) > 400
          · have dv : decide (((byt a.value).size : Int) > 400) = true := decide_eq_true (by rw [hval]; exact hv4)
            have HV4 := Lib.hid hv4
            clear hv4 hval
            go_wp2
            go_ret
            exact ⟨ret_int (by rw [hE.out, AG.out, HST.out, if_neg (by simp), if_pos (by have := HV4.out; omega)]; rfl), B5.out⟩
          · have dv : decide (((byt a.value).size : Int) > 400) = false := decide_eq_false (by rw [hval]; exact hv4)
            have HV4 := Lib.hid hv4
            clear hv4 hval
            have dI : decide (I ≥ 0) = b3 := hix
            clear hix
            cases b3 with
            | true =>
              go_upto_region 10 with (fail)
              refine wp_region_held_drew (S := fun w' => Below w5.heap.size w5 w' ∧ w'.cell? ⟨wr.heap.size, 0, none⟩ = some (.string (byt a.name))) (by kernel_rfl) ⟨(Below.refl _ w5).drew, n0⟩ (fun hHeld => ?_)
              refine wpAnyH_take (i := 0) (v := ?_) rfl (by kernel_rfl) (by kernel_rfl) (by kernel_rfl) (fun _ _ _ h => h) (Or.inl ⟨by kernel_rfl, ?_⟩) (by assumption) ?_
              rotate_left
              · intro w hSw
                (try dsimp only at hSw)
                go_simp
                try (with_reducible rfl)
              (try simp only [Act.put, List.getElem_toArray, List.getElem_cons_zero, List.setIfInBounds_toArray, List.set_cons_zero, List.set_cons_succ])
              refine wpAnyH_take (i := 1) (v := ?_) rfl (by kernel_rfl) (by kernel_rfl) (by kernel_rfl) (fun _ _ _ h => h) (Or.inl ⟨by kernel_rfl, ?_⟩) (by assumption) ?_
              rotate_left
              · intro w hSw
                (try dsimp only at hSw)
                go_simp
                try (with_reducible rfl)
              (try simp only [Act.put, List.getElem_toArray, List.getElem_cons_succ, List.getElem_cons_zero, List.setIfInBounds_toArray, List.set_cons_zero, List.set_cons_succ])
              refine wpAnyH_take (i := 2) (v := ?_) rfl (by kernel_rfl) (by kernel_rfl) (by kernel_rfl) (fun _ _ _ h => h) (Or.inl ⟨by kernel_rfl, ?_⟩) (by assumption) ?_
              rotate_left
              · intro w hSw
                (try dsimp only at hSw)
                go_simp
                try (with_reducible rfl)
              (try simp only [Act.put, List.getElem_toArray, List.getElem_cons_succ, List.getElem_cons_zero, List.setIfInBounds_toArray, List.set_cons_zero, List.set_cons_succ])
              refine wpAnyH_take (i := 3) (v := ?_) rfl (by kernel_rfl) (by kernel_rfl) (by kernel_rfl) (fun _ _ _ h => h) (Or.inl ⟨by kernel_rfl, ?_⟩) (by assumption) ?_
              rotate_left
              · intro w hSw
                (try dsimp only at hSw)
                go_simp
                try (with_reducible rfl)
              (try simp only [Act.put, List.getElem_toArray, List.getElem_cons_succ, List.getElem_cons_zero, List.setIfInBounds_toArray, List.set_cons_zero, List.set_cons_succ])
              refine wpAnyH_take (i := 4) (v := ?_) rfl (by kernel_rfl) (by kernel_rfl) (by kernel_rfl) (fun _ _ _ h => h) (Or.inl ⟨by kernel_rfl, ?_⟩) (by assumption) ?_
              rotate_left
              · intro w hSw
                (try dsimp only at hSw)
                go_simp
                try (with_reducible rfl)
              (try simp only [Act.put, List.getElem_toArray, List.getElem_cons_succ, List.getElem_cons_zero, List.setIfInBounds_toArray, List.set_cons_zero, List.set_cons_succ])
              refine wpAnyH_ready (rs := [5]) (by kernel_rfl) (by simp) ?_
              refine AllReadyH.cons rfl (fun K hK => ?_) AllReadyH.nil
              go_simp
              refine (HF.out _ hHeld.1).mono ?_
              rintro e w7 ⟨rfl, hb7_⟩
              go_wp2_with (fail)
              refine hK.out _ _ ?_ (fun hHeld => ?_)
              · exact ⟨hHeld.1.trans (hb7_.mono hHeld.1.size), ((hHeld.1.trans (hb7_.mono hHeld.1.size)).cell (p := ⟨wr.heap.size, 0, none⟩) hlt5).trans n0⟩
              clear hK K
              (try simp only [Act.put, List.getElem_toArray, List.getElem_cons_succ, List.getElem_cons_zero, List.setIfInBounds_toArray, List.set_cons_zero, List.set_cons_succ])
              refine wpAnyH_take (i := 6) (v := ?_) rfl (by kernel_rfl) (by kernel_rfl) (by kernel_rfl) (fun _ _ _ h => h) (Or.inl ⟨by kernel_rfl, ?_⟩) (by assumption) ?_
              rotate_left
              · intro w hSw
                (try dsimp only at hSw)
                go_simp
                try (with_reducible rfl)
              (try simp only [Act.put, List.getElem_toArray, List.getElem_cons_succ, List.getElem_cons_zero, List.setIfInBounds_toArray, List.set_cons_zero, List.set_cons_succ])
              refine wpAnyH_take (i := 7) (v := ?_) rfl (by kernel_rfl) (by kernel_rfl) (by kernel_rfl) (fun _ _ _ h => h) (Or.inl ⟨by kernel_rfl, ?_⟩) (by assumption) ?_
              rotate_left
              · intro w hSw
                (try dsimp only at hSw)
                go_simp
                try (with_reducible rfl)
              (try simp only [Act.put, List.getElem_toArray, List.getElem_cons_succ, List.getElem_cons_zero, List.setIfInBounds_toArray, List.set_cons_zero, List.set_cons_succ])
              refine wpAnyH_done (by kernel_rfl) ?_ _
              go_wp2
              go_ret
              exact ⟨ret_int (by rw [hE.out, AG.out, HST.out, if_neg (by simp), if_neg (by have := HV4.out; omega)]; rfl), B5.out.trans (hHeld.1.mono B5.out.size)⟩
            | false =>
              go_upto_region 10 with (fail)
              refine wp_region_held_drew (S := fun w' => Below w5.heap.size w5 w' ∧ w'.cell? ⟨wr.heap.size, 0, none⟩ = some (.string (byt a.name))) (by kernel_rfl) ⟨(Below.refl _ w5).drew, n0⟩ (fun hHeld => ?_)
              refine wpAnyH_take (i := 0) (v := ?_) rfl (by kernel_rfl) (by kernel_rfl) (by kernel_rfl) (fun _ _ _ h => h) (Or.inl ⟨by kernel_rfl, ?_⟩) (by assumption) ?_
              rotate_left
              · intro w hSw
                (try dsimp only at hSw)
                go_simp
                try (with_reducible rfl)
              (try simp only [Act.put, List.getElem_toArray, List.getElem_cons_zero, List.setIfInBounds_toArray, List.set_cons_zero, List.set_cons_succ])
              refine wpAnyH_take (i := 1) (v := ?_) rfl (by kernel_rfl) (by kernel_rfl) (by kernel_rfl) (fun _ _ _ h => h) (Or.inl ⟨by kernel_rfl, ?_⟩) (by assumption) ?_
              rotate_left
              · intro w hSw
                (try dsimp only at hSw)
                go_simp
                try (with_reducible rfl)
              (try simp only [Act.put, List.getElem_toArray, List.getElem_cons_succ, List.getElem_cons_zero, List.setIfInBounds_toArray, List.set_cons_zero, List.set_cons_succ])
              refine wpAnyH_take (i := 2) (v := ?_) rfl (by kernel_rfl) (by kernel_rfl) (by kernel_rfl) (fun _ _ _ h => h) (Or.inl ⟨by kernel_rfl, ?_⟩) (by assumption) ?_
              rotate_left
              · intro w hSw
                (try dsimp only at hSw)
                go_simp
                try (with_reducible rfl)
              (try simp only [Act.put, List.getElem_toArray, List.getElem_cons_succ, List.getElem_cons_zero, List.setIfInBounds_toArray, List.set_cons_zero, List.set_cons_succ])
              refine wpAnyH_take (i := 3) (v := ?_) rfl (by kernel_rfl) (by kernel_rfl) (by kernel_rfl) (fun _ _ _ h => h) (Or.inl ⟨by kernel_rfl, ?_⟩) (by assumption) ?_
              rotate_left
              · intro w hSw
                (try dsimp only at hSw)
                go_simp
                try (with_reducible rfl)
              (try simp only [Act.put, List.getElem_toArray, List.getElem_cons_succ, List.getElem_cons_zero, List.setIfInBounds_toArray, List.set_cons_zero, List.set_cons_succ])
              refine wpAnyH_take (i := 4) (v := ?_) rfl (by kernel_rfl) (by kernel_rfl) (by kernel_rfl) (fun _ _ _ h => h) (Or.inl ⟨by kernel_rfl, ?_⟩) (by assumption) ?_
              rotate_left
              · intro w hSw
                (try dsimp only at hSw)
                go_simp
                try (with_reducible rfl)
              (try simp only [Act.put, List.getElem_toArray, List.getElem_cons_succ, List.getElem_cons_zero, List.setIfInBounds_toArray, List.set_cons_zero, List.set_cons_succ])
              refine wpAnyH_ready (rs := [5]) (by kernel_rfl) (by simp) ?_
              refine AllReadyH.cons rfl (fun K hK => ?_) AllReadyH.nil
              go_simp
              refine (HF.out _ hHeld.1).mono ?_
              rintro e w7 ⟨rfl, hb7_⟩
              go_wp2_with (fail)
              refine hK.out _ _ ?_ (fun hHeld => ?_)
              · exact ⟨hHeld.1.trans (hb7_.mono hHeld.1.size), ((hHeld.1.trans (hb7_.mono hHeld.1.size)).cell (p := ⟨wr.heap.size, 0, none⟩) hlt5).trans n0⟩
              clear hK K
              (try simp only [Act.put, List.getElem_toArray, List.getElem_cons_succ, List.getElem_cons_zero, List.setIfInBounds_toArray, List.set_cons_zero, List.set_cons_succ])
              refine wpAnyH_take (i := 6) (v := ?_) rfl (by kernel_rfl) (by kernel_rfl) (by kernel_rfl) (fun _ _ _ h => h) (Or.inl ⟨by kernel_rfl, ?_⟩) (by assumption) ?_
              rotate_left
              · intro w hSw
                (try dsimp only at hSw)
                go_simp
                try (with_reducible rfl)
              (try simp only [Act.put, List.getElem_toArray, List.getElem_cons_succ, List.getElem_cons_zero, List.setIfInBounds_toArray, List.set_cons_zero, List.set_cons_succ])
              refine wpAnyH_take (i := 7) (v := ?_) rfl (by kernel_rfl) (by kernel_rfl) (by kernel_rfl) (fun _ _ _ h => h) (Or.inl ⟨by kernel_rfl, ?_⟩) (by assumption) ?_
              rotate_left
              · intro w hSw
                (try dsimp only at hSw)
                go_simp
                try (with_reducible rfl)
              (try simp only [Act.put, List.getElem_toArray, List.getElem_cons_succ, List.getElem_cons_zero, List.setIfInBounds_toArray, List.set_cons_zero, List.set_cons_succ])
              refine wpAnyH_done (by kernel_rfl) ?_ _
              go_wp2
              go_roundg (l.length - (k + 1))
              case measure => omega
              case rel =>
                refine ⟨k + 1, by omega, by omega, by go_num, B5.out.trans (hHeld.1.mono B5.out.size), ?_⟩
                show _ = _
                rw [AG.out, HST.out, if_neg (by simp), if_neg (by have := HV4.out; omega)]
                rfl
      · have hlt2 : decide ((k : Int) < (l.length : Int)) = false := by simp; omega
        go_wp2
        go_ret
        exact ⟨ret_int (by rw [hE.out, AG.out, List.drop_eq_nil_of_le (by omega)]; rfl), BW.out⟩
end Go.Proofs.YtdommcjlpibpeaaDoor
