/-
  An entry behind where one is; loaded. Conditions: as each says.
-/
import Derived.Test.YtdolmjeiakdfhaaGreatDoorTkB
import Derived.Test.YtdolmjeiakdfhaaGreatDoorRow
import Derived.Deep.RegionHeld3
namespace Go.Proofs.YtdolmjeiakdfhaaGreatDoor
set_option linter.unusedSimpArgs false
set_option linter.unusedVariables false
open Go.RowKit
open Traily (Ent T)

theorem rd_take {α : Type} {w : World} {k : Nat} {f : α → Array Value} {l : List α} {A : Option Addr} {cap : Nat} (hk : ∀ x, (f x).size = k) (h : RdL w k f l (.slice A l.length cap)) (i : Nat) (hi : i ≤ l.length) : RdL w k f (l.take i) (.slice A i cap) := by
  obtain ⟨A', cap', e, h1, h2, h3⟩ := h
  injection e with e1 _ e3
  subst e1 e3
  have hlen : (l.take i).length = i := by simp; omega
  refine ⟨A, cap, by rw [hlen], by rw [hlen]; omega, h2, fun hn => ?_⟩
  rw [hlen] at hn
  obtain ⟨g, o, rfl, hg, hr⟩ := h3 (by omega)
  refine ⟨g, o, rfl, hg, fun j u hu => hr j u ?_⟩
  have e : flat f l = flat f (l.take i) ++ flat f (l.drop i) := by rw [← flat_append, List.take_append_drop]
  rw [e, List.getElem?_append_left (List.getElem?_eq_some_iff.1 hu).1]
  exact hu
theorem rd_drop {α : Type} {w : World} {k : Nat} {f : α → Array Value} {l : List α} {g o cap : Nat} (hk : ∀ x, (f x).size = k) (h : RdL w k f l (.slice (some ⟨g, o, none⟩) l.length cap)) (i : Nat) (hi : i < l.length) : RdL w k f (l.drop i) (.slice (some ⟨g, o + i * k, none⟩) (l.length - i) (cap - i)) := by
  obtain ⟨A', cap', e, h1, h2, h3⟩ := h
  injection e with e1 _ e3
  subst e1 e3
  have hlen : (l.drop i).length = l.length - i := by simp
  refine ⟨_, cap - i, by rw [hlen], by rw [hlen]; omega, by omega, fun hn => ?_⟩
  obtain ⟨g', o', e2, hg, hr⟩ := h3 (by omega)
  injection e2 with e2
  injection e2 with e2 e4
  subst e2 e4
  refine ⟨g, o + i * k, rfl, hg, fun j u hu => ?_⟩
  have e : flat f l = flat f (l.take i) ++ flat f (l.drop i) := by rw [← flat_append, List.take_append_drop]
  have hlt : (flat f (l.take i)).length = i * k := by rw [flat_len (k := k) hk, List.length_take, Nat.min_eq_left (by omega)]
  have h := hr (i * k + j) u (by rw [e, List.getElem?_append_right (by omega), hlt]; simpa using hu)
  rw [← Nat.add_assoc] at h
  exact h
theorem tc_eq {v : Value} {a b : Int} (h : a = b) : Ending.returned (.agg #[v, .int .i64 a]) = .returned (.agg (tc v b)) := by subst h; rfl
theorem tc_one (A : Option Addr) (n c : Nat) (k : Int) : (#[.slice A n c, .int .i64 k] : Array Value).all (·.oneCell') = true := by simp [Value.oneCell']
theorem flat_sing {α : Type} (f : α → Array Value) (x : α) : flat f [x] = (f x).toList := by simp [flat]
set_option maxRecDepth 100000 in
set_option maxHeartbeats 8000000 in
theorem behind_any (t : T) (x : Ent) (v : Value) (w : World) (hv : TrRd w t v) (hR : Traily.Right t) :
    Calls Tryz.prog 29 #[.agg (tc v t.at'), .agg (ec x)] w fun e w' => ∃ u, e = .returned (.agg (tc u (Traily.behind t x).at')) ∧ w'.ownsRow w.heap.size 48 3 u (Traily.behind t x).ents.length (flat ec (Traily.behind t x).ents) ∧ Below w.heap.size w w' := by
  obtain ⟨i0, hi0, hz0, hz1, hz2⟩ := info_parts parts_ent
  obtain ⟨A, cap, rfl, hc1, hc2, hrow⟩ := hv
  obtain ⟨k, hk⟩ : ∃ k : Nat, t.at' = k := ⟨t.at'.toNat, by have := hR.lo; omega⟩
  have hlt : k < t.ents.length := by have := hR.hi; omega
  have hle := hR.len
  obtain ⟨g0, o0, rfl, hg0, hrg⟩ := hrow (by omega)
  have HV : Hid (TrRd w t (.slice (some ⟨g0, o0, none⟩) t.ents.length cap)) := Lib.hid ⟨_, _, rfl, hc1, hc2, hrow⟩
  have hbe : Traily.behind t x = ⟨Traily.off (t.ents.take (k + 1) ++ [x]), ((Traily.off (t.ents.take (k + 1) ++ [x])).length : Int) - 1⟩ := by unfold Traily.behind; rw [hk]; rfl
  rw [hbe, hk]
  obtain ⟨n, hn⟩ : ∃ n, t.ents.length = n := ⟨_, rfl⟩
  have htl : (t.ents.take (k + 1)).length = k + 1 := by rw [List.length_take]; omega
  have HCL : Hid (∀ w1, Below w.heap.size w w1 → Calls Tryz.prog 32 #[.slice (some ⟨g0, o0, none⟩) (k + 1) cap] w1 fun e w' => OwnOut w1 48 3 (k + 1) (flat ec (t.ents.take (k + 1))) e w') := Lib.hid (fun w1 h => by
    have := clone_ent (t.ents.take (k + 1)) (.slice (some ⟨g0, o0, none⟩) (k + 1) cap) w1 (rd_take (k := 3) (f := ec) (fun _ => rfl) (HV.out.below h) (k + 1) (by omega)) (by rw [htl]; omega)
    rw [htl] at this
    exact this)
  have HCW : Hid (∀ (l : List Ent) (u : Value) (w1 : World), RdL w1 3 ec l u → l.length ≤ 60 → Calls Tryz.prog 32 #[u] w1 fun e w' => OwnOut w1 48 3 l.length (flat ec l) e w') := Lib.hid (fun l u w1 h hl => clone_ent l u w1 h (by omega))
  have hnews : Hid (∀ u ∈ (ec x).toList, u.oneCell' = true) := Lib.hid (by simp [ec, Value.oneCell'])
  have hone := ec_one x
  obtain ⟨XU, hXU⟩ : ∃ S, byt x.url = S := ⟨_, rfl⟩
  obtain ⟨XS, hXS⟩ : ∃ S, byt x.state = S := ⟨_, rfl⟩
  obtain ⟨XD, hXD⟩ : ∃ S, x.doc = S := ⟨_, rfl⟩
  have hxc : ec x = #[.string XU, .string XS, .int .i64 XD] := by unfold ec; rw [hXU, hXS, hXD]
  have hxs : (#[.string XU, .string XS, .int .i64 XD] : Array Value).size = 3 := rfl
  have hinf : (Tryz.prog.info? 48).map (·.size) = some (#[.string XU, .string XS, .int .i64 XD] : Array Value).size := by rw [hxs]; exact info_ent
  rw [hxc] at hnews hone
  have HXC := Lib.hid hxc
  have HXS := Lib.hid hxs
  have HXL : Hid ((#[.string XU, .string XS, .int .i64 XD] : Array Value).toList.length = 1 * 3) := Lib.hid (by rfl)
  have HINF := Lib.hid hinf
  obtain ⟨L, hL⟩ : ∃ L, t.ents.take (k + 1) = L := ⟨_, rfl⟩
  rw [hL] at HCL htl ⊢
  rw [hn] at hlt hle hc1 HV ⊢
  rw [hxc]
  have HTL := Lib.hid htl
  have h1 : ((k : Int) + 1) ≤ (cap : Int) := by omega
  have h2 : (0 : Int) ≤ (k : Int) + 1 := by omega
  have h3 : k + 1 ≤ cap := by omega
  clear hrow hrg hk hbe hn hL htl hxc hxs hinf hR hXU hXS hXD
  go_enter Tryz.func29, Tryz.ntmps29
  go_upto_region 1 with (fail)
  refine gen_world (F := fun W => Box W w.heap.size 41 (tc (.slice (some ⟨g0, o0, none⟩) n cap) k) ∧ Box W (w.heap.size + 1) 48 #[.string XU, .string XS, .int .i64 XD] ∧ Box W (w.heap.size + 2) 41 #[.slice none 0 0, .int .i64 0] ∧ Below w.heap.size w W) ⟨((Box.new w _ _).alloc _).alloc _, by have := (Box.new (w.alloc (.cells (tc (.slice (some ⟨g0, o0, none⟩) n cap) k) 41)) 48 #[.string XU, .string XS, .int .i64 XD]).alloc (.cells #[.slice none 0 0, .int .i64 0] 41); simpa using this, by have := Box.new ((w.alloc (.cells (tc (.slice (some ⟨g0, o0, none⟩) n cap) k) 41)).alloc (.cells #[.string XU, .string XS, .int .i64 XD] 48)) 41 #[.slice none 0 0, .int .i64 0]; simpa using this, ((below1 w _).alloc (by simp) _).alloc (by simp; omega) _⟩ ?_
  rintro W0 ⟨b0, b1, b2, hU⟩
  have HU0 := Lib.hid hU
  have HB0 := Lib.hid b0
  have HB1 := Lib.hid b1
  have HB2 := Lib.hid b2
  have hzW : w.heap.size + 2 < W0.heap.size := b2.lt
  have c0 := b0.cell 0
  have c1 := b0.cell 1
  simp [tc] at c0 c1
  have HSK : Hid (∀ wa wb : World, (Below W0.heap.size W0 wa ∧ wa.cell? ⟨w.heap.size, 0, none⟩ = some (.slice (some ⟨g0, o0, none⟩) n cap) ∧ wa.cell? ⟨w.heap.size, 1, none⟩ = some (.int .i64 (k : Int)) ∧ Box wa (w.heap.size + 1) 48 #[.string XU, .string XS, .int .i64 XD]) → Below W0.heap.size wa wb → (Below W0.heap.size W0 wb ∧ wb.cell? ⟨w.heap.size, 0, none⟩ = some (.slice (some ⟨g0, o0, none⟩) n cap) ∧ wb.cell? ⟨w.heap.size, 1, none⟩ = some (.int .i64 (k : Int)) ∧ Box wb (w.heap.size + 1) 48 #[.string XU, .string XS, .int .i64 XD])) := Lib.hid (fun wa wb h hb => ⟨h.1.trans hb, (hb.cell (p := ⟨w.heap.size, 0, none⟩) (by show w.heap.size < _; omega)).trans h.2.1, (hb.cell (p := ⟨w.heap.size, 1, none⟩) (by show w.heap.size < _; omega)).trans h.2.2.1, (hb.block _ (by omega)).trans h.2.2.2⟩)
  clear hU b0 b1 b2
  refine wp_region_held_drew (S := fun w' => (Below W0.heap.size W0 w' ∧ w'.cell? ⟨w.heap.size, 0, none⟩ = some (.slice (some ⟨g0, o0, none⟩) n cap) ∧ w'.cell? ⟨w.heap.size, 1, none⟩ = some (.int .i64 (k : Int)) ∧ Box w' (w.heap.size + 1) 48 #[.string XU, .string XS, .int .i64 XD])) (by kernel_rfl) ⟨(Below.refl _ W0).drew, c0, c1, Box.drew HB1.out⟩ (fun hHeld => ?_)
  refine wpAnyH_take (i := 0) (v := ?_) rfl (by kernel_rfl) (by kernel_rfl) (by kernel_rfl) (fun _ _ _ h => h) (Or.inl ⟨by kernel_rfl, ?_⟩) (by assumption) ?_
  rotate_left
  · intro w hSw
    (try dsimp only at hSw)
    go_simp
    try (with_reducible rfl)
  (try simp only [Act.put, List.getElem_toArray, List.getElem_cons_zero, List.setIfInBounds_toArray, List.set_cons_zero, List.set_cons_succ])
  refine wpAnyH_take (i := 1) (v := ?_) rfl (by kernel_rfl) (by kernel_rfl) (by kernel_rfl) (fun _ _ _ h => h) (Or.inl ⟨by kernel_rfl, ?_⟩) (by assumption) ?_
  rotate_left
  · intro w hSw
    (try dsimp only at hSw)
    go_simp
    try (with_reducible rfl)
  (try simp only [Act.put, List.getElem_toArray, List.getElem_cons_succ, List.getElem_cons_zero, List.setIfInBounds_toArray, List.set_cons_zero, List.set_cons_succ])
  refine wpAnyH_take (i := 2) (v := ?_) rfl (by kernel_rfl) (by kernel_rfl) (by kernel_rfl) (fun _ _ _ h => h) (Or.inl ⟨by kernel_rfl, ?_⟩) (by assumption) ?_
  rotate_left
  · intro w hSw
    (try dsimp only at hSw)
    go_simp
    try (with_reducible rfl)
  (try simp only [Act.put, List.getElem_toArray, List.getElem_cons_succ, List.getElem_cons_zero, List.setIfInBounds_toArray, List.set_cons_zero, List.set_cons_succ])
  refine wpAnyH_take (i := 3) (v := ?_) rfl (by kernel_rfl) (by kernel_rfl) (by kernel_rfl) (fun _ _ _ h => h) (Or.inl ⟨by kernel_rfl, ?_⟩) (by assumption) ?_
  rotate_left
  · intro w hSw
    (try dsimp only at hSw)
    go_simp
    try (with_reducible rfl)
  (try simp only [Act.put, List.getElem_toArray, List.getElem_cons_succ, List.getElem_cons_zero, List.setIfInBounds_toArray, List.set_cons_zero, List.set_cons_succ])
  refine wpAnyH_take (i := 4) (v := .int .i64 ((k : Int) + 1)) rfl (by kernel_rfl) (by kernel_rfl) (by kernel_rfl) (fun _ _ _ h => h) (Or.inl ⟨by kernel_rfl, ?_⟩) (by assumption) ?_
  · intro w hSw
    go_simp
    rw [IntKind.wrap_i64]; omega
  (try simp only [Act.put, List.getElem_toArray, List.getElem_cons_succ, List.getElem_cons_zero, List.setIfInBounds_toArray, List.set_cons_zero, List.set_cons_succ])
  refine wpAnyH_take (i := 5) (v := .slice (some ⟨g0, o0, none⟩) (k + 1) cap) rfl (by kernel_rfl) (by kernel_rfl) (by kernel_rfl) (fun _ _ _ h => h) (Or.inl ⟨by kernel_rfl, ?_⟩) (by assumption) ?_
  · intro w hSw
    go_simp
  (try simp only [Act.put, List.getElem_toArray, List.getElem_cons_succ, List.getElem_cons_zero, List.setIfInBounds_toArray, List.set_cons_zero, List.set_cons_succ])
  refine wpAnyH_take (i := 7) (v := _) rfl (by kernel_rfl) (by kernel_rfl) (by kernel_rfl) (fun _ _ _ h => h) (yields_load_box (by kernel_rfl) 48 (.tmp 3) rfl (w.heap.size + 1) 48 (#[.string XU, .string XS, .int .i64 XD]) _ rfl (fun _ h => h.2.2.2) Tryz.underlying48 rfl HINF.out) (by assumption) ?_
  (try simp only [Act.put, List.getElem_toArray, List.getElem_cons_succ, List.getElem_cons_zero, List.setIfInBounds_toArray, List.set_cons_zero, List.set_cons_succ])
  obtain ⟨ua, hua⟩ : ∃ ua, W0.drew = ua := ⟨_, rfl⟩
  rw [hua] at hHeld
  (try rw [hua])
  clear hua
  have zua : W0.heap.size ≤ ua.heap.size := hHeld.1.size
  refine wpAnyH_ready (rs := [6, 8]) (by kernel_rfl) (by simp) ?_
  refine AllReadyH.cons rfl (fun K hK => ?_) (AllReadyH.cons rfl (fun K hK => ?_) AllReadyH.nil)
  · go_simp
    refine (HCL.out _ (HU0.out.trans (hHeld.1.mono (by have := HU0.out.size; omega)))).mono ?_
    rintro e u6w ⟨u6, rfl, hown6, hbb6⟩
    have hb6 := hbb6.mono zua
    have HO6 := Lib.hid (own_base hown6 zua)
    have z6 : W0.heap.size ≤ u6w.heap.size := Nat.le_trans zua hbb6.size
    have HL6 := Lib.hid HO6.out.lt
    obtain ⟨A6, cap6, rfl⟩ := own_slice hown6
    clear hown6
    go_wp2_with (fail)
    refine hK.out _ _ ?_ (fun hHeld => ?_)
    · exact HSK.out _ _ hHeld hb6
    clear hK K
    (try simp only [Act.put, List.getElem_toArray, List.getElem_cons_succ, List.getElem_cons_zero, List.setIfInBounds_toArray, List.set_cons_zero, List.set_cons_succ])
    refine wpAnyH_ready (rs := [8]) (by kernel_rfl) (by simp) ?_
    refine AllReadyH.cons rfl (fun K hK => ?_) AllReadyH.nil
    go_simp
    have bx8 := Box.new u6w 48 #[.string XU, .string XS, .int .i64 XD]
    have hbb8 : Below u6w.heap.size u6w (u6w.alloc (.cells #[.string XU, .string XS, .int .i64 XD] 48)) := below1 u6w _
    obtain ⟨u8w, hw8⟩ : ∃ u8w, (u6w.alloc (.cells #[.string XU, .string XS, .int .i64 XD] 48)) = u8w := ⟨_, rfl⟩
    rw [hw8] at bx8 hbb8
    rw [hw8]
    clear hw8
    have hb8 := hbb8.mono z6
    have z8 : W0.heap.size ≤ u8w.heap.size := Nat.le_trans z6 hbb8.size
    refine hK.out _ _ (HSK.out _ _ hHeld hb8) (fun hHeld => ?_)
    clear hK K
    (try simp only [Act.put, List.getElem_toArray, List.getElem_cons_succ, List.getElem_cons_zero, List.setIfInBounds_toArray, List.set_cons_zero, List.set_cons_succ])
    have HO8 := Lib.hid (own_below HO6.out hbb8)
    refine wpAnyH_ready (rs := [9]) (by kernel_rfl) (by simp) ?_
    refine AllReadyH.cons rfl (fun K hK => ?_) AllReadyH.nil
    refine step_append_lies _ rfl (.tmp 12) (.tmp 14) 39 rfl W0.heap.size 48 i0 _ 3 40 Tryz.underlying39 hi0 hz0 hz1 hz2 rfl (by decide) (.slice A6 (k + 1) cap6) (k + 1) (flat ec L) (by simp [Act.eval, Act.put]) HO8.out ⟨u6w.heap.size, 0, none⟩ 1 1 (#[.string XU, .string XS, .int .i64 XD] : Array Value).toList (by simp [Act.eval, Act.put]) HXL.out (by exact World.news_of_block bx8) hnews.out (by omega) (by unfold maxLen; omega) (by omega) z8 u8w.heap.size rfl ?_
    intro g9 cap9 w9 hown9 hgr9 hor9 hlt9
    have hb9 : Below W0.heap.size u8w w9 := below_grown hgr9 z8 (fun j hj => (HL6.out j hj).1)
    refine hK.out _ _ (HSK.out _ _ hHeld hb9) (fun hHeld => ?_)
    clear hK K hor9 hgr9
    (try simp only [Act.put, List.getElem_toArray, List.getElem_cons_succ, List.getElem_cons_zero, List.setIfInBounds_toArray, List.set_cons_zero, List.set_cons_succ])
    refine wpAnyH_take (i := 10) (v := ?_) rfl (by kernel_rfl) (by kernel_rfl) (by kernel_rfl) (fun _ _ _ h => h) (Or.inl ⟨by kernel_rfl, ?_⟩) (by assumption) ?_
    rotate_left
    · intro w hSw
      (try dsimp only at hSw)
      go_simp
      try (with_reducible rfl)
    (try simp only [Act.put, List.getElem_toArray, List.getElem_cons_succ, List.getElem_cons_zero, List.setIfInBounds_toArray, List.set_cons_zero, List.set_cons_succ])
    refine wpAnyH_done (by kernel_rfl) ?_ _
    have HO9 : Hid (w9.ownsRow W0.heap.size 48 3 (.slice (some ⟨g9, 0, none⟩) (k + 1 + 1) cap9) (k + 1 + 1) (flat ec (L ++ [x]))) := Lib.hid (by rw [flat_append, flat_sing, HXC.out]; exact hown9)
    have HW9 := Lib.hid hHeld.1
    have HB29 : Hid (Box w9 (w.heap.size + 1 + 1) 41 #[.slice none 0 0, .int .i64 0]) := Lib.hid ((hHeld.1.block _ hzW).trans HB2.out)
    have HLN : Hid ((L ++ [x]).length = k + 1 + 1) := Lib.hid (by rw [List.length_append, HTL.out]; rfl)
    have hz9 := hHeld.1.size
    have HRD : Hid (RdL w9 3 ec (L ++ [x]) (.slice (some ⟨g9, 0, none⟩) (L ++ [x]).length cap9)) := Lib.hid (by rw [HLN.out]; have h := Rd.own HO9.out; show Rd _ _ _ (L ++ [x]).length _; rw [HLN.out]; exact h)
    have hcap : k + 1 + 1 ≤ cap9 ∧ cap9 ≤ 9223372036854775807 := by
      obtain ⟨X, c', e1, h6, h7, _⟩ := HRD.out
      rw [HLN.out] at e1 h6
      injection e1 with _ _ e1
      subst e1
      exact ⟨h6, h7⟩
    obtain ⟨hcap1, hcap2⟩ := hcap
    clear hown9 hHeld hb9 hlt9
    by_cases y : 50 < k + 1 + 1
    · have g1 : decide ((k : Int) + 1 + 1 > 50) = true := decide_eq_true (by omega)
      have g2 : (50 : Int) < (k : Int) + 1 + 1 := by omega
      have hoff : Hid (Traily.off (L ++ [x]) = (L ++ [x]).drop 1) := Lib.hid (by unfold Traily.off; rw [if_pos (by rw [HLN.out]; exact y)])
      have HCL2 : Hid (Calls Tryz.prog 32 #[.slice (some ⟨g9, 3, none⟩) (k + 1) (cap9 - 1)] w9 fun e w' => OwnOut w9 48 3 (k + 1) (flat ec ((L ++ [x]).drop 1)) e w') := Lib.hid (by
        have hl : ((L ++ [x]).drop 1).length = k + 1 := by rw [List.length_drop, HLN.out]; rfl
        have h := rd_drop (k := 3) (f := ec) (fun _ => rfl) HRD.out 1 (by rw [HLN.out]; omega)
        rw [HLN.out] at h
        have h2 := HCW.out ((L ++ [x]).drop 1) (.slice (some ⟨g9, 3, none⟩) (k + 1) (cap9 - 1)) w9 (by
          change Rd w9 3 (flat ec (List.drop 1 (L ++ [x]))) (List.drop 1 (L ++ [x])).length (.slice (some ⟨g9, 0 + 1 * 3, none⟩) (k + 1 + 1 - 1) (cap9 - 1)) at h
          show Rd w9 3 (flat ec (List.drop 1 (L ++ [x]))) (List.drop 1 (L ++ [x])).length _
          rw [hl] at h ⊢
          simpa using h) (by rw [hl]; omega)
        rw [hl] at h2
        exact h2)
      clear y
      go_wp2_with (fail)
      refine HCL2.out.mono ?_
      rintro e w10 ⟨v10, rfl, hown10, hb10⟩
      have HB10 := Lib.hid (HB29.out.below hb10 HB29.out.lt)
      have HO10 := Lib.hid hown10
      have hbb10 := Lib.hid hb10
      obtain ⟨A10, c10, rfl⟩ := own_slice hown10
      clear hown10 hb10
      go_wp2_with (refine wpList_store_box rfl 41 (.tmp 4) (.tmp 26) rfl (w.heap.size + 1 + 1) #[.slice A10 (k + 1) c10, .int .i64 ((k : Int))] rfl rfl 41 _ HB10.out info_trl rfl (tc_one _ _ _ _) ?_; intro wz hxz huz hzz; have HZZ := Lib.hid hzz; clear hzz)
      refine bodyPost_ret (results_box rfl _ _ (w.heap.size + 1 + 1) 41 _ _ rfl hxz Tryz.underlying41 rfl info_trl) rfl ?_
      refine ⟨.slice A10 (k + 1) c10, tc_eq ?_, ?_, ?_⟩
      · show _ = ((Traily.off (L ++ [x])).length : Int) - 1
        rw [hoff.out]
        have := HLN.out
        (try simp only [List.length_drop])
        omega
      · show wz.ownsRow w.heap.size 48 3 _ (Traily.off (L ++ [x])).length (flat ec (Traily.off (L ++ [x])))
        have hl : (Traily.off (L ++ [x])).length = k + 1 := by rw [hoff.out]; have := HLN.out; (try simp only [List.length_drop]); omega
        rw [hl, hoff.out]
        exact own_base (own_far HO10.out huz (by omega)) (by omega)
      · have h1 := HU0.out
        have h2 := h1.trans (HW9.out.mono h1.size)
        have h3 := h2.trans (hbb10.out.mono h2.size)
        exact h3.trans (huz.own (by omega) h3.size)
    · have g1 : decide ((k : Int) + 1 + 1 > 50) = false := decide_eq_false (by omega)
      have g2 : ¬ (50 : Int) < (k : Int) + 1 + 1 := by omega
      have g3 : (k : Int) + 1 + 1 ≤ 50 := by omega
      have hoff : Hid (Traily.off (L ++ [x]) = L ++ [x]) := Lib.hid (by unfold Traily.off; rw [if_neg (by rw [HLN.out]; exact y)])
      have HCL2 : Hid (Calls Tryz.prog 32 #[.slice (some ⟨g9, 0, none⟩) (k + 1 + 1) cap9] w9 fun e w' => OwnOut w9 48 3 (k + 1 + 1) (flat ec (L ++ [x])) e w') := Lib.hid (by
        have h := HRD.out
        have h2 := HCW.out (L ++ [x]) _ w9 HRD.out (by rw [HLN.out]; omega)
        rw [HLN.out] at h2
        exact h2)
      clear y
      go_wp2_with (fail)
      refine HCL2.out.mono ?_
      rintro e w10 ⟨v10, rfl, hown10, hb10⟩
      have HB10 := Lib.hid (HB29.out.below hb10 HB29.out.lt)
      have HO10 := Lib.hid hown10
      have hbb10 := Lib.hid hb10
      obtain ⟨A10, c10, rfl⟩ := own_slice hown10
      clear hown10 hb10
      go_wp2_with (refine wpList_store_box rfl 41 (.tmp 4) (.tmp 26) rfl (w.heap.size + 1 + 1) #[.slice A10 (k + 1 + 1) c10, .int .i64 ((k : Int) + 1)] rfl rfl 41 _ HB10.out info_trl rfl (tc_one _ _ _ _) ?_; intro wz hxz huz hzz; have HZZ := Lib.hid hzz; clear hzz)
      refine bodyPost_ret (results_box rfl _ _ (w.heap.size + 1 + 1) 41 _ _ rfl hxz Tryz.underlying41 rfl info_trl) rfl ?_
      refine ⟨.slice A10 (k + 1 + 1) c10, tc_eq ?_, ?_, ?_⟩
      · show _ = ((Traily.off (L ++ [x])).length : Int) - 1
        rw [hoff.out]
        have := HLN.out
        (try simp only [List.length_drop])
        omega
      · show wz.ownsRow w.heap.size 48 3 _ (Traily.off (L ++ [x])).length (flat ec (Traily.off (L ++ [x])))
        have hl : (Traily.off (L ++ [x])).length = k + 1 + 1 := by rw [hoff.out]; have := HLN.out; (try simp only [List.length_drop]); omega
        rw [hl, hoff.out]
        exact own_base (own_far HO10.out huz (by omega)) (by omega)
      · have h1 := HU0.out
        have h2 := h1.trans (HW9.out.mono h1.size)
        have h3 := h2.trans (hbb10.out.mono h2.size)
        exact h3.trans (huz.own (by omega) h3.size)
  · go_simp
    have bx8 := Box.new ua 48 #[.string XU, .string XS, .int .i64 XD]
    have hbb8 : Below ua.heap.size ua (ua.alloc (.cells #[.string XU, .string XS, .int .i64 XD] 48)) := below1 ua _
    obtain ⟨u8w, hw8⟩ : ∃ u8w, (ua.alloc (.cells #[.string XU, .string XS, .int .i64 XD] 48)) = u8w := ⟨_, rfl⟩
    rw [hw8] at bx8 hbb8
    rw [hw8]
    clear hw8
    have hb8 := hbb8.mono zua
    have z8 : W0.heap.size ≤ u8w.heap.size := Nat.le_trans zua hbb8.size
    refine hK.out _ _ (HSK.out _ _ hHeld hb8) (fun hHeld => ?_)
    clear hK K
    (try simp only [Act.put, List.getElem_toArray, List.getElem_cons_succ, List.getElem_cons_zero, List.setIfInBounds_toArray, List.set_cons_zero, List.set_cons_succ])
    refine wpAnyH_ready (rs := [6]) (by kernel_rfl) (by simp) ?_
    refine AllReadyH.cons rfl (fun K hK => ?_) AllReadyH.nil
    go_simp
    refine (HCL.out _ (HU0.out.trans (hHeld.1.mono (by have := HU0.out.size; omega)))).mono ?_
    rintro e u6w ⟨u6, rfl, hown6, hbb6⟩
    have hb6 := hbb6.mono z8
    have HO6 := Lib.hid (own_base hown6 z8)
    have z6 : W0.heap.size ≤ u6w.heap.size := Nat.le_trans z8 hbb6.size
    have HL6 := Lib.hid HO6.out.lt
    obtain ⟨A6, cap6, rfl⟩ := own_slice hown6
    clear hown6
    go_wp2_with (fail)
    refine hK.out _ _ ?_ (fun hHeld => ?_)
    · exact HSK.out _ _ hHeld hb6
    clear hK K
    (try simp only [Act.put, List.getElem_toArray, List.getElem_cons_succ, List.getElem_cons_zero, List.setIfInBounds_toArray, List.set_cons_zero, List.set_cons_succ])
    have bx6 := bx8.below hbb6 bx8.lt
    refine wpAnyH_ready (rs := [9]) (by kernel_rfl) (by simp) ?_
    refine AllReadyH.cons rfl (fun K hK => ?_) AllReadyH.nil
    refine step_append_lies _ rfl (.tmp 12) (.tmp 14) 39 rfl W0.heap.size 48 i0 _ 3 40 Tryz.underlying39 hi0 hz0 hz1 hz2 rfl (by decide) (.slice A6 (k + 1) cap6) (k + 1) (flat ec L) (by simp [Act.eval, Act.put]) HO6.out ⟨ua.heap.size, 0, none⟩ 1 1 (#[.string XU, .string XS, .int .i64 XD] : Array Value).toList (by simp [Act.eval, Act.put]) HXL.out (by exact World.news_of_block bx6) hnews.out (by omega) (by unfold maxLen; omega) (by omega) z6 u6w.heap.size rfl ?_
    intro g9 cap9 w9 hown9 hgr9 hor9 hlt9
    have hb9 : Below W0.heap.size u6w w9 := below_grown hgr9 z6 (fun j hj => (HL6.out j hj).1)
    refine hK.out _ _ (HSK.out _ _ hHeld hb9) (fun hHeld => ?_)
    clear hK K hor9 hgr9
    (try simp only [Act.put, List.getElem_toArray, List.getElem_cons_succ, List.getElem_cons_zero, List.setIfInBounds_toArray, List.set_cons_zero, List.set_cons_succ])
    refine wpAnyH_take (i := 10) (v := ?_) rfl (by kernel_rfl) (by kernel_rfl) (by kernel_rfl) (fun _ _ _ h => h) (Or.inl ⟨by kernel_rfl, ?_⟩) (by assumption) ?_
    rotate_left
    · intro w hSw
      (try dsimp only at hSw)
      go_simp
      try (with_reducible rfl)
    (try simp only [Act.put, List.getElem_toArray, List.getElem_cons_succ, List.getElem_cons_zero, List.setIfInBounds_toArray, List.set_cons_zero, List.set_cons_succ])
    refine wpAnyH_done (by kernel_rfl) ?_ _
    have HO9 : Hid (w9.ownsRow W0.heap.size 48 3 (.slice (some ⟨g9, 0, none⟩) (k + 1 + 1) cap9) (k + 1 + 1) (flat ec (L ++ [x]))) := Lib.hid (by rw [flat_append, flat_sing, HXC.out]; exact hown9)
    have HW9 := Lib.hid hHeld.1
    have HB29 : Hid (Box w9 (w.heap.size + 1 + 1) 41 #[.slice none 0 0, .int .i64 0]) := Lib.hid ((hHeld.1.block _ hzW).trans HB2.out)
    have HLN : Hid ((L ++ [x]).length = k + 1 + 1) := Lib.hid (by rw [List.length_append, HTL.out]; rfl)
    have hz9 := hHeld.1.size
    have HRD : Hid (RdL w9 3 ec (L ++ [x]) (.slice (some ⟨g9, 0, none⟩) (L ++ [x]).length cap9)) := Lib.hid (by rw [HLN.out]; have h := Rd.own HO9.out; show Rd _ _ _ (L ++ [x]).length _; rw [HLN.out]; exact h)
    have hcap : k + 1 + 1 ≤ cap9 ∧ cap9 ≤ 9223372036854775807 := by
      obtain ⟨X, c', e1, h6, h7, _⟩ := HRD.out
      rw [HLN.out] at e1 h6
      injection e1 with _ _ e1
      subst e1
      exact ⟨h6, h7⟩
    obtain ⟨hcap1, hcap2⟩ := hcap
    clear hown9 hHeld hb9 hlt9
    by_cases y : 50 < k + 1 + 1
    · have g1 : decide ((k : Int) + 1 + 1 > 50) = true := decide_eq_true (by omega)
      have g2 : (50 : Int) < (k : Int) + 1 + 1 := by omega
      have hoff : Hid (Traily.off (L ++ [x]) = (L ++ [x]).drop 1) := Lib.hid (by unfold Traily.off; rw [if_pos (by rw [HLN.out]; exact y)])
      have HCL2 : Hid (Calls Tryz.prog 32 #[.slice (some ⟨g9, 3, none⟩) (k + 1) (cap9 - 1)] w9 fun e w' => OwnOut w9 48 3 (k + 1) (flat ec ((L ++ [x]).drop 1)) e w') := Lib.hid (by
        have hl : ((L ++ [x]).drop 1).length = k + 1 := by rw [List.length_drop, HLN.out]; rfl
        have h := rd_drop (k := 3) (f := ec) (fun _ => rfl) HRD.out 1 (by rw [HLN.out]; omega)
        rw [HLN.out] at h
        have h2 := HCW.out ((L ++ [x]).drop 1) (.slice (some ⟨g9, 3, none⟩) (k + 1) (cap9 - 1)) w9 (by
          change Rd w9 3 (flat ec (List.drop 1 (L ++ [x]))) (List.drop 1 (L ++ [x])).length (.slice (some ⟨g9, 0 + 1 * 3, none⟩) (k + 1 + 1 - 1) (cap9 - 1)) at h
          show Rd w9 3 (flat ec (List.drop 1 (L ++ [x]))) (List.drop 1 (L ++ [x])).length _
          rw [hl] at h ⊢
          simpa using h) (by rw [hl]; omega)
        rw [hl] at h2
        exact h2)
      clear y
      go_wp2_with (fail)
      refine HCL2.out.mono ?_
      rintro e w10 ⟨v10, rfl, hown10, hb10⟩
      have HB10 := Lib.hid (HB29.out.below hb10 HB29.out.lt)
      have HO10 := Lib.hid hown10
      have hbb10 := Lib.hid hb10
      obtain ⟨A10, c10, rfl⟩ := own_slice hown10
      clear hown10 hb10
      go_wp2_with (refine wpList_store_box rfl 41 (.tmp 4) (.tmp 26) rfl (w.heap.size + 1 + 1) #[.slice A10 (k + 1) c10, .int .i64 ((k : Int))] rfl rfl 41 _ HB10.out info_trl rfl (tc_one _ _ _ _) ?_; intro wz hxz huz hzz; have HZZ := Lib.hid hzz; clear hzz)
      refine bodyPost_ret (results_box rfl _ _ (w.heap.size + 1 + 1) 41 _ _ rfl hxz Tryz.underlying41 rfl info_trl) rfl ?_
      refine ⟨.slice A10 (k + 1) c10, tc_eq ?_, ?_, ?_⟩
      · show _ = ((Traily.off (L ++ [x])).length : Int) - 1
        rw [hoff.out]
        have := HLN.out
        (try simp only [List.length_drop])
        omega
      · show wz.ownsRow w.heap.size 48 3 _ (Traily.off (L ++ [x])).length (flat ec (Traily.off (L ++ [x])))
        have hl : (Traily.off (L ++ [x])).length = k + 1 := by rw [hoff.out]; have := HLN.out; (try simp only [List.length_drop]); omega
        rw [hl, hoff.out]
        exact own_base (own_far HO10.out huz (by omega)) (by omega)
      · have h1 := HU0.out
        have h2 := h1.trans (HW9.out.mono h1.size)
        have h3 := h2.trans (hbb10.out.mono h2.size)
        exact h3.trans (huz.own (by omega) h3.size)
    · have g1 : decide ((k : Int) + 1 + 1 > 50) = false := decide_eq_false (by omega)
      have g2 : ¬ (50 : Int) < (k : Int) + 1 + 1 := by omega
      have g3 : (k : Int) + 1 + 1 ≤ 50 := by omega
      have hoff : Hid (Traily.off (L ++ [x]) = L ++ [x]) := Lib.hid (by unfold Traily.off; rw [if_neg (by rw [HLN.out]; exact y)])
      have HCL2 : Hid (Calls Tryz.prog 32 #[.slice (some ⟨g9, 0, none⟩) (k + 1 + 1) cap9] w9 fun e w' => OwnOut w9 48 3 (k + 1 + 1) (flat ec (L ++ [x])) e w') := Lib.hid (by
        have h := HRD.out
        have h2 := HCW.out (L ++ [x]) _ w9 HRD.out (by rw [HLN.out]; omega)
        rw [HLN.out] at h2
        exact h2)
      clear y
      go_wp2_with (fail)
      refine HCL2.out.mono ?_
      rintro e w10 ⟨v10, rfl, hown10, hb10⟩
      have HB10 := Lib.hid (HB29.out.below hb10 HB29.out.lt)
      have HO10 := Lib.hid hown10
      have hbb10 := Lib.hid hb10
      obtain ⟨A10, c10, rfl⟩ := own_slice hown10
      clear hown10 hb10
      go_wp2_with (refine wpList_store_box rfl 41 (.tmp 4) (.tmp 26) rfl (w.heap.size + 1 + 1) #[.slice A10 (k + 1 + 1) c10, .int .i64 ((k : Int) + 1)] rfl rfl 41 _ HB10.out info_trl rfl (tc_one _ _ _ _) ?_; intro wz hxz huz hzz; have HZZ := Lib.hid hzz; clear hzz)
      refine bodyPost_ret (results_box rfl _ _ (w.heap.size + 1 + 1) 41 _ _ rfl hxz Tryz.underlying41 rfl info_trl) rfl ?_
      refine ⟨.slice A10 (k + 1 + 1) c10, tc_eq ?_, ?_, ?_⟩
      · show _ = ((Traily.off (L ++ [x])).length : Int) - 1
        rw [hoff.out]
        have := HLN.out
        (try simp only [List.length_drop])
        omega
      · show wz.ownsRow w.heap.size 48 3 _ (Traily.off (L ++ [x])).length (flat ec (Traily.off (L ++ [x])))
        have hl : (Traily.off (L ++ [x])).length = k + 1 + 1 := by rw [hoff.out]; have := HLN.out; (try simp only [List.length_drop]); omega
        rw [hl, hoff.out]
        exact own_base (own_far HO10.out huz (by omega)) (by omega)
      · have h1 := HU0.out
        have h2 := h1.trans (HW9.out.mono h1.size)
        have h3 := h2.trans (hbb10.out.mono h2.size)
        exact h3.trans (huz.own (by omega) h3.size)
end Go.Proofs.YtdolmjeiakdfhaaGreatDoor

namespace Go.Proofs.YtdolmjeiakdfhaaGreatDoor
set_option linter.unusedSimpArgs false
set_option linter.unusedVariables false
open Go.RowKit
open Traily (Ent T)

section
variable {P : Program} {ops : Array Oper} {rest : List Oper} {o : Oper} {a : Act} {w : World} {Q : Exit → Act → World → Prop}
theorem wpList_max2 (hgd : o.guard = none) (x y : Operand) (ts : Array TypeId) (hop : o.op = .call { callee := .builtin .max, args := #[x, y], argTypes := ts })
    (A B M : Int) (hx : a.eval x = .int .i64 A) (hy : a.eval y = .int .i64 B) (hM : max A B = M)
    (h : wpList P ops Q rest (a.put o.dst (.int .i64 M)) w) : wpList P ops Q (o :: rest) a w := by
  refine wpList_plain hgd fun K hK => ?_
  have hrun := run_max_int2 (P := P) (w := w) ts o.type .i64 .i64 A B
  have e : (if B > A then B else A) = M := by rw [← hM]; simp only [Int.max_def]; split <;> split <;> omega
  rw [e] at hrun
  unfold Oper.wp execOp
  simp only [hop, resolve, invoke, builtin, Sem.run_bind, Sem.run_pure, Result.andThen_ok, List.map_toArray, List.map_cons, List.map_nil, hx, hy, hrun]
  exact hK _ _ h
end
/-- a trail and an error. -/
def TrOut (r : Except Nat T) (w : World) (e : Ending) (w' : World) : Prop :=
  (∃ t u, r = .ok t ∧ e = .returned (.tuple #[.agg (tc u t.at'), .int .i64 0]) ∧ w'.ownsRow w.heap.size 48 3 u t.ents.length (flat ec t.ents) ∧ Below w.heap.size w w') ∨
  (∃ n : Nat, r = .error n ∧ n ≠ 0 ∧ e = .returned (.tuple #[.agg (tc (.slice none 0 0) 0), .int .i64 (n : Int)]) ∧ Below w.heap.size w w')
theorem trOut_err {r : Except Nat T} {n : Nat} {m : Int} {w w' : World} {e : Ending} (h : r = .error n) (hn : m = n) (h0 : m ≠ 0) (he : e = .returned (.tuple #[.agg #[.slice none 0 0, .int .i64 0], .int .i64 m])) (hb : Below w.heap.size w w') : TrOut r w e w' := by
  subst hn
  exact .inr ⟨n, h, by omega, he, hb⟩
theorem tc_own {w : World} {B k n : Nat} {e : TypeId} {u : Value} {xs : List Value} (a : Int) (h : w.ownsRow B e k u n xs) : (tc u a).all (·.oneCell') = true := by
  obtain ⟨A, c, rfl⟩ := own_slice h
  simp [tc, Value.oneCell']
theorem trOut_ok {r : Except Nat T} {t : T} {u : Value} {w w' : World} {e : Ending} (h : r = .ok t) (he : e = .returned (.tuple #[.agg (tc u t.at'), .int .i64 0])) (ho : w'.ownsRow w.heap.size 48 3 u t.ents.length (flat ec t.ents)) (hb : Below w.heap.size w w') : TrOut r w e w' := .inl ⟨t, u, h, he, ho, hb⟩
theorem load_err {t : T} {ref : List UInt8} {n : Nat} (h : Traily.resolved t ref = .error n) : Traily.load t ref = .error n := by unfold Traily.load; rw [h]
theorem load_large {t : T} {ref s : List UInt8} {d : Int} (h : Traily.resolved t ref = .ok s) (hd : Traily.docOf t ref s = d) (h2 : 1000000 < d) : Traily.load t ref = .error 2 := by unfold Traily.load; rw [h]; simp only [hd]; rw [if_pos h2]
theorem load_ok {t : T} {ref s : List UInt8} {d : Int} (h : Traily.resolved t ref = .ok s) (hd : Traily.docOf t ref s = d) (h2 : ¬ 1000000 < d) : Traily.load t ref = .ok (Traily.behind t ⟨s, [], d⟩) := by unfold Traily.load; rw [h]; simp only [hd]; rw [if_neg h2]
theorem doc_in {t : T} (hR : Traily.Right t) {x : Ent} (hx : x ∈ t.ents) : 0 ≤ x.doc ∧ x.doc ≤ 1000000 := by
  have := Traily.docs_in _ _ _ hR.dc (Traily.key x) (List.mem_map_of_mem hx)
  unfold Traily.inDoc Traily.key at this
  simpa using this
theorem resolved_parts {b r s : List UInt8} (h : Urly.resolve b r = .ok s) : Traily.isClean s = true ∧ s.length ≤ 500 ∧ ∃ u, Urly.parse s = .ok u := Traily.resolved_clean h
theorem here_len {t : T} (hR : Traily.Right t) : (Traily.here t).url.length ≤ 500 := (Traily.resolved_clean (Traily.here_clean hR)).2.1
theorem fold_step {l : List Ent} {k : Nat} {x : Ent} (hx : l[k]? = some x) : (l.take (k + 1)).foldl (fun d x => max d (x.doc + 1)) (0 : Int) = max ((l.take k).foldl (fun d x => max d (x.doc + 1)) 0) (x.doc + 1) := by
  rw [List.take_add_one, hx, List.foldl_append]; rfl
set_option maxRecDepth 100000 in
set_option maxHeartbeats 8000000 in
theorem load_any (t : T) (v : Value) (ref : List UInt8) (w : World) (he : Env w) (hv : TrRd w t v) :
    Calls Tryz.prog 14 #[.agg (tc v t.at'), .string (byt ref)] w (TrOut (Traily.load t ref) w) := by
  have HRS : Hid (∀ w1, Below w.heap.size w w1 → Calls Tryz.prog 25 #[.agg (tc v t.at'), .string (byt ref)] w1 (ResdOut (Traily.resolved t ref) w1)) := Lib.hid (fun w1 h => resolved_any t v ref w1 (he.below h) (hv.below h))
  have HHE : Hid (Traily.Right t → ∀ w1, Below w.heap.size w w1 → Calls Tryz.prog 26 #[.agg (tc v t.at')] w1 fun e w' => e = .returned (.agg #[.string (byt (Traily.here t).url), .string (byt (Traily.here t).state), .int .i64 (Traily.here t).doc]) ∧ Below w1.heap.size w1 w') := Lib.hid (fun hR w1 h => here_t t v w1 (hv.below h) hR)
  have HBE : Hid (Traily.Right t → ∀ (s : List UInt8) (d : Int) w1, Below w.heap.size w w1 → Calls Tryz.prog 29 #[.agg (tc v t.at'), .agg #[.string (byt s), .string ⟨#[]⟩, .int .i64 d]] w1 fun e w' => ∃ u, e = .returned (.agg (tc u (Traily.behind t ⟨s, [], d⟩).at')) ∧ w'.ownsRow w1.heap.size 48 3 u (Traily.behind t ⟨s, [], d⟩).ents.length (flat ec (Traily.behind t ⟨s, [], d⟩).ents) ∧ Below w1.heap.size w1 w') := Lib.hid (fun hR s d w1 h => behind_any t ⟨s, [], d⟩ v w1 (hv.below h) hR)
  have HBA : Hid (∀ (s : List UInt8) w1, s.length ≤ 500 → Calls Tryz.prog 28 #[.string (byt s)] w1 (TxtOut (Traily.bare s) w1)) := Lib.hid (fun s w1 h => bare_any s w1 (by omega))
  have HHA : Hid (∀ w1, Calls Tryz.prog 27 #[.string (byt ref), .string ⟨#[35]⟩] w1 fun e w' => e = .returned (.bool (ref.contains 35)) ∧ w' = w1) := Lib.hid (fun w1 => has_any ref w1)
  obtain ⟨A, cap, rfl, hc1, hc2, hrow⟩ := hv
  have HROW := Lib.hid hrow
  obtain ⟨v, hve⟩ : ∃ v, Value.slice A t.ents.length cap = v := ⟨_, rfl⟩
  rw [hve] at HRS HHE HBE ⊢
  have HVE := Lib.hid hve
  obtain ⟨RF, hRF⟩ : ∃ S, byt ref = S := ⟨_, rfl⟩
  rw [hRF] at HRS HHA ⊢
  clear hRF he hve hrow
  go_enter Tryz.func14, Tryz.ntmps14
  go_upto_region 1 with (fail)
  refine gen_world (F := fun W => Box W w.heap.size 41 (tc v t.at') ∧ Box W (w.heap.size + 1) 41 #[.slice none 0 0, .int .i64 0] ∧ Below w.heap.size w W) ⟨(Box.new w _ _).alloc _, by have := Box.new (w.alloc (.cells (tc v t.at') 41)) 41 #[.slice none 0 0, .int .i64 0]; simpa using this, (below1 w _).alloc (by simp) _⟩ ?_
  rintro W0 ⟨b0, r0, hU⟩
  have HU0 := Lib.hid hU
  have HB0 := Lib.hid b0
  have HR0 := Lib.hid r0
  have hz0 := r0.lt
  clear hU r0
  go_wp2_with (refine wpList_load_row rfl 41 (.tmp 2) rfl w.heap.size rfl _ (tc v t.at') (0, 0) _ b0 Tryz.underlying41 rfl info_trl ?_)
  refine (HRS.out _ HU0.out).mono ?_
  rintro e w1 ⟨s, m, rfl, ht, hb1⟩
  have HU1 := Lib.hid (HU0.out.trans (hb1.mono HU0.out.size))
  have HB1 := Lib.hid (HB0.out.below hb1 HB0.out.lt)
  have HR1 := Lib.hid (HR0.out.below hb1 HR0.out.lt)
  have b1 := HB1.out
  clear hb1 b0
  rcases ht with ⟨rfl, hr⟩ | ⟨hm, rfl, n, hr, hmn⟩
  rotate_left
  · have g1 : (m != 0) = true := by rw [bne_iff_ne]; exact hm
    have HL := Lib.hid (load_err hr)
    have HM := Lib.hid hm
    have HMN := Lib.hid hmn
    clear hr hm hmn
    go_wp2_with (refine wpList_store_box rfl 41 (.tmp 4) (.tmp 19) rfl (w.heap.size + 1) #[.slice none 0 0, .int .i64 0] rfl rfl 41 _ HR1.out info_trl rfl (tc_one _ _ _ _) ?_; intro wz hxz huz hzz; have HZZ := Lib.hid hzz; clear hzz)
    refine bodyPost_ret (results_box_tmp rfl _ _ (w.heap.size + 1) 41 _ _ rfl hxz Tryz.underlying41 rfl info_trl) rfl ?_
    exact trOut_err HL.out HMN.out HM.out rfl (HU1.out.trans (huz.own (by omega) HU1.out.size))
  obtain ⟨hR, hrs⟩ := Traily.resolved_form hr
  obtain ⟨hcl, hsl, _⟩ := resolved_parts hrs
  have HR := Lib.hid hr
  have HRI := Lib.hid hR
  have HHR := Lib.hid (HHE.out hR)
  have HBR := Lib.hid (HBE.out hR)
  have hhl := here_len hR
  have hhd := doc_in hR (Traily.here_mem hR).1
  have HSL := Lib.hid hsl
  have HHL := Lib.hid hhl
  obtain ⟨HD, hHD⟩ : ∃ d, (Traily.here t).doc = d := ⟨_, rfl⟩
  obtain ⟨HS, hHS⟩ : ∃ d, byt (Traily.here t).state = d := ⟨_, rfl⟩
  rw [hHD, hHS] at HHR
  rw [hHD] at hhd
  have hf0 := fun w => (field_ent (byt (Traily.here t).url) HS HD w).1
  have hf2 := fun w => (field_ent (byt (Traily.here t).url) HS HD w).2
  have HHD := Lib.hid hHD
  clear hr hrs hcl hR hsl hhl HHE HBE hHD hHS
  go_wp2_with (refine wpList_load_row rfl 41 (.tmp 2) rfl w.heap.size rfl _ (tc v t.at') (0, 0) _ b1 Tryz.underlying41 rfl info_trl ?_)
  refine (HHR.out _ HU1.out).mono ?_
  rintro e w2 ⟨rfl, hb2⟩
  have HU2 := Lib.hid (HU1.out.trans (hb2.mono HU1.out.size))
  have HB2 := Lib.hid (HB1.out.below hb2 HB1.out.lt)
  have HR2 := Lib.hid (HR1.out.below hb2 HR1.out.lt)
  have b2 := HB2.out
  clear hb2 b1
  obtain ⟨b, hb⟩ : ∃ b, ref.contains 35 = b := ⟨_, rfl⟩
  rw [hb] at HHA
  cases b with
  | false =>
    have HDO : Hid (Traily.docOf t ref s = Traily.newDoc t.ents) := Lib.hid (by unfold Traily.docOf; rw [if_pos (.inl hb)])
    clear hb
    go_upto_region 5 with (fail)
    have hzb : w.heap.size < w2.heap.size := HB2.out.lt
    refine wp_region_held_drew (S := fun w' => Below w2.heap.size w2 w' ∧ Box w' w.heap.size 41 (tc v t.at')) (by kernel_rfl) ⟨(Below.refl _ w2).drew, Box.drew HB2.out⟩ (fun hHeld => ?_)
    refine wpAnyH_take (i := 0) (v := ?_) rfl (by kernel_rfl) (by kernel_rfl) (by kernel_rfl) (fun _ _ _ h => h) (Or.inl ⟨by kernel_rfl, ?_⟩) (by assumption) ?_
    rotate_left
    · intro w hSw
      (try dsimp only at hSw)
      go_simp
      try (with_reducible rfl)
    (try simp only [Act.put, List.getElem_toArray, List.getElem_cons_zero, List.setIfInBounds_toArray, List.set_cons_zero, List.set_cons_succ])
    refine wpAnyH_ready (rs := [1]) (by kernel_rfl) (by simp) ?_
    refine AllReadyH.cons rfl (fun K hK => ?_) AllReadyH.nil
    go_simp
    refine (HHA.out _).mono ?_
    rintro e w5 ⟨rfl, hw⟩
    subst hw
    go_wp2_with (fail)
    refine hK.out _ _ ?_ (fun hHeld => ?_)
    · exact hHeld
    clear hK K
    (try simp only [Act.put, List.getElem_toArray, List.getElem_cons_succ, List.getElem_cons_zero, List.setIfInBounds_toArray, List.set_cons_zero, List.set_cons_succ])
    refine wpAnyH_take (i := 2) (v := ?_) rfl (by kernel_rfl) (by kernel_rfl) (by kernel_rfl) (fun _ _ _ h => h) (Or.inl ⟨by kernel_rfl, ?_⟩) (by assumption) ?_
    rotate_left
    · intro w hSw
      (try dsimp only at hSw)
      go_simp
      try (with_reducible rfl)
    (try simp only [Act.put, List.getElem_toArray, List.getElem_cons_succ, List.getElem_cons_zero, List.setIfInBounds_toArray, List.set_cons_zero, List.set_cons_succ])
    refine wpAnyH_take (i := 3) (v := ?_) rfl (by kernel_rfl) (by kernel_rfl) (by kernel_rfl) (fun _ _ _ h => h) (Or.inl ⟨by kernel_rfl, ?_⟩) (by assumption) ?_
    rotate_left
    · intro w hSw
      (try dsimp only at hSw)
      go_simp
      try (with_reducible rfl)
    (try simp only [Act.put, List.getElem_toArray, List.getElem_cons_succ, List.getElem_cons_zero, List.setIfInBounds_toArray, List.set_cons_zero, List.set_cons_succ])
    refine wpAnyH_take (i := 4) (v := undef) rfl (by kernel_rfl) (by kernel_rfl) (by kernel_rfl) (fun _ _ _ h => h) (Or.inr ⟨by kernel_rfl, rfl⟩) (by assumption) ?_
    (try simp only [Act.put, List.getElem_toArray, List.getElem_cons_succ, List.getElem_cons_zero, List.setIfInBounds_toArray, List.set_cons_zero, List.set_cons_succ])
    refine wpAnyH_take (i := 5) (v := undef) rfl (by kernel_rfl) (by kernel_rfl) (by kernel_rfl) (fun _ _ _ h => h) (Or.inr ⟨by kernel_rfl, rfl⟩) (by assumption) ?_
    (try simp only [Act.put, List.getElem_toArray, List.getElem_cons_succ, List.getElem_cons_zero, List.setIfInBounds_toArray, List.set_cons_zero, List.set_cons_succ])
    refine wpAnyH_take (i := 6) (v := undef) rfl (by kernel_rfl) (by kernel_rfl) (by kernel_rfl) (fun _ _ _ h => h) (Or.inr ⟨by kernel_rfl, rfl⟩) (by assumption) ?_
    (try simp only [Act.put, List.getElem_toArray, List.getElem_cons_succ, List.getElem_cons_zero, List.setIfInBounds_toArray, List.set_cons_zero, List.set_cons_succ])
    refine wpAnyH_take (i := 7) (v := undef) rfl (by kernel_rfl) (by kernel_rfl) (by kernel_rfl) (fun _ _ _ h => h) (Or.inr ⟨by kernel_rfl, rfl⟩) (by assumption) ?_
    (try simp only [Act.put, List.getElem_toArray, List.getElem_cons_succ, List.getElem_cons_zero, List.setIfInBounds_toArray, List.set_cons_zero, List.set_cons_succ])
    refine wpAnyH_take (i := 8) (v := undef) rfl (by kernel_rfl) (by kernel_rfl) (by kernel_rfl) (fun _ _ _ h => h) (Or.inr ⟨by kernel_rfl, rfl⟩) (by assumption) ?_
    (try simp only [Act.put, List.getElem_toArray, List.getElem_cons_succ, List.getElem_cons_zero, List.setIfInBounds_toArray, List.set_cons_zero, List.set_cons_succ])
    refine wpAnyH_take (i := 9) (v := undef) rfl (by kernel_rfl) (by kernel_rfl) (by kernel_rfl) (fun _ _ _ h => h) (Or.inr ⟨by kernel_rfl, rfl⟩) (by assumption) ?_
    (try simp only [Act.put, List.getElem_toArray, List.getElem_cons_succ, List.getElem_cons_zero, List.setIfInBounds_toArray, List.set_cons_zero, List.set_cons_succ])
    refine wpAnyH_take (i := 10) (v := undef) rfl (by kernel_rfl) (by kernel_rfl) (by kernel_rfl) (fun _ _ _ h => h) (Or.inr ⟨by kernel_rfl, rfl⟩) (by assumption) ?_
    (try simp only [Act.put, List.getElem_toArray, List.getElem_cons_succ, List.getElem_cons_zero, List.setIfInBounds_toArray, List.set_cons_zero, List.set_cons_succ])
    refine wpAnyH_take (i := 11) (v := ?_) rfl (by kernel_rfl) (by kernel_rfl) (by kernel_rfl) (fun _ _ _ h => h) (Or.inl ⟨by kernel_rfl, ?_⟩) (by assumption) ?_
    rotate_left
    · intro w hSw
      (try dsimp only at hSw)
      go_simp
      try (with_reducible rfl)
    (try simp only [Act.put, List.getElem_toArray, List.getElem_cons_succ, List.getElem_cons_zero, List.setIfInBounds_toArray, List.set_cons_zero, List.set_cons_succ])
    refine wpAnyH_done (by kernel_rfl) ?_ _
    have cl := hHeld.2.cell 0
    simp [tc] at cl
    rw [← HVE.out] at cl
    go_upto_region 8 with (fail)
    refine gen_world (F := fun W => Below w2.heap.size w2 W ∧ Box W w.heap.size 41 (tc v t.at')) hHeld ?_
    rintro W3 ⟨hb3, b3⟩
    have HU3 := Lib.hid (HU2.out.trans (hb3.mono HU2.out.size))
    have HB3 := Lib.hid b3
    have HR3 := Lib.hid (HR2.out.below hb3 HR2.out.lt)
    have hz3 := HR3.out.lt
    clear cl hHeld b2 b3 hb3
    go_loopg [8, 39] t.ents.length (fun gg s8 s39 wr => ∃ (k : Nat) (D : Int), k ≤ t.ents.length ∧ t.ents.length - k ≤ gg ∧ s8 = .int .i64 D ∧ s39 = .int .i64 (k : Int) ∧ 0 ≤ D ∧ D ≤ 1000001 ∧ Hid (D = (t.ents.take k).foldl (fun d x => max d (x.doc + 1)) 0) ∧ Hid (Below W3.heap.size W3 wr))
    case atStart => exact ⟨0, 0, Nat.zero_le _, by omega, rfl, rfl, by omega, by omega, rfl, Below.refl _ _⟩
    case round =>
      obtain ⟨k, D, hk, hg, rfl, rfl, hD0, hD1, HD_, BW⟩ := hrel
      have HUf : Hid (Below w.heap.size w wr) := Lib.hid (HU3.out.trans (BW.out.mono HU3.out.size))
      by_cases hlt : k < t.ents.length
      · have hlt2 : decide ((k : Int) < (t.ents.length : Int)) = true := by simp; omega
        have hltz : (k : Int) < (t.ents.length : Int) := by omega
        obtain ⟨x, hx⟩ : ∃ x, t.ents[k]? = some x := ⟨_, List.getElem?_eq_getElem hlt⟩
        have hdx := doc_in HRI.out (List.mem_of_getElem? hx)
        have HFS := Lib.hid (fold_step hx)
        obtain ⟨g0, o0, rfl, hg0, hrg⟩ := HROW.out (by omega)
        have hrange : Hid (wr.rangeAt g0 (o0 + k * 3) (ec x).toList) := fun i u hu => by
          rw [HUf.out.cell (p := ⟨g0, o0 + k * 3 + i, none⟩) hg0]
          exact RdL.elem (k := 3) (f := ec) (fun _ => rfl) hrg hx i u hu
        clear hx hrg
        go_upto_region 10 with (first | (refine wpList_load_mid rfl 48 (.tmp 41) rfl g0 (o0 + k * 3) rfl (ec x).toList _ hrange.out Tryz.underlying48 rfl info_ent ?_) | (refine wpList_store_box rfl 48 (.tmp 10) (.tmp 42) rfl wr.heap.size (ec x) rfl rfl 48 _ (Box.new wr _ _) info_ent rfl (ec_one x) ?_; intro w4 hx4 hu4 hz4; have HZ4 := Lib.hid hz4; clear hz4))
        have hb4 : Below wr.heap.size wr w4 := ((Below.refl _ wr).alloc (Nat.le_refl _) _).trans (hu4.own (Nat.le_refl _) (by simp))
        have BW4 := Lib.hid (BW.out.trans (hb4.mono BW.out.size))
        obtain ⟨d, hd⟩ : ∃ d, x.doc = d := ⟨_, rfl⟩
        have c2 := hx4.cell 2
        simp [ec] at c2
        rw [hd] at c2 hdx HFS
        obtain ⟨M, hM⟩ : ∃ M, max D (d + 1) = M := ⟨_, rfl⟩
        obtain ⟨hd0, hd1⟩ := hdx
        have hM0 : 0 ≤ M := by omega
        have hM1 : M ≤ 1000001 := by omega
        have HM := Lib.hid hM
        have wr1 : IntKind.i64.wrap (d + 1) = d + 1 := by rw [IntKind.wrap_i64]; omega
        clear hrange hu4 hb4 hx4 hM hd
        go_wp2_with (refine wpList_max2 rfl (.tmp 43) (.tmp 46) _ rfl _ _ M rfl rfl HM.out ?_)
        go_roundg (t.ents.length - (k + 1))
        case measure => omega
        case rel => exact ⟨k + 1, M, by omega, by omega, rfl, by go_num, hM0, hM1, (show M = _ by rw [HFS.out, ← HD_.out]; exact HM.out.symm), BW4.out⟩
      · have hlt2 : decide ((k : Int) < (t.ents.length : Int)) = false := by simp; omega
        have hltz : ¬ (k : Int) < (t.ents.length : Int) := by omega
        have HDE : Hid (Traily.docOf t ref s = D) := Lib.hid (by rw [HDO.out, HD_.out, List.take_of_length_le (by omega)]; rfl)
        have HDO := HDE
        have HBf := Lib.hid (HB3.out.below BW.out HB3.out.lt)
        have HRf := Lib.hid (HR3.out.below BW.out HR3.out.lt)
        clear BW
        by_cases yd : 1000000 < D
        · have g5 : decide (D > 1000000) = true := decide_eq_true yd
          have g6 : decide ((1000000 : Int) < D) = true := decide_eq_true yd
          have HL := Lib.hid (load_large HR.out HDO.out yd)
          clear yd
          go_wp2_with (refine wpList_store_box rfl 41 (.tmp 4) (.tmp 51) rfl (w.heap.size + 1) #[.slice none 0 0, .int .i64 0] rfl rfl 41 _ HRf.out info_trl rfl (tc_one _ _ _ _) ?_; intro wz hxz huz hzz; have HZZ := Lib.hid hzz; clear hzz)
          refine bodyPost_ret (results_box_tmp rfl _ _ (w.heap.size + 1) 41 _ _ rfl hxz Tryz.underlying41 rfl info_trl) rfl ?_
          exact trOut_err HL.out rfl (by decide) rfl (HUf.out.trans (huz.own (by omega) HUf.out.size))
        · have g5 : decide (D > 1000000) = false := decide_eq_false yd
          have g6 : decide ((1000000 : Int) < D) = false := decide_eq_false yd
          have HL := Lib.hid (load_ok HR.out HDO.out yd)
          have HBL := Lib.hid (HBR.out s D)
          obtain ⟨TT, hTT⟩ : ∃ T, Traily.behind t ⟨s, [], D⟩ = T := ⟨_, rfl⟩
          rw [hTT] at HL HBL
          clear yd hTT
          go_wp2_with (refine wpList_load_row rfl 41 (.tmp 2) rfl w.heap.size rfl _ (tc v t.at') (0, 0) _ HBf.out Tryz.underlying41 rfl info_trl ?_)
          refine (HBL.out _ HUf.out).mono ?_
          rintro e w9 ⟨u, rfl, hown9, hb9⟩
          have HR9 := Lib.hid (HRf.out.below hb9 HRf.out.lt)
          have HO9 := Lib.hid hown9
          have HU9 := Lib.hid (HUf.out.trans (hb9.mono HUf.out.size))
          have hzf := HRf.out.lt
          clear hb9 hown9
          go_wp2_with (refine wpList_store_box rfl 41 (.tmp 4) (.tmp 56) rfl (w.heap.size + 1) (tc u TT.at') rfl rfl 41 _ HR9.out info_trl rfl (tc_own _ HO9.out) ?_; intro wz hxz huz hzz; have HZZ := Lib.hid hzz; clear hzz)
          refine bodyPost_ret (results_box_tmp rfl _ _ (w.heap.size + 1) 41 _ _ rfl hxz Tryz.underlying41 rfl info_trl) rfl ?_
          exact trOut_ok HL.out rfl (own_base (own_far HO9.out huz (by omega)) (by omega)) (HU9.out.trans (huz.own (by omega) HU9.out.size))
  | true =>
    by_cases y : Traily.bare s = Traily.bare (Traily.here t).url
    · have HDO : Hid (Traily.docOf t ref s = HD) := Lib.hid (by unfold Traily.docOf; rw [if_neg (by rw [hb]; simp [y])]; exact HHD.out)
      have HBA1 := Lib.hid (fun w1 => HBA.out s w1 HSL.out)
      have HBA2 := Lib.hid (fun w1 => HBA.out (Traily.here t).url w1 HHL.out)
      unfold TxtOut at HBA1 HBA2
      rw [y] at HBA1
      obtain ⟨XA, hXA⟩ : ∃ S, byt (Traily.bare (Traily.here t).url) = S := ⟨_, rfl⟩
      rw [hXA] at HBA1 HBA2
      obtain ⟨q1, q2⟩ := same_yes XA
      clear hb y hXA
      go_upto_region 5 with (fail)
      have hzb : w.heap.size < w2.heap.size := HB2.out.lt
      refine wp_region_held_drew (S := fun w' => Below w2.heap.size w2 w' ∧ Box w' w.heap.size 41 (tc v t.at')) (by kernel_rfl) ⟨(Below.refl _ w2).drew, Box.drew HB2.out⟩ (fun hHeld => ?_)
      refine wpAnyH_take (i := 0) (v := ?_) rfl (by kernel_rfl) (by kernel_rfl) (by kernel_rfl) (fun _ _ _ h => h) (Or.inl ⟨by kernel_rfl, ?_⟩) (by assumption) ?_
      rotate_left
      · intro w hSw
        (try dsimp only at hSw)
        go_simp
        try (with_reducible rfl)
      (try simp only [Act.put, List.getElem_toArray, List.getElem_cons_zero, List.setIfInBounds_toArray, List.set_cons_zero, List.set_cons_succ])
      refine wpAnyH_ready (rs := [1]) (by kernel_rfl) (by simp) ?_
      refine AllReadyH.cons rfl (fun K hK => ?_) AllReadyH.nil
      go_simp
      refine (HHA.out _).mono ?_
      rintro e w5 ⟨rfl, hw⟩
      subst hw
      go_wp2_with (fail)
      refine hK.out _ _ ?_ (fun hHeld => ?_)
      · exact hHeld
      clear hK K
      (try simp only [Act.put, List.getElem_toArray, List.getElem_cons_succ, List.getElem_cons_zero, List.setIfInBounds_toArray, List.set_cons_zero, List.set_cons_succ])
      refine wpAnyH_take (i := 2) (v := ?_) rfl (by kernel_rfl) (by kernel_rfl) (by kernel_rfl) (fun _ _ _ h => h) (Or.inl ⟨by kernel_rfl, ?_⟩) (by assumption) ?_
      rotate_left
      · intro w hSw
        (try dsimp only at hSw)
        go_simp
        try (with_reducible rfl)
      (try simp only [Act.put, List.getElem_toArray, List.getElem_cons_succ, List.getElem_cons_zero, List.setIfInBounds_toArray, List.set_cons_zero, List.set_cons_succ])
      refine wpAnyH_take (i := 3) (v := ?_) rfl (by kernel_rfl) (by kernel_rfl) (by kernel_rfl) (fun _ _ _ h => h) (Or.inl ⟨by kernel_rfl, ?_⟩) (by assumption) ?_
      rotate_left
      · intro w hSw
        (try dsimp only at hSw)
        go_simp
        try (with_reducible rfl)
      (try simp only [Act.put, List.getElem_toArray, List.getElem_cons_succ, List.getElem_cons_zero, List.setIfInBounds_toArray, List.set_cons_zero, List.set_cons_succ])
      refine wpAnyH_take (i := 4) (v := ?_) rfl (by kernel_rfl) (by kernel_rfl) (by kernel_rfl) (fun _ _ _ h => h) (Or.inl ⟨by kernel_rfl, ?_⟩) (by assumption) ?_
      rotate_left
      · intro w hSw
        (try dsimp only at hSw)
        go_simp
        try (with_reducible rfl)
      (try simp only [Act.put, List.getElem_toArray, List.getElem_cons_succ, List.getElem_cons_zero, List.setIfInBounds_toArray, List.set_cons_zero, List.set_cons_succ])
      refine wpAnyH_take (i := 6) (v := _) rfl (by kernel_rfl) (by kernel_rfl) (by kernel_rfl) (fun _ _ _ h => h) (yields_load_box (by kernel_rfl) 41 (.tmp 2) rfl (w.heap.size) 41 ((tc v t.at')) _ rfl (fun _ h => h.2) Tryz.underlying41 rfl info_trl) (by assumption) ?_
      (try simp only [Act.put, List.getElem_toArray, List.getElem_cons_succ, List.getElem_cons_zero, List.setIfInBounds_toArray, List.set_cons_zero, List.set_cons_succ])
      refine wpAnyH_ready (rs := [5]) (by kernel_rfl) (by simp) ?_
      refine AllReadyH.cons rfl (fun K hK => ?_) AllReadyH.nil
      go_simp
      refine (HBA1.out _).mono ?_
      rintro e w5 ⟨rfl, hb5⟩
      go_wp2_with (fail)
      refine hK.out _ _ ?_ (fun hHeld => ?_)
      · exact ⟨hHeld.1.trans (hb5.mono hHeld.1.size), hHeld.2.below hb5 hHeld.2.lt⟩
      clear hK K
      (try simp only [Act.put, List.getElem_toArray, List.getElem_cons_succ, List.getElem_cons_zero, List.setIfInBounds_toArray, List.set_cons_zero, List.set_cons_succ])
      refine wpAnyH_ready (rs := [7]) (by kernel_rfl) (by simp) ?_
      refine AllReadyH.cons rfl (fun K hK => ?_) AllReadyH.nil
      go_simp
      refine (HHR.out _ (HU2.out.trans (hHeld.1.mono HU2.out.size))).mono ?_
      rintro e w5 ⟨rfl, hb5⟩
      go_wp2_with (fail)
      refine hK.out _ _ ?_ (fun hHeld => ?_)
      · exact ⟨hHeld.1.trans (hb5.mono hHeld.1.size), hHeld.2.below hb5 hHeld.2.lt⟩
      clear hK K
      (try simp only [Act.put, List.getElem_toArray, List.getElem_cons_succ, List.getElem_cons_zero, List.setIfInBounds_toArray, List.set_cons_zero, List.set_cons_succ])
      refine wpAnyH_take (i := 8) (v := ?_) rfl (by kernel_rfl) (by kernel_rfl) (by kernel_rfl) (fun _ _ _ h => h) (Or.inl ⟨by kernel_rfl, ?_⟩) (by assumption) ?_
      rotate_left
      · intro w hSw
        (try dsimp only at hSw)
        go_simp
        try (with_reducible rfl)
      (try simp only [Act.put, List.getElem_toArray, List.getElem_cons_succ, List.getElem_cons_zero, List.setIfInBounds_toArray, List.set_cons_zero, List.set_cons_succ])
      refine wpAnyH_ready (rs := [9]) (by kernel_rfl) (by simp) ?_
      refine AllReadyH.cons rfl (fun K hK => ?_) AllReadyH.nil
      go_simp
      refine (HBA2.out _).mono ?_
      rintro e w5 ⟨rfl, hb5⟩
      go_wp2_with (fail)
      refine hK.out _ _ ?_ (fun hHeld => ?_)
      · exact ⟨hHeld.1.trans (hb5.mono hHeld.1.size), hHeld.2.below hb5 hHeld.2.lt⟩
      clear hK K
      (try simp only [Act.put, List.getElem_toArray, List.getElem_cons_succ, List.getElem_cons_zero, List.setIfInBounds_toArray, List.set_cons_zero, List.set_cons_succ])
      refine wpAnyH_take (i := 10) (v := ?_) rfl (by kernel_rfl) (by kernel_rfl) (by kernel_rfl) (fun _ _ _ h => h) (Or.inl ⟨by kernel_rfl, ?_⟩) (by assumption) ?_
      rotate_left
      · intro w hSw
        (try dsimp only at hSw)
        go_simp
        try (with_reducible rfl)
      (try simp only [Act.put, List.getElem_toArray, List.getElem_cons_succ, List.getElem_cons_zero, List.setIfInBounds_toArray, List.set_cons_zero, List.set_cons_succ])
      refine wpAnyH_take (i := 11) (v := ?_) rfl (by kernel_rfl) (by kernel_rfl) (by kernel_rfl) (fun _ _ _ h => h) (Or.inl ⟨by kernel_rfl, ?_⟩) (by assumption) ?_
      rotate_left
      · intro w hSw
        (try dsimp only at hSw)
        go_simp
        try (with_reducible rfl)
      (try simp only [Act.put, List.getElem_toArray, List.getElem_cons_succ, List.getElem_cons_zero, List.setIfInBounds_toArray, List.set_cons_zero, List.set_cons_succ])
      refine wpAnyH_done (by kernel_rfl) ?_ _
      have HUf := Lib.hid (HU2.out.trans (hHeld.1.mono HU2.out.size))
      have HBf := Lib.hid hHeld.2
      have HRf := Lib.hid (HR2.out.below hHeld.1 HR2.out.lt)
      clear hHeld b2
      by_cases yd : 1000000 < HD
      · have g5 : decide (HD > 1000000) = true := decide_eq_true yd
        have g6 : decide ((1000000 : Int) < HD) = true := decide_eq_true yd
        have HL := Lib.hid (load_large HR.out HDO.out yd)
        clear yd
        go_wp2_with (refine wpList_store_box rfl 41 (.tmp 4) (.tmp 51) rfl (w.heap.size + 1) #[.slice none 0 0, .int .i64 0] rfl rfl 41 _ HRf.out info_trl rfl (tc_one _ _ _ _) ?_; intro wz hxz huz hzz; have HZZ := Lib.hid hzz; clear hzz)
        refine bodyPost_ret (results_box_tmp rfl _ _ (w.heap.size + 1) 41 _ _ rfl hxz Tryz.underlying41 rfl info_trl) rfl ?_
        exact trOut_err HL.out rfl (by decide) rfl (HUf.out.trans (huz.own (by omega) HUf.out.size))
      · have g5 : decide (HD > 1000000) = false := decide_eq_false yd
        have g6 : decide ((1000000 : Int) < HD) = false := decide_eq_false yd
        have HL := Lib.hid (load_ok HR.out HDO.out yd)
        have HBL := Lib.hid (HBR.out s HD)
        obtain ⟨TT, hTT⟩ : ∃ T, Traily.behind t ⟨s, [], HD⟩ = T := ⟨_, rfl⟩
        rw [hTT] at HL HBL
        clear yd hTT
        go_wp2_with (refine wpList_load_row rfl 41 (.tmp 2) rfl w.heap.size rfl _ (tc v t.at') (0, 0) _ HBf.out Tryz.underlying41 rfl info_trl ?_)
        refine (HBL.out _ HUf.out).mono ?_
        rintro e w9 ⟨u, rfl, hown9, hb9⟩
        have HR9 := Lib.hid (HRf.out.below hb9 HRf.out.lt)
        have HO9 := Lib.hid hown9
        have HU9 := Lib.hid (HUf.out.trans (hb9.mono HUf.out.size))
        have hzf := HRf.out.lt
        clear hb9 hown9
        go_wp2_with (refine wpList_store_box rfl 41 (.tmp 4) (.tmp 56) rfl (w.heap.size + 1) (tc u TT.at') rfl rfl 41 _ HR9.out info_trl rfl (tc_own _ HO9.out) ?_; intro wz hxz huz hzz; have HZZ := Lib.hid hzz; clear hzz)
        refine bodyPost_ret (results_box_tmp rfl _ _ (w.heap.size + 1) 41 _ _ rfl hxz Tryz.underlying41 rfl info_trl) rfl ?_
        exact trOut_ok HL.out rfl (own_base (own_far HO9.out huz (by omega)) (by omega)) (HU9.out.trans (huz.own (by omega) HU9.out.size))
    · have HDO : Hid (Traily.docOf t ref s = Traily.newDoc t.ents) := Lib.hid (by unfold Traily.docOf; rw [if_pos (.inr y)])
      have HBA1 := Lib.hid (fun w1 => HBA.out s w1 HSL.out)
      have HBA2 := Lib.hid (fun w1 => HBA.out (Traily.here t).url w1 HHL.out)
      unfold TxtOut at HBA1 HBA2
      have hne := byt_ne y
      obtain ⟨XA, hXA⟩ : ∃ S, byt (Traily.bare s) = S := ⟨_, rfl⟩
      obtain ⟨XB, hXB⟩ : ∃ S, byt (Traily.bare (Traily.here t).url) = S := ⟨_, rfl⟩
      rw [hXA] at HBA1 hne
      rw [hXB] at HBA2 hne
      obtain ⟨q1, q2, q3⟩ := same_no hne
      have q4 := of_decide_eq_false q2
      clear hb y hXA hXB hne
      go_upto_region 5 with (fail)
      have hzb : w.heap.size < w2.heap.size := HB2.out.lt
      refine wp_region_held_drew (S := fun w' => Below w2.heap.size w2 w' ∧ Box w' w.heap.size 41 (tc v t.at')) (by kernel_rfl) ⟨(Below.refl _ w2).drew, Box.drew HB2.out⟩ (fun hHeld => ?_)
      refine wpAnyH_take (i := 0) (v := ?_) rfl (by kernel_rfl) (by kernel_rfl) (by kernel_rfl) (fun _ _ _ h => h) (Or.inl ⟨by kernel_rfl, ?_⟩) (by assumption) ?_
      rotate_left
      · intro w hSw
        (try dsimp only at hSw)
        go_simp
        try (with_reducible rfl)
      (try simp only [Act.put, List.getElem_toArray, List.getElem_cons_zero, List.setIfInBounds_toArray, List.set_cons_zero, List.set_cons_succ])
      refine wpAnyH_ready (rs := [1]) (by kernel_rfl) (by simp) ?_
      refine AllReadyH.cons rfl (fun K hK => ?_) AllReadyH.nil
      go_simp
      refine (HHA.out _).mono ?_
      rintro e w5 ⟨rfl, hw⟩
      subst hw
      go_wp2_with (fail)
      refine hK.out _ _ ?_ (fun hHeld => ?_)
      · exact hHeld
      clear hK K
      (try simp only [Act.put, List.getElem_toArray, List.getElem_cons_succ, List.getElem_cons_zero, List.setIfInBounds_toArray, List.set_cons_zero, List.set_cons_succ])
      refine wpAnyH_take (i := 2) (v := ?_) rfl (by kernel_rfl) (by kernel_rfl) (by kernel_rfl) (fun _ _ _ h => h) (Or.inl ⟨by kernel_rfl, ?_⟩) (by assumption) ?_
      rotate_left
      · intro w hSw
        (try dsimp only at hSw)
        go_simp
        try (with_reducible rfl)
      (try simp only [Act.put, List.getElem_toArray, List.getElem_cons_succ, List.getElem_cons_zero, List.setIfInBounds_toArray, List.set_cons_zero, List.set_cons_succ])
      refine wpAnyH_take (i := 3) (v := ?_) rfl (by kernel_rfl) (by kernel_rfl) (by kernel_rfl) (fun _ _ _ h => h) (Or.inl ⟨by kernel_rfl, ?_⟩) (by assumption) ?_
      rotate_left
      · intro w hSw
        (try dsimp only at hSw)
        go_simp
        try (with_reducible rfl)
      (try simp only [Act.put, List.getElem_toArray, List.getElem_cons_succ, List.getElem_cons_zero, List.setIfInBounds_toArray, List.set_cons_zero, List.set_cons_succ])
      refine wpAnyH_take (i := 4) (v := ?_) rfl (by kernel_rfl) (by kernel_rfl) (by kernel_rfl) (fun _ _ _ h => h) (Or.inl ⟨by kernel_rfl, ?_⟩) (by assumption) ?_
      rotate_left
      · intro w hSw
        (try dsimp only at hSw)
        go_simp
        try (with_reducible rfl)
      (try simp only [Act.put, List.getElem_toArray, List.getElem_cons_succ, List.getElem_cons_zero, List.setIfInBounds_toArray, List.set_cons_zero, List.set_cons_succ])
      refine wpAnyH_take (i := 6) (v := _) rfl (by kernel_rfl) (by kernel_rfl) (by kernel_rfl) (fun _ _ _ h => h) (yields_load_box (by kernel_rfl) 41 (.tmp 2) rfl (w.heap.size) 41 ((tc v t.at')) _ rfl (fun _ h => h.2) Tryz.underlying41 rfl info_trl) (by assumption) ?_
      (try simp only [Act.put, List.getElem_toArray, List.getElem_cons_succ, List.getElem_cons_zero, List.setIfInBounds_toArray, List.set_cons_zero, List.set_cons_succ])
      refine wpAnyH_ready (rs := [5]) (by kernel_rfl) (by simp) ?_
      refine AllReadyH.cons rfl (fun K hK => ?_) AllReadyH.nil
      go_simp
      refine (HBA1.out _).mono ?_
      rintro e w5 ⟨rfl, hb5⟩
      go_wp2_with (fail)
      refine hK.out _ _ ?_ (fun hHeld => ?_)
      · exact ⟨hHeld.1.trans (hb5.mono hHeld.1.size), hHeld.2.below hb5 hHeld.2.lt⟩
      clear hK K
      (try simp only [Act.put, List.getElem_toArray, List.getElem_cons_succ, List.getElem_cons_zero, List.setIfInBounds_toArray, List.set_cons_zero, List.set_cons_succ])
      refine wpAnyH_ready (rs := [7]) (by kernel_rfl) (by simp) ?_
      refine AllReadyH.cons rfl (fun K hK => ?_) AllReadyH.nil
      go_simp
      refine (HHR.out _ (HU2.out.trans (hHeld.1.mono HU2.out.size))).mono ?_
      rintro e w5 ⟨rfl, hb5⟩
      go_wp2_with (fail)
      refine hK.out _ _ ?_ (fun hHeld => ?_)
      · exact ⟨hHeld.1.trans (hb5.mono hHeld.1.size), hHeld.2.below hb5 hHeld.2.lt⟩
      clear hK K
      (try simp only [Act.put, List.getElem_toArray, List.getElem_cons_succ, List.getElem_cons_zero, List.setIfInBounds_toArray, List.set_cons_zero, List.set_cons_succ])
      refine wpAnyH_take (i := 8) (v := ?_) rfl (by kernel_rfl) (by kernel_rfl) (by kernel_rfl) (fun _ _ _ h => h) (Or.inl ⟨by kernel_rfl, ?_⟩) (by assumption) ?_
      rotate_left
      · intro w hSw
        (try dsimp only at hSw)
        go_simp
        try (with_reducible rfl)
      (try simp only [Act.put, List.getElem_toArray, List.getElem_cons_succ, List.getElem_cons_zero, List.setIfInBounds_toArray, List.set_cons_zero, List.set_cons_succ])
      refine wpAnyH_ready (rs := [9]) (by kernel_rfl) (by simp) ?_
      refine AllReadyH.cons rfl (fun K hK => ?_) AllReadyH.nil
      go_simp
      refine (HBA2.out _).mono ?_
      rintro e w5 ⟨rfl, hb5⟩
      go_wp2_with (fail)
      refine hK.out _ _ ?_ (fun hHeld => ?_)
      · exact ⟨hHeld.1.trans (hb5.mono hHeld.1.size), hHeld.2.below hb5 hHeld.2.lt⟩
      clear hK K
      (try simp only [Act.put, List.getElem_toArray, List.getElem_cons_succ, List.getElem_cons_zero, List.setIfInBounds_toArray, List.set_cons_zero, List.set_cons_succ])
      refine wpAnyH_take (i := 10) (v := ?_) rfl (by kernel_rfl) (by kernel_rfl) (by kernel_rfl) (fun _ _ _ h => h) (Or.inl ⟨by kernel_rfl, ?_⟩) (by assumption) ?_
      rotate_left
      · intro w hSw
        (try dsimp only at hSw)
        go_simp
        try (with_reducible rfl)
      (try simp only [Act.put, List.getElem_toArray, List.getElem_cons_succ, List.getElem_cons_zero, List.setIfInBounds_toArray, List.set_cons_zero, List.set_cons_succ])
      refine wpAnyH_take (i := 11) (v := ?_) rfl (by kernel_rfl) (by kernel_rfl) (by kernel_rfl) (fun _ _ _ h => h) (Or.inl ⟨by kernel_rfl, ?_⟩) (by assumption) ?_
      rotate_left
      · intro w hSw
        (try dsimp only at hSw)
        go_simp
        try (with_reducible rfl)
      (try simp only [Act.put, List.getElem_toArray, List.getElem_cons_succ, List.getElem_cons_zero, List.setIfInBounds_toArray, List.set_cons_zero, List.set_cons_succ])
      refine wpAnyH_done (by kernel_rfl) ?_ _
      have cl := hHeld.2.cell 0
      simp [tc] at cl
      rw [← HVE.out] at cl
      go_upto_region 8 with (fail)
      refine gen_world (F := fun W => Below w2.heap.size w2 W ∧ Box W w.heap.size 41 (tc v t.at')) hHeld ?_
      rintro W3 ⟨hb3, b3⟩
      have HU3 := Lib.hid (HU2.out.trans (hb3.mono HU2.out.size))
      have HB3 := Lib.hid b3
      have HR3 := Lib.hid (HR2.out.below hb3 HR2.out.lt)
      have hz3 := HR3.out.lt
      clear cl hHeld b2 b3 hb3
      go_loopg [8, 39] t.ents.length (fun gg s8 s39 wr => ∃ (k : Nat) (D : Int), k ≤ t.ents.length ∧ t.ents.length - k ≤ gg ∧ s8 = .int .i64 D ∧ s39 = .int .i64 (k : Int) ∧ 0 ≤ D ∧ D ≤ 1000001 ∧ Hid (D = (t.ents.take k).foldl (fun d x => max d (x.doc + 1)) 0) ∧ Hid (Below W3.heap.size W3 wr))
      case atStart => exact ⟨0, 0, Nat.zero_le _, by omega, rfl, rfl, by omega, by omega, rfl, Below.refl _ _⟩
      case round =>
        obtain ⟨k, D, hk, hg, rfl, rfl, hD0, hD1, HD_, BW⟩ := hrel
        have HUf : Hid (Below w.heap.size w wr) := Lib.hid (HU3.out.trans (BW.out.mono HU3.out.size))
        by_cases hlt : k < t.ents.length
        · have hlt2 : decide ((k : Int) < (t.ents.length : Int)) = true := by simp; omega
          have hltz : (k : Int) < (t.ents.length : Int) := by omega
          obtain ⟨x, hx⟩ : ∃ x, t.ents[k]? = some x := ⟨_, List.getElem?_eq_getElem hlt⟩
          have hdx := doc_in HRI.out (List.mem_of_getElem? hx)
          have HFS := Lib.hid (fold_step hx)
          obtain ⟨g0, o0, rfl, hg0, hrg⟩ := HROW.out (by omega)
          have hrange : Hid (wr.rangeAt g0 (o0 + k * 3) (ec x).toList) := fun i u hu => by
            rw [HUf.out.cell (p := ⟨g0, o0 + k * 3 + i, none⟩) hg0]
            exact RdL.elem (k := 3) (f := ec) (fun _ => rfl) hrg hx i u hu
          clear hx hrg
          go_upto_region 10 with (first | (refine wpList_load_mid rfl 48 (.tmp 41) rfl g0 (o0 + k * 3) rfl (ec x).toList _ hrange.out Tryz.underlying48 rfl info_ent ?_) | (refine wpList_store_box rfl 48 (.tmp 10) (.tmp 42) rfl wr.heap.size (ec x) rfl rfl 48 _ (Box.new wr _ _) info_ent rfl (ec_one x) ?_; intro w4 hx4 hu4 hz4; have HZ4 := Lib.hid hz4; clear hz4))
          have hb4 : Below wr.heap.size wr w4 := ((Below.refl _ wr).alloc (Nat.le_refl _) _).trans (hu4.own (Nat.le_refl _) (by simp))
          have BW4 := Lib.hid (BW.out.trans (hb4.mono BW.out.size))
          obtain ⟨d, hd⟩ : ∃ d, x.doc = d := ⟨_, rfl⟩
          have c2 := hx4.cell 2
          simp [ec] at c2
          rw [hd] at c2 hdx HFS
          obtain ⟨M, hM⟩ : ∃ M, max D (d + 1) = M := ⟨_, rfl⟩
          obtain ⟨hd0, hd1⟩ := hdx
          have hM0 : 0 ≤ M := by omega
          have hM1 : M ≤ 1000001 := by omega
          have HM := Lib.hid hM
          have wr1 : IntKind.i64.wrap (d + 1) = d + 1 := by rw [IntKind.wrap_i64]; omega
          clear hrange hu4 hb4 hx4 hM hd
          go_wp2_with (refine wpList_max2 rfl (.tmp 43) (.tmp 46) _ rfl _ _ M rfl rfl HM.out ?_)
          go_roundg (t.ents.length - (k + 1))
          case measure => omega
          case rel => exact ⟨k + 1, M, by omega, by omega, rfl, by go_num, hM0, hM1, (show M = _ by rw [HFS.out, ← HD_.out]; exact HM.out.symm), BW4.out⟩
        · have hlt2 : decide ((k : Int) < (t.ents.length : Int)) = false := by simp; omega
          have hltz : ¬ (k : Int) < (t.ents.length : Int) := by omega
          have HDE : Hid (Traily.docOf t ref s = D) := Lib.hid (by rw [HDO.out, HD_.out, List.take_of_length_le (by omega)]; rfl)
          have HDO := HDE
          have HBf := Lib.hid (HB3.out.below BW.out HB3.out.lt)
          have HRf := Lib.hid (HR3.out.below BW.out HR3.out.lt)
          clear BW
          by_cases yd : 1000000 < D
          · have g5 : decide (D > 1000000) = true := decide_eq_true yd
            have g6 : decide ((1000000 : Int) < D) = true := decide_eq_true yd
            have HL := Lib.hid (load_large HR.out HDO.out yd)
            clear yd
            go_wp2_with (refine wpList_store_box rfl 41 (.tmp 4) (.tmp 51) rfl (w.heap.size + 1) #[.slice none 0 0, .int .i64 0] rfl rfl 41 _ HRf.out info_trl rfl (tc_one _ _ _ _) ?_; intro wz hxz huz hzz; have HZZ := Lib.hid hzz; clear hzz)
            refine bodyPost_ret (results_box_tmp rfl _ _ (w.heap.size + 1) 41 _ _ rfl hxz Tryz.underlying41 rfl info_trl) rfl ?_
            exact trOut_err HL.out rfl (by decide) rfl (HUf.out.trans (huz.own (by omega) HUf.out.size))
          · have g5 : decide (D > 1000000) = false := decide_eq_false yd
            have g6 : decide ((1000000 : Int) < D) = false := decide_eq_false yd
            have HL := Lib.hid (load_ok HR.out HDO.out yd)
            have HBL := Lib.hid (HBR.out s D)
            obtain ⟨TT, hTT⟩ : ∃ T, Traily.behind t ⟨s, [], D⟩ = T := ⟨_, rfl⟩
            rw [hTT] at HL HBL
            clear yd hTT
            go_wp2_with (refine wpList_load_row rfl 41 (.tmp 2) rfl w.heap.size rfl _ (tc v t.at') (0, 0) _ HBf.out Tryz.underlying41 rfl info_trl ?_)
            refine (HBL.out _ HUf.out).mono ?_
            rintro e w9 ⟨u, rfl, hown9, hb9⟩
            have HR9 := Lib.hid (HRf.out.below hb9 HRf.out.lt)
            have HO9 := Lib.hid hown9
            have HU9 := Lib.hid (HUf.out.trans (hb9.mono HUf.out.size))
            have hzf := HRf.out.lt
            clear hb9 hown9
            go_wp2_with (refine wpList_store_box rfl 41 (.tmp 4) (.tmp 56) rfl (w.heap.size + 1) (tc u TT.at') rfl rfl 41 _ HR9.out info_trl rfl (tc_own _ HO9.out) ?_; intro wz hxz huz hzz; have HZZ := Lib.hid hzz; clear hzz)
            refine bodyPost_ret (results_box_tmp rfl _ _ (w.heap.size + 1) 41 _ _ rfl hxz Tryz.underlying41 rfl info_trl) rfl ?_
            exact trOut_ok HL.out rfl (own_base (own_far HO9.out huz (by omega)) (by omega)) (HU9.out.trans (huz.own (by omega) HU9.out.size))
end Go.Proofs.YtdolmjeiakdfhaaGreatDoor
