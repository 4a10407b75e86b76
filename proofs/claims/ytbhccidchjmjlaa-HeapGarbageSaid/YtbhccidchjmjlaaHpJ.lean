/-
  Move: walked. Conditions: the cells and the roots read as rows; the roots take no more bytes than a row may.
-/
import Derived.Test.YtbhccidchjmjlaaHpI
namespace Go.Proofs.Ytbhccidchjmjlaa
set_option linter.unusedSimpArgs false
set_option linter.unusedVariables false
open Go.RowKit

theorem COwn.far {w w1 : World} {base : Nat} {x : CellV} {v : Value} (h : COwn w base x) (hg : w.grownBy w1 v.ownBlock) (ha : Apart x.as v) (hk : Apart x.ks v) : COwn w1 base x := ⟨own_grown h.a hg ha.ne, own_grown h.k hg hk.ne, h.z⟩
theorem apart_next {w : World} {base e k n : Nat} {u v : Value} {xs : List Value} {g m c : Nat} (h : w.ownsRow base e k u n xs) (ha : Apart u v) (hor : v.ownBlock = some g ∨ w.heap.size ≤ g) : Apart u (.slice (some ⟨g, 0, none⟩) m c) := fun b hb hg2 => by
  simp [Value.ownBlock] at hg2
  subst hg2
  rcases hor with h1 | h1
  · exact ha _ hb h1
  · have := (h.lt _ hb).2; omega
theorem apart_old {w : World} {base e k n : Nat} {u v : Value} {xs : List Value} {s : Nat} (h : w.ownsRow base e k u n xs) (hs : s ≤ base) (hv : ∀ g, v.ownBlock = some g → g < s) : Apart u v := fun b hb hg => by
  have h1 := (h.lt b hb).1
  have h2 := hv b hg
  omega
theorem own_ne' {w : World} {base g : Nat} {e : TypeId} {k n : Nat} {v : Value} {xs : List Value} (h : w.ownsRow base e k v n xs) (hg : w.heap.size ≤ g) : v.ownBlock = none ∨ v.ownBlock ≠ some g := by
  cases hv : v.ownBlock with
  | none => exact .inl rfl
  | some b => exact .inr (fun e => by injection e with e; have := (h.lt b hv).2; omega)
theorem COwn.lift {w0 w w1 : World} {base g : Nat} {x : CellV} (h0 : COwn w0 base x) (h : COwn w base x) (hu : Upd w w1 g) (hg : w0.heap.size ≤ g) : COwn w1 base x := ⟨own_grown h.a hu (own_ne' h0.a hg), own_grown h.k hu (own_ne' h0.k hg), h.z⟩
def MoveOut (w : World) (r : List Hepy.Cell × List Valu.V × Nat) (e : Ending) (w' : World) : Prop :=
  ∃ v v2 h', e = .returned (.tuple #[v, v2, .int .i64 (r.2.2 : Int)]) ∧ cells h' = r.1 ∧ HRd w' h' v ∧ RdL w' 3 vc r.2.1 v2 ∧ Below w.heap.size w w'
set_option maxRecDepth 100000 in
set_option maxHeartbeats 8000000 in
theorem Move_any (h : List CellV) (hv : Value) (l : List Valu.V) (v : Value) (w : World) (hr : HRd w h hv) (hl : RdL w 3 vc l v) (hz : Szs l) (hlz : l.length * 32 ≤ 140737488355328) :
    Calls Try.prog 10 #[hv, v] w fun e w' => MoveOut w (Hepy.move (cells h) l) e w' := by
  obtain ⟨i0, hi0, hz0_, hz1_, hz2_⟩ := info_parts parts_cell
  have HAS := Lib.hid (asked_any h hv l v w hr hl hz)
  obtain ⟨C, hC⟩ : ∃ C, Hepy.askedH (cells h) l = C := ⟨_, rfl⟩
  have HRE : Hid (Hepy.move (cells h) l = if C ≠ 0 then ([], [], C) else (Hepy.movedW (cells h) (Hepy.walked (cells h) l), l.map (Hepy.ren (Hepy.pos (Hepy.walked (cells h) l))), 0)) := by show _ = _; unfold Hepy.move Hepy.moved Hepy.movedR; rw [hC]
  rw [hC] at HAS
  have HC := Lib.hid hC
  have HH := Lib.hid hr
  have HL := Lib.hid hl
  obtain ⟨UA, ucap, rfl, hu1, hu2, _⟩ := hr.r
  obtain ⟨A, cap, rfl, hc1, hc2, -⟩ := hl
  clear hr hC
  go_enter Try.func10, Try.ntmps10
  go_wp2_with (fail)
  refine (HAS.out).mono ?_
  rintro en W ⟨rfl, hbW⟩
  have HU := Lib.hid hbW
  clear hbW
  by_cases y : C = 0
  · subst y
    have g1 : (((0 : Nat) : Int) != 0) = false := by simp
    obtain ⟨hright, hfit⟩ := Hepy.asked_zero.1 HC.out
    have hle : h.length ≤ 300 := by have := hright.le; rw [cells_len] at this; exact this
    have hld : ∀ v ∈ l, Hepy.Leads (cells h) v := fun v hv => (Hepy.fits_leads (List.all_eq_true.1 hfit v hv)).1
    have HRT := Lib.hid hright
    have HWK := Lib.hid (walked_any h _ l _ W (HH.out.below HU.out) (HL.out.below HU.out) hle hright.sound hld)
    have hcame := Hepy.walked_came hright.sound hld
    obtain ⟨al, hale⟩ : ∃ al, Hepy.walked (cells h) l = al := ⟨_, rfl⟩
    rw [hale] at HWK HRE hcame
    have hal : al.length ≤ 300 := by have := hcame.ok.len; rw [cells_len] at this; omega
    have HCA := Lib.hid hcame
    clear hright hfit hld hale hcame
    go_upto_region 4 with (fail)
    go_wp2_with (fail)
    refine (HWK.out).mono ?_
    rintro en W1 ⟨b, t, B, av, rfl, hb1, hb2, hb3, hb4, hws, hbe⟩
    have HU1 := Lib.hid (HU.out.trans (hbe.mono HU.out.size))
    have hzU := HU.out.size
    have hzU1 := HU1.out.size
    have HW := Lib.hid hws
    obtain ⟨A2, cap2, rfl⟩ := own_slice hws.own
    have HAL : Hid (RdL W1 1 ic (al.map fun n : Nat => (n : Int)) (.slice A2 al.length cap2)) := by
      refine Rd.ints (base := B) (e := 3) ?_
      rw [← nums_ints]
      have hln : (al.map fun n : Nat => (n : Int)).length = al.length := by simp
      rw [hln]; exact hws.own
    have c2 := hws.box.cell 2
    simp at c2
    clear hws hbe HWK
    go_upto_region 7 with (fail)
    clear c2
    go_loopg [9, 27] al.length (fun gg s9 s27 wr => ∃ (j : Nat) (acc : List CellV) (A9 : Option Addr) (cap9 : Nat), j ≤ al.length ∧ al.length - j ≤ gg ∧ s9 = .slice A9 acc.length cap9 ∧ s27 = .int .i64 (j : Int) ∧ acc.length ≤ j ∧ Hid (cells acc = (al.take j).map fun n => Hepy.renC (Hepy.pos al) (Hepy.at_ (cells h) n)) ∧ Hid (wr.ownsRow W1.heap.size 46 3 (.slice A9 acc.length cap9) acc.length (flat cc acc)) ∧ Hid (∀ x ∈ acc, COwn wr W1.heap.size x ∧ Apart x.as (.slice A9 acc.length cap9) ∧ Apart x.ks (.slice A9 acc.length cap9)) ∧ Hid (Below W1.heap.size W1 wr))
    case atStart => exact ⟨0, [], none, 0, Nat.zero_le _, by omega, rfl, rfl, Nat.le_refl _, rfl, World.ownsRow_nil _ _ _ _, fun x hx => by simp at hx, Below.refl _ _⟩
    case round =>
      obtain ⟨j, acc, A9, cap9, hj, hgg, rfl, rfl, haj, HAC, HOW, HEL, BW⟩ := hrel
      have hzr := BW.out.size
      by_cases hlt : j < al.length
      · have hlt2 : decide ((j : Int) < (al.length : Int)) = true := decide_eq_true (by omega)
        have hltz : (j : Int) < (al.length : Int) := by omega
        obtain ⟨N, hN⟩ : ∃ N, al[j]? = some N := ⟨_, List.getElem?_eq_getElem hlt⟩
        have hNm := List.mem_of_getElem? hN
        have hNl : N < h.length := by have := HCA.out.ok.lt N hNm; rw [cells_len] at this; exact this
        have hNz : (N : Int) < (h.length : Int) := by omega
        obtain ⟨x, hx⟩ : ∃ x, h[N]? = some x := ⟨_, List.getElem?_eq_getElem hNl⟩
        have hxm : x.c ∈ cells h := by unfold cells; exact List.mem_map.2 ⟨x, List.mem_of_getElem? hx, rfl⟩
        obtain ⟨A3, cap3, e3, _, _, hr3⟩ := HAL.out.below BW.out
        injection e3 with e3 e3' e4
        clear e3'
        subst e3
        subst e4
        obtain ⟨ga, oa, rfl, hga, hra⟩ := hr3 (by simp; omega)
        have ca := RdL.elem (k := 1) (f := ic) (fun _ => rfl) hra (j := j) (x := (N : Int)) (by rw [List.getElem?_map, hN]; rfl) 0 _ rfl
        simp only [Nat.mul_one, Nat.add_zero] at ca
        have HUr := Lib.hid (HU1.out.trans (BW.out.mono hzU1))
        have hrr := HH.out.below HUr.out
        have HCP := Lib.hid (copied_any x wr (hrr.n x (List.mem_of_getElem? hx)) (by have := HRT.out.names hxm; omega) (by have := HRT.out.vl x.c hxm; omega))
        have hvl : x.c.vals.length ≤ 200 := HRT.out.vl x.c hxm
        obtain ⟨A4, cap4, e4, _, _, hr4⟩ := hrr.r
        injection e4 with e4 _ e5
        subst e4
        subst e5
        obtain ⟨g, o, rfl, hg, hrg⟩ := hr4 (by omega)
        have hrange : Hid (wr.rangeAt g (o + N * 3) (cc x).toList) := RdL.elem (k := 3) (f := cc) (fun _ => rfl) hrg hx
        have hat := at_cells hx
        have hcl := HCA.out.cl N hNm (by simp)
        rw [hat] at hcl
        have HCLO := Lib.hid hcl
        have htk : Hid (((al.take (j + 1)).map fun n => Hepy.renC (Hepy.pos al) (Hepy.at_ (cells h) n)) = cells acc ++ [Hepy.renC (Hepy.pos al) x.c]) := by
          show _ = _
          rw [List.take_add_one, hN, List.map_append, HAC.out]
          simp [hat]
        clear hr3 hra hN hNm hx hxm hrr hr4 hrg hat hcl
        go_upto_region 9 with (fail)
        clear ca
        go_wp2_with (refine wpList_load_mid rfl 46 (.tmp 33) rfl g (o + N * 3) rfl (cc x).toList _ hrange.out Try.underlying46 rfl info_cell ?_)
        refine (HCP.out).mono ?_
        rintro en wa ⟨x', rfl, hxc, hcoa, hba⟩
        have BWa := Lib.hid (BW.out.trans (hba.mono hzr))
        have HOWa := Lib.hid (own_below HOW.out hba)
        have HELa : Hid (∀ y ∈ acc, COwn wa W1.heap.size y ∧ Apart y.as (.slice A9 acc.length cap9) ∧ Apart y.ks (.slice A9 acc.length cap9)) := fun y hy => ⟨(HEL.out y hy).1.below hba, (HEL.out y hy).2⟩
        have hza := hba.size
        have HCOa := Lib.hid hcoa
        have HXC := Lib.hid hxc
        have HLT := Lib.hid HOW.out.lt
        have hvl' : x'.c.vals.length ≤ 200 := by rw [hxc]; exact hvl
        clear hba hcoa hxc HCP hrange hvl
        go_upto_region 10 with (refine wpList_store_box rfl 46 (.tmp 12) (.tmp 35) rfl wa.heap.size (cc x') rfl rfl 46 _ (Box.new wa _ _) info_cell rfl (cc_one x') ?_; intro wb hxb hub hzb)
        have hbb : Below wa.heap.size wa wb := ((Below.refl _ wa).alloc (Nat.le_refl _) _).trans (hub.own (Nat.le_refl _) (by simp))
        have hzbb : wa.heap.size < wb.heap.size := hxb.lt
        have BWb := Lib.hid (BWa.out.trans (hbb.mono (by omega)))
        have HXB := Lib.hid hxb
        have HWb := Lib.hid (HW.out.below BWb.out)
        have HCOb := Lib.hid (HCOa.out.below hbb)
        have HOWb := Lib.hid (own_below HOWa.out hbb)
        have HELb : Hid (∀ y ∈ acc, COwn wb W1.heap.size y ∧ Apart y.as (.slice A9 acc.length cap9) ∧ Apart y.ks (.slice A9 acc.length cap9)) := fun y hy => ⟨(HELa.out y hy).1.below hbb, (HELa.out y hy).2⟩
        have HMV := Lib.hid (moved_any b t B h.length _ _ al x'.c.vals x'.ks wb HWb.out (Rd.own HCOb.out.k) (by omega) (fun m hm => by have := HCA.out.ok.lt m hm; rw [cells_len] at this; exact this) (by rw [HXC.out]; exact HCLO.out))
        have k2 : wb.cell? ⟨wa.heap.size, 2, none⟩ = some x'.ks := hxb.cell 2
        clear hxb hub hzb hbb
        go_wp2_with (fail)
        refine (HMV.out).mono ?_
        rintro en wc' ⟨v3, rfl, hown3, hb3c⟩
        obtain ⟨A5, cap5, rfl⟩ := own_slice hown3
        have HXc := Lib.hid (HXB.out.below hb3c hzbb)
        have k2c : wc'.cell? ⟨wa.heap.size, 2, none⟩ = some x'.ks := HXc.out.cell 2
        have f2c := HXc.out.frozen 2
        have HO3 := Lib.hid hown3
        have HB3c := Lib.hid hb3c
        have hzc := hb3c.size
        clear k2 hown3 hb3c HMV
        go_upto_region 11 with (fail)
        have hu4 : Upd wc' (wc'.setCell ⟨wa.heap.size, 2, none⟩ (.slice A5 x'.c.vals.length cap5)) wa.heap.size := (Upd.refl wc' _).set (p := ⟨wa.heap.size, 2, none⟩) (.inl rfl) _
        have hnl : (x'.c.vals.map (Hepy.ren (Hepy.pos al))).length = x'.c.vals.length := by simp
        have hks : (wc'.setCell ⟨wa.heap.size, 2, none⟩ (.slice A5 x'.c.vals.length cap5)).ownsRow wr.heap.size 31 3 (.slice A5 (x'.c.vals.map (Hepy.ren (Hepy.pos al))).length cap5) (x'.c.vals.map (Hepy.ren (Hepy.pos al))).length (flat vc (x'.c.vals.map (Hepy.ren (Hepy.pos al)))) := by
          rw [hnl]; exact own_base (own_grown HO3.out hu4 (own_ne HO3.out hzbb)) (by omega)
        refine gen_world (F := fun W4 => Box W4 wa.heap.size 46 #[.int .i64 x'.c.kind, x'.as, .slice A5 x'.c.vals.length cap5] ∧ COwn W4 wr.heap.size ⟨⟨x'.c.kind, x'.c.names, x'.c.vals.map (Hepy.ren (Hepy.pos al))⟩, x'.A, x'.ca, A5, cap5⟩ ∧ W4.ownsRow W1.heap.size 46 3 (.slice A9 acc.length cap9) acc.length (flat cc acc) ∧ (∀ y ∈ acc, COwn W4 W1.heap.size y ∧ Apart y.as (.slice A9 acc.length cap9) ∧ Apart y.ks (.slice A9 acc.length cap9)) ∧ Below W1.heap.size W1 W4 ∧ wc'.heap.size ≤ W4.heap.size)
          ⟨by have := HXc.out.set 2 (.slice A5 x'.c.vals.length cap5); simpa using this,
           ⟨own_grown (own_below HCOb.out.a HB3c.out) hu4 (own_ne' HCOa.out.a (Nat.le_refl _)), hks,
            fun v hv => by
              obtain ⟨y, hy, rfl⟩ := List.mem_map.1 hv
              have := HCOa.out.z y hy
              unfold Hepy.ren; split <;> exact this⟩,
           own_grown (own_below HOWb.out HB3c.out) hu4 (own_ne' HOW.out hza),
           fun y hy => ⟨(HEL.out y hy).1.lift ((HELb.out y hy).1.below HB3c.out) hu4 hza, (HELb.out y hy).2⟩,
           (BWb.out.trans (HB3c.out.mono (by omega))).setCell (p := ⟨wa.heap.size, 2, none⟩) (by show W1.heap.size ≤ wa.heap.size; omega) _, by simp [World.setCell]⟩ ?_
        rintro W4 ⟨bx4, co4, ow4, el4, hb4W, hz4⟩
        have HX4 := Lib.hid bx4
        have HC4 := Lib.hid co4
        have HO4 := Lib.hid ow4
        have HE4 := Lib.hid el4
        have HB4 := Lib.hid hb4W
        have hlt4 := Lib.hid HOW.out.lt
        have hz14 := hb4W.size
        have hx4lt := bx4.lt
        clear bx4 co4 ow4 el4 hb4W hu4 hks hnl k2c f2c HXc
        have hcc : cc (⟨⟨x'.c.kind, x'.c.names, x'.c.vals.map (Hepy.ren (Hepy.pos al))⟩, x'.A, x'.ca, A5, cap5⟩ : CellV) = #[.int .i64 x'.c.kind, x'.as, .slice A5 x'.c.vals.length cap5] := by simp
        have HCC := Lib.hid hcc
        clear hcc
        go_upto_region 12 with (first | (refine wpList_load_row rfl 46 (.tmp 12) rfl wa.heap.size rfl _ #[.int .i64 x'.c.kind, x'.as, .slice A5 x'.c.vals.length cap5] (0, 0) _ HX4.out Try.underlying46 rfl info_cell ?_) | (at_builtin; (refine wpList_append_lies _ rfl (.tmp 41) (.tmp 43) 22 rfl W1.heap.size 46 i0 _ 3 56 Try.underlying22 hi0 hz0_ hz1_ hz2_ rfl (by decide) _ acc.length (flat cc acc) rfl (HO4.out.alloc _) ⟨W4.heap.size, 0, none⟩ 1 1 [.int .i64 x'.c.kind, x'.as, .slice A5 x'.c.vals.length cap5] rfl rfl (World.news_of_block (Box.new W4 _ _)) (by simp [Value.oneCell']) (by omega) (by unfold maxLen; omega) (by omega) (by simp; omega) (W4.heap.size + 1) (by simp) ?_); intro g8 cap8 w8 hown8 hgr8 hor8 hlt8))
        have hb8 : Below W1.heap.size W4 w8 := (((Below.refl _ W4).alloc (by omega) _).trans (below_grown hgr8 (by simp; omega) (fun k hk => by
          have h1 := hlt4.out k hk; omega)))
        have HB8 := Lib.hid (HB4.out.trans hb8)
        have hal4 : W4.heap.size ≤ (W4.alloc (.cells #[.int .i64 x'.c.kind, x'.as, .slice A5 x'.c.vals.length cap5] 46)).heap.size := by simp
        have hor9 : (Value.slice A9 acc.length cap9).ownBlock = some g8 ∨ (W4.alloc (.cells #[.int .i64 x'.c.kind, x'.as, .slice A5 x'.c.vals.length cap5] 46)).heap.size ≤ g8 := hor8.elim (fun h => .inl h) (fun h => .inr (by rw [h]; simp))
        have HEL8 : Hid (∀ y ∈ acc ++ [(⟨⟨x'.c.kind, x'.c.names, x'.c.vals.map (Hepy.ren (Hepy.pos al))⟩, x'.A, x'.ca, A5, cap5⟩ : CellV)], COwn w8 W1.heap.size y ∧ Apart y.as (.slice (some ⟨g8, 0, none⟩) (acc.length + 1) cap8) ∧ Apart y.ks (.slice (some ⟨g8, 0, none⟩) (acc.length + 1) cap8)) := fun y hy => by
          rcases List.mem_append.1 hy with h1 | h1
          · obtain ⟨p1, p2, p3⟩ := HE4.out y h1
            have q1 := p1.below (below1 W4 (.cells #[.int .i64 x'.c.kind, x'.as, .slice A5 x'.c.vals.length cap5] 46))
            exact ⟨q1.far hgr8 p2 p3, apart_next q1.a p2 hor9, apart_next q1.k p3 hor9⟩
          · rw [List.mem_singleton] at h1
            subst h1
            have q0 := HC4.out
            have q1 := q0.below (below1 W4 (.cells #[.int .i64 x'.c.kind, x'.as, .slice A5 x'.c.vals.length cap5] 46))
            have p2 := apart_old q1.a (Nat.le_refl _) (fun g hg => (hlt4.out g hg).2)
            have p3 := apart_old q1.k (Nat.le_refl _) (fun g hg => (hlt4.out g hg).2)
            exact ⟨(q1.far hgr8 p2 p3).base hzr, apart_next q1.a p2 hor9, apart_next q1.k p3 hor9⟩
        have HO8 : Hid (w8.ownsRow W1.heap.size 46 3 (.slice (some ⟨g8, 0, none⟩) (acc.length + 1) cap8) (acc ++ [(⟨⟨x'.c.kind, x'.c.names, x'.c.vals.map (Hepy.ren (Hepy.pos al))⟩, x'.A, x'.ca, A5, cap5⟩ : CellV)]).length (flat cc (acc ++ [(⟨⟨x'.c.kind, x'.c.names, x'.c.vals.map (Hepy.ren (Hepy.pos al))⟩, x'.A, x'.ca, A5, cap5⟩ : CellV)]))) := by
          show World.ownsRow _ _ _ _ _ _ _
          rw [flat_append, List.length_append]
          have : flat cc [(⟨⟨x'.c.kind, x'.c.names, x'.c.vals.map (Hepy.ren (Hepy.pos al))⟩, x'.A, x'.ca, A5, cap5⟩ : CellV)] = [.int .i64 x'.c.kind, x'.as, .slice A5 x'.c.vals.length cap5] := by
            rw [flat_cons, HCC.out]; rfl
          rw [this]
          exact hown8
        have HKC : Hid (cells (acc ++ [(⟨⟨x'.c.kind, x'.c.names, x'.c.vals.map (Hepy.ren (Hepy.pos al))⟩, x'.A, x'.ca, A5, cap5⟩ : CellV)]) = (al.take (j + 1)).map fun n => Hepy.renC (Hepy.pos al) (Hepy.at_ (cells h) n)) := by
          show _ = _
          rw [htk.out, ← HXC.out]
          simp [cells, Hepy.renC]
        clear hown8 hgr8 hor8 hor9 hlt8 hb8 hal4
        go_wp2
        go_roundg (al.length - (j + 1))
        case measure => omega
        case rel => exact ⟨j + 1, _, some ⟨g8, 0, none⟩, cap8, by omega, by omega, by simp, by go_num, by simp; omega, HKC.out, by show World.ownsRow _ _ _ _ _ _ _; have := HO8.out; simpa using this, by show ∀ x ∈ _, _; have := HEL8.out; simpa using this, HB8.out⟩
      · have hlt2 : decide ((j : Int) < (al.length : Int)) = false := decide_eq_false (by omega)
        have HFIN : Hid (cells acc = Hepy.movedW (cells h) al) := by have := HAC.out; rw [List.take_of_length_le (by omega)] at this; exact this
        obtain ⟨wi, rfl⟩ : ∃ wi : World, wi = wr := ⟨_, rfl⟩
        have HUi := Lib.hid (HU1.out.trans (BW.out.mono hzU1))
        have HMV := Lib.hid (moved_any b t B h.length _ _ al l _ wi (HW.out.below BW.out) (HL.out.below HUi.out) hlz (fun m hm => by have := HCA.out.ok.lt m hm; rw [cells_len] at this; exact this) HCA.out.has)
        have HHI : Hid (HRd wi acc (.slice A9 acc.length cap9)) := ⟨Rd.own HOW.out, fun x hx => ((HEL.out x hx).1).rd⟩
        clear HOW HEL HAC BW HW
        go_wp2_with (fail)
        refine (HMV.out).mono ?_
        rintro en w9 ⟨v9, rfl, hown9, hb9⟩
        have HV9 : Hid (RdL w9 3 vc (l.map (Hepy.ren (Hepy.pos al))) v9) := by
          show Rd w9 3 (flat vc (l.map (Hepy.ren (Hepy.pos al)))) (l.map (Hepy.ren (Hepy.pos al))).length v9
          rw [List.length_map]
          exact Rd.own hown9
        have HH9 := Lib.hid (HHI.out.below hb9)
        have HU9 := Lib.hid (HUi.out.trans (hb9.mono HUi.out.size))
        clear hown9 hb9
        go_wp2
        go_returns
        exact ⟨_, _, acc, by rw [HRE.out]; rfl, by rw [HRE.out]; exact HFIN.out, HH9.out, by rw [HRE.out]; exact HV9.out, HU9.out⟩
  · have g1 : ((C : Int) != 0) = true := by simp; omega
    have Y := Lib.hid y
    clear y
    go_wp2
    go_returns
    exact ⟨_, _, [], by rw [HRE.out, if_pos Y.out]; rfl, by rw [HRE.out, if_pos Y.out]; rfl, ⟨Rd.nil _ _, fun x hx => by simp at hx⟩, by rw [HRE.out, if_pos Y.out]; exact Rd.nil _ _, HU.out⟩
end Go.Proofs.Ytbhccidchjmjlaa
