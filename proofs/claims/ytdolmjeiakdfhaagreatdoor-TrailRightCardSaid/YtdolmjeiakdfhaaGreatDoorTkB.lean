/-
  Where one is; documents; what a trail is checked for; resolved. Conditions: as each says.
-/
import Derived.Test.YtdolmjeiakdfhaaGreatDoorTkA
import Derived.Carry
namespace Traily
theorem docs_step {l : List Ent} {k : Nat} {x : Ent} (hx : l[k]? = some x) (s : List Int) (p : Option K) : docsK s p ((l.map key).drop k) = (inDoc x.doc && (if p.map (·.1) = some x.doc then decide (p = some (key x)) && docsK s (some (key x)) ((l.map key).drop (k + 1)) else !s.contains x.doc && docsK (x.doc :: s) (some (key x)) ((l.map key).drop (k + 1)))) := by
  have h : (l.map key)[k]? = some (key x) := by rw [List.getElem?_map, hx]; rfl
  have hlt := (List.getElem?_eq_some_iff.1 h).1
  have hd : (l.map key).drop k = key x :: (l.map key).drop (k + 1) := by rw [List.drop_eq_getElem_cons hlt, (List.getElem?_eq_some_iff.1 h).2]
  rw [hd, docsK]; rfl
def prev (l : List Ent) (k : Nat) : Option K := match k with
  | 0 => none
  | k + 1 => (l[k]?).map key
theorem prev_succ {l : List Ent} {k : Nat} {x : Ent} (hx : l[k]? = some x) : prev l (k + 1) = some (key x) := by show (l[k]?).map key = _; rw [hx]; rfl
end Traily
namespace Go.Proofs.YtdolmjeiakdfhaaGreatDoor
set_option linter.unusedSimpArgs false
set_option linter.unusedVariables false
open Go.RowKit Go.Maps
open Traily (Ent T)

set_option maxRecDepth 100000 in
set_option maxHeartbeats 4000000 in
theorem here_any (l : List Ent) (k : Nat) (x : Ent) (v : Value) (w : World) (hv : Rd w 3 (flat ec l) l.length v) (hk : l[k]? = some x) :
    Calls Tryz.prog 26 #[.agg (tc v (k : Int))] w fun e w' => e = .returned (.agg (ec x)) ∧ Below w.heap.size w w' := by
  obtain ⟨A, cap, rfl, hc1, hc2, hrow⟩ := hv
  have hlt := (List.getElem?_eq_some_iff.1 hk).1
  obtain ⟨g0, o0, rfl, hg0, hrg⟩ := hrow (by omega)
  have hltz : (k : Int) < (l.length : Int) := by omega
  have hrange : Hid (∀ W, Below w.heap.size w W → W.rangeAt g0 (o0 + k * 3) (ec x).toList) := fun W hW i u hu => by
    rw [hW.cell (p := ⟨g0, o0 + k * 3 + i, none⟩) hg0]
    exact RdL.elem (k := 3) (f := ec) (fun _ => rfl) hrg hk i u hu
  have hone := ec_one x
  obtain ⟨xc, hxc⟩ : ∃ xc, ec x = xc := ⟨_, rfl⟩
  have hsz : (Tryz.prog.info? 48).map (·.size) = some xc.size := by rw [← hxc]; exact info_ent
  have hszl : (Tryz.prog.info? 48).map (·.size) = some xc.toList.length := by rw [Array.length_toList]; exact hsz
  have h3 : Hid (xc.size = 3) := Lib.hid (by rw [← hxc]; rfl)
  rw [hxc] at hrange hone ⊢
  have HSZ := Lib.hid hsz
  have HSZL := Lib.hid hszl
  have HONE := Lib.hid hone
  clear hxc hrg hrow hk hsz hszl hone
  go_enter Tryz.func26, Tryz.ntmps26
  go_upto_region 1 with (fail)
  refine gen_world (F := fun W => Box W w.heap.size 41 (tc (.slice (some ⟨g0, o0, none⟩) l.length cap) (k : Int)) ∧ Box W (w.heap.size + 1) 48 #[.string ⟨#[]⟩, .string ⟨#[]⟩, .int .i64 0] ∧ Below w.heap.size w W) ⟨(Box.new w _ _).alloc _, by have := Box.new (w.alloc (.cells (tc (.slice (some ⟨g0, o0, none⟩) l.length cap) (k : Int)) 41)) 48 #[.string ⟨#[]⟩, .string ⟨#[]⟩, .int .i64 0]; simpa using this, (below1 w _).alloc (by simp) _⟩ ?_
  rintro W ⟨b0, b1, hU⟩
  have c0 := b0.cell 0
  have c1 := b0.cell 1
  simp [tc] at c0 c1
  have hb1 := Lib.hid b1
  have hbb := Lib.hid hU
  clear b0 b1 hU
  go_wp2_with (first | (refine wpList_load_mid rfl 48 (.tmp 7) rfl g0 (o0 + k * 3) rfl xc.toList _ (hrange.out _ hbb.out) Tryz.underlying48 rfl HSZL.out ?_) | (refine wpList_store_box rfl 48 (.tmp 2) (.tmp 8) rfl (w.heap.size + 1) xc rfl rfl 48 _ hb1.out HSZ.out (by rw [h3.out]; rfl) HONE.out ?_; intro wz hxz huz hzz; have HZZ := Lib.hid hzz; clear hzz))
  refine bodyPost_ret (results_box rfl _ _ (w.heap.size + 1) 48 _ _ rfl hxz Tryz.underlying48 rfl HSZ.out) rfl ?_
  exact ⟨rfl, hbb.out.trans (huz.own (by omega) hbb.out.size)⟩
theorem wf64 {n : Int} (h0 : 0 ≤ n) (h1 : n ≤ 1000000000) : (Lit.int .i64 n).wf = true := WalkArith.wf_i64 (by omega)
theorem egLong : ∀ args w, (callFunc 34 args).run Tryz.prog w = .ok (.enter 34 args) w := Go.Proofs.enters_of Tryz.func34 (by kernel_rfl) rfl
theorem egFoul : ∀ args w, (callFunc 35 args).run Tryz.prog w = .ok (.enter 35 args) w := Go.Proofs.enters_of Tryz.func35 (by kernel_rfl) rfl
set_option maxHeartbeats 1000000 in
theorem long_any (x : Ent) (w : World) : Calls Tryz.prog 34 #[.agg (ec x)] w (BoolOut (Traily.long x) w) := by
  have hz := byt_size x.state
  obtain ⟨S, hS⟩ : ∃ S, byt x.state = S := ⟨_, rfl⟩
  have hlong : Hid (Traily.long x = decide (2000 < x.state.length)) := Lib.hid rfl
  rw [hS] at hz
  unfold ec
  rw [hS]
  clear hS
  by_cases h : 2000 < x.state.length
  · have h1 : decide ((S.size : Int) > 2000) = true := decide_eq_true (by omega)
    have h2 : (2000 : Int) < (S.size : Int) := by omega
    have h3 : decide (2000 < S.size) = true := decide_eq_true (by omega)
    have HL := Lib.hid (hlong.out.trans (decide_eq_true h))
    clear h hz
    go_enter Tryz.func34, Tryz.ntmps34
    go_wp2
    go_ret
    exact ⟨by rw [HL.out] <;> rfl, below1 _ _⟩
  · have h1 : decide ((S.size : Int) > 2000) = false := decide_eq_false (by omega)
    have h2 : ¬ (2000 : Int) < (S.size : Int) := by omega
    have h3 : decide (2000 < S.size) = false := decide_eq_false (by omega)
    have h4 : (S.size : Int) ≤ 2000 := by omega
    have h5 : S.size ≤ 2000 := by omega
    have HL := Lib.hid (hlong.out.trans (decide_eq_false h))
    clear h hz
    go_enter Tryz.func34, Tryz.ntmps34
    go_wp2
    go_ret
    exact ⟨by rw [HL.out] <;> rfl, below1 _ _⟩
set_option maxHeartbeats 1000000 in
theorem foul_any (x : Ent) (w : World) (he : Env w) : Calls Tryz.prog 35 #[.agg (ec x)] w (BoolOut (Traily.foul x) w) := by
  have HC : Hid (∀ w1, Below w.heap.size w w1 → Calls Tryz.prog 36 #[.string (byt x.url)] w1 (BoolOut (Traily.isClean x.url) w1)) := Lib.hid (fun w1 h => tclean_any x.url w1 (he.below h))
  have HF : Hid (Traily.foul x = !Traily.isClean x.url) := Lib.hid rfl
  obtain ⟨b, hb⟩ : ∃ b, Traily.isClean x.url = b := ⟨_, rfl⟩
  obtain ⟨S, hS⟩ : ∃ S, byt x.url = S := ⟨_, rfl⟩
  rw [hb] at HC HF
  rw [hS] at HC
  unfold ec
  rw [hS]
  clear hb hS he
  go_enter Tryz.func35, Tryz.ntmps35
  go_wp2_with (fail)
  refine (HC.out _ (below1 w _)).mono ?_
  rintro e w1 ⟨rfl, hw1⟩
  have HW1 := Lib.hid ((below1 w (.cells #[.string S, .string (byt x.state), .int .i64 x.doc] 48)).trans (hw1.mono (by simp)))
  clear hw1
  go_wp2
  go_ret
  exact ⟨by rw [HF.out] <;> rfl, HW1.out⟩
set_option maxRecDepth 100000 in
set_option maxHeartbeats 8000000 in
theorem docs_any (l : List Ent) (v : Value) (w : World) (he : Env w) (hv : Rd w 3 (flat ec l) l.length v) (hl : l.length ≤ 50) :
    Calls Tryz.prog 37 #[v] w (BoolOut (Traily.docs l) w) := by
  have HORG : Hid (∀ s w1, Below w.heap.size w w1 → Calls Tryz.prog 55 #[.string (byt s)] w1 (TxtOut (Traily.org s) w1)) := Lib.hid (fun s w1 h => torigin_any s w1 (he.below h))
  obtain ⟨A, cap, rfl, hc1, hc2, hrow⟩ := hv
  have HR := Lib.hid hrow
  have hmm := @run_makeMap Tryz.prog
  clear hrow he
  go_enter Tryz.func37, Tryz.ntmps37
  go_upto_region 2 with (fail)
  have hb0 : Hid (Below w.heap.size w (w.alloc (.map #[] 0))) := Lib.hid (below1 w _)
  have hmo := World.ownsMap_made (H := Unit) w Tryz.prog 3 (plainElem Tryz.prog 3)
  obtain ⟨W, hW⟩ : ∃ W, w.alloc (.map #[] 0) = W := ⟨_, rfl⟩
  have hzW : w.heap.size < W.heap.size := by rw [← hW]; simp
  rw [hW] at hb0 hmo
  rw [hW]
  have hm0 : Hid (W.ownsMap Tryz.prog 3 (plainElem (H := Unit) Tryz.prog 3) w.heap.size 0 (Seeny.seen [])) := Lib.hid (by simpa [Seeny.seen, setOf] using hmo)
  clear hW hmo
  go_upto_region 3 with (fail)
  go_loopg [9] l.length (fun gg s9 wr => ∃ (k : Nat) (s : List Int), k ≤ l.length ∧ l.length - k ≤ gg ∧ s9 = .int .i64 (k : Int) ∧ s.length ≤ k ∧ Hid (Below w.heap.size w wr) ∧ W.heap.size ≤ wr.heap.size ∧ Hid (wr.ownsMap Tryz.prog 3 (plainElem (H := Unit) Tryz.prog 3) w.heap.size s.length (Seeny.seen s.reverse)) ∧ Hid (Traily.docs l = Traily.docsK s (Traily.prev l k) ((l.map Traily.key).drop k)))
  case atStart => exact ⟨0, [], Nat.zero_le _, by omega, rfl, Nat.le_refl _, hb0, Nat.le_refl _, hm0, rfl⟩
  case round =>
    obtain ⟨k, s, hk, hg, rfl, hs, BW, hzr, OM, DK⟩ := hrel
    by_cases hlt : k < l.length
    · have hlt2 : decide ((k : Int) < (l.length : Int)) = true := by simp; omega
      have hltz : (k : Int) < (l.length : Int) := by omega
      obtain ⟨x, hx⟩ : ∃ x, l[k]? = some x := ⟨_, List.getElem?_eq_getElem hlt⟩
      obtain ⟨g0, o0, rfl, hg0, hrg⟩ := HR.out (by omega)
      have hrange : Hid (wr.rangeAt g0 (o0 + k * 3) (ec x).toList) := fun i u hu => by
        rw [BW.out.cell (p := ⟨g0, o0 + k * 3 + i, none⟩) hg0]
        exact RdL.elem (k := 3) (f := ec) (fun _ => rfl) hrg hx i u hu
      have HX := Lib.hid hx
      have HRG := Lib.hid hrg
      have HG0 := Lib.hid hg0
      have HST : Hid (Traily.docs l = (Traily.inDoc x.doc && (if (Traily.prev l k).map (·.1) = some x.doc then decide (Traily.prev l k = some (Traily.key x)) && Traily.docsK s (Traily.prev l (k + 1)) ((l.map Traily.key).drop (k + 1)) else !s.contains x.doc && Traily.docsK (x.doc :: s) (Traily.prev l (k + 1)) ((l.map Traily.key).drop (k + 1))))) := Lib.hid (by rw [Traily.prev_succ hx]; exact DK.out.trans (Traily.docs_step hx s _))
      clear hx hrg hg0 DK
      go_upto_region 5 with (first | (refine wpList_load_mid rfl 48 (.tmp 12) rfl g0 (o0 + k * 3) rfl (ec x).toList _ hrange.out Tryz.underlying48 rfl info_ent ?_) | (refine wpList_store_box rfl 48 (.tmp 5) (.tmp 13) rfl wr.heap.size (ec x) rfl rfl 48 _ (Box.new wr _ _) info_ent rfl (ec_one x) ?_; intro w4 hx4 hu4 hz4; have HZ4 := Lib.hid hz4; clear hz4))
      have hb4 : Below wr.heap.size wr w4 := ((Below.refl _ wr).alloc (Nat.le_refl _) _).trans (hu4.own (Nat.le_refl _) (by simp))
      have HW4 : Hid (Below w.heap.size w w4) := Lib.hid (BW.out.trans (hb4.mono BW.out.size))
      have hz4 : wr.heap.size < w4.heap.size := hx4.lt
      have OM4 : Hid (w4.ownsMap Tryz.prog 3 (plainElem (H := Unit) Tryz.prog 3) w.heap.size s.length (Seeny.seen s.reverse)) := Lib.hid (OM.out.kept (w' := w4) (row := none) ⟨hb4.os, hb4.tape, hb4.output, hb4.size, fun i hi _ => hb4.block i hi⟩ (by simp))
      have hzm : w.heap.size < w4.heap.size := by omega
      obtain ⟨d, hd⟩ : ∃ d, x.doc = d := ⟨_, rfl⟩
      have c2 := hx4.cell 2
      have c0 := hx4.cell 0
      simp [ec] at c0 c2
      rw [hd] at c2 HST
      obtain ⟨XU, hXU⟩ : ∃ S, byt x.url = S := ⟨_, rfl⟩
      rw [hXU] at c0
      have cxu := c0
      have HD := Lib.hid hd
      have HX4 := Lib.hid hx4
      have HBW := Lib.hid BW.out
      clear hrange hu4 hb4 hd hx4 BW OM c0
      by_cases y1 : d < 0
      · have g1 : decide (d < 0) = true := decide_eq_true y1
        have HF : Hid (Traily.docs l = false) := Lib.hid (by rw [HST.out]; unfold Traily.inDoc; rw [decide_eq_false (show ¬ 0 ≤ d by omega)]; rfl)
        clear y1
        go_wp2
        go_ret
        exact ⟨by rw [HF.out] <;> rfl, HW4.out⟩
      have g1 : decide (d < 0) = false := decide_eq_false y1
      by_cases y2 : 1000000 < d
      · have g2 : decide (d > 1000000) = true := decide_eq_true y2
        have g3 : decide ((1000000 : Int) < d) = true := decide_eq_true y2
        have HF : Hid (Traily.docs l = false) := Lib.hid (by rw [HST.out]; unfold Traily.inDoc; rw [decide_eq_false (show ¬ d ≤ 1000000 by omega)]; simp)
        clear y1
        go_wp2
        go_ret
        exact ⟨by rw [HF.out] <;> rfl, HW4.out⟩
      have g2 : decide (d > 1000000) = false := decide_eq_false y2
      have g3 : decide ((1000000 : Int) < d) = false := decide_eq_false y2
      have hin : Traily.inDoc d = true := by unfold Traily.inDoc; simp; omega
      rw [hin, Bool.true_and] at HST
      have hwf : (Lit.int .i64 d).wf = true := wf64 (by omega) (by omega)
      have hkey := keyOf_int_mk (P := Tryz.prog) Tryz.underlying3 hwf
      have HKEY := Lib.hid hkey
      have HY1 := Lib.hid y1
      have HY2 := Lib.hid y2
      clear hin hwf hkey y1 y2
      go_upto_region 7 with (fail)
      cases k with
      | zero =>
        have k1 : decide (((0 : Nat) : Int) > 0) = false := rfl
        have HNO : Hid (¬ (Traily.prev l 0).map (·.1) = some d) := Lib.hid (by simp [Traily.prev])
        go_quiet (fail)
        obtain ⟨w6, hw6⟩ : ∃ w6, w4.drewN nq = w6 := ⟨_, rfl⟩
        have hd6 : Below w4.heap.size w4 w6 := hw6 ▸ below_drewN (Below.refl _ w4) nq
        rw [hw6]
        have c26 : w6.cell? ⟨wr.heap.size, 2, none⟩ = some (.int .i64 d) := (hd6.cell (p := ⟨wr.heap.size, 2, none⟩) hz4).trans c2
        clear c2 cxu hw6 k1
        have OM6 : Hid (w6.ownsMap Tryz.prog 3 (plainElem (H := Unit) Tryz.prog 3) w.heap.size s.length (Seeny.seen s.reverse)) := Lib.hid (OM4.out.kept (w' := w6) (row := none) ⟨hd6.os, hd6.tape, hd6.output, hd6.size, fun i hi _ => hd6.block i hi⟩ (by simp))
        have HW6 : Hid (Below w.heap.size w w6) := Lib.hid (HW4.out.trans (hd6.mono HW4.out.size))
        have hz6 := hd6.size
        obtain ⟨c, hrun, hat, _⟩ := OM6.out.lookup_int (t := 104) intKey Tryz.underlying104 Tryz.underlying3 (zero_intv _) HKEY.out
        have hc1 := Seeny.seen_num hat
        obtain ⟨b2, hb2⟩ : ∃ b2, s.contains d = b2 := ⟨_, rfl⟩
        rw [hb2] at hc1
        clear hat hd6 OM4
        cases b2 with
        | true =>
          have HF : Hid (Traily.docs l = false) := Lib.hid (by rw [HST.out, if_neg HNO.out, hb2]; rfl)
          clear hb2
          go_wp2
          go_ret
          exact ⟨by rw [HF.out] <;> rfl, HW6.out⟩
        | false =>
          have HN : Hid (Traily.docs l = Traily.docsK (d :: s) (Traily.prev l (0 + 1)) ((l.map Traily.key).drop (0 + 1))) := Lib.hid (by rw [HST.out, if_neg HNO.out, hb2]; rfl)
          clear hb2
          go_wp2_with (at_mapUpdate; refine wpList_mapUpdate_own _ rfl _ _ _ 104 rfl 3 3 intKey Tryz.underlying104 _ w.heap.size s.length _ rfl OM6.out (by unfold maxLen; omega) _ _ _ rfl rfl HKEY.out _ [] (plainElem_int Tryz.underlying3 (by decide)) ?_; intro w8 hown8 hgrow8)
          have h8 : Below w.heap.size w6 w8 := Upd.own (B := w.heap.size) hgrow8 (Nat.le_refl _) (by omega)
          have hz8 := h8.size
          go_roundg (l.length - (0 + 1))
          case measure => omega
          case rel =>
            refine ⟨0 + 1, d :: s, by omega, by omega, by go_num, by simp at hs ⊢; omega, HW6.out.trans h8, by omega, ?_, HN⟩
            show World.ownsMap _ _ _ _ _ _ _
            rw [List.reverse_cons, Seeny.seen_snoc]; exact hown8
      | succ j =>
        obtain ⟨p, hp⟩ : ∃ p, l[j]? = some p := ⟨_, List.getElem?_eq_getElem (by omega)⟩
        have hpr : Traily.prev l (j + 1) = some (Traily.key p) := Traily.prev_succ hp
        rw [hpr] at HST
        have hrp : w4.rangeAt g0 (o0 + j * 3) (ec p).toList := fun i u hu => by
          rw [HW4.out.cell (p := ⟨g0, o0 + j * 3 + i, none⟩) HG0.out]
          exact RdL.elem (k := 3) (f := ec) (fun _ => rfl) HRG.out hp i u hu
        have cpu := hrp 0 _ rfl
        have cpd := hrp 2 _ rfl
        simp at cpu cpd
        obtain ⟨q, hq⟩ : ∃ q, p.doc = q := ⟨_, rfl⟩
        obtain ⟨PU, hPU⟩ : ∃ S, byt p.url = S := ⟨_, rfl⟩
        rw [hPU] at cpu
        rw [hq] at cpd
        have hj0 : (j : Int) < (l.length : Int) := by omega
        have hj1 : j < l.length := by omega
        have hj2 : ((j : Int) + 1 : Int) > 0 := by omega
        have k1 : decide (((j : Int) + 1 : Int) > 0) = true := decide_eq_true hj2
        have hjm : ((j : Int) + 1 - 1) = (j : Int) := by omega
        clear hrp hp hpr
        by_cases y3 : q = d
        · have g4 : (q == d) = true := by simp [y3]
          have HPK : Hid ((some (Traily.key p)).map (·.1) = some d) := Lib.hid (by show some p.doc = some d; rw [hq, y3])
          have HPO : Hid (decide (some (Traily.key p) = some (Traily.key x)) = decide (Traily.org p.url = Traily.org x.url)) := Lib.hid (decide_eq_decide.2 (by unfold Traily.key; rw [HD.out, hq, y3]; simp))
          have HS2 : Hid (Traily.docs l = (decide (Traily.org p.url = Traily.org x.url) && Traily.docsK s (Traily.prev l (j + 1 + 1)) ((l.map Traily.key).drop (j + 1 + 1)))) := Lib.hid (by rw [HST.out, if_pos HPK.out, HPO.out])
          have HOA : Hid (∀ w1, Below w4.heap.size w4 w1 → Calls Tryz.prog 55 #[.string PU] w1 (TxtOut (Traily.org p.url) w1)) := Lib.hid (fun w1 h => by rw [← hPU]; exact HORG.out p.url w1 (HW4.out.trans (h.mono HW4.out.size)))
          have HOB : Hid (∀ w1, Below w4.heap.size w4 w1 → Calls Tryz.prog 55 #[.string XU] w1 (TxtOut (Traily.org x.url) w1)) := Lib.hid (fun w1 h => by rw [← hXU]; exact HORG.out x.url w1 (HW4.out.trans (h.mono HW4.out.size)))
          clear HST HPK HPO hq hPU hXU y3
          go_quiet (fail)
          obtain ⟨w7, hw7⟩ : ∃ w7, w4.drewN nq = w7 := ⟨_, rfl⟩
          have hd7 : Below w4.heap.size w4 w7 := hw7 ▸ below_drewN (Below.refl _ w4) nq
          rw [hw7]
          have cpu7 : w7.cell? ⟨g0, o0 + j * 3, none⟩ = some (.string PU) := (hd7.cell (p := ⟨g0, o0 + j * 3, none⟩) (block_lt_of_cell cpu)).trans cpu
          have cxu7 : w7.cell? ⟨wr.heap.size, 0, none⟩ = some (.string XU) := (hd7.cell (p := ⟨wr.heap.size, 0, none⟩) hz4).trans cxu
          have HD7 := Lib.hid hd7
          clear c2 cxu cpu cpd hw7 hd7 k1 hj2
          obtain ⟨OA, hOA⟩ : ∃ S, byt (Traily.org p.url) = S := ⟨_, rfl⟩
          obtain ⟨OB, hOB⟩ : ∃ S, byt (Traily.org x.url) = S := ⟨_, rfl⟩
          unfold TxtOut at HOA HOB
          rw [hOA] at HOA
          rw [hOB] at HOB
          by_cases y4 : Traily.org p.url = Traily.org x.url
          · have HN : Hid (Traily.docs l = Traily.docsK s (Traily.prev l (j + 1 + 1)) ((l.map Traily.key).drop (j + 1 + 1))) := Lib.hid (by rw [HS2.out, decide_eq_true y4]; rfl)
            have hab : OA = OB := by rw [← hOA, ← hOB, y4]
            subst hab
            obtain ⟨q1, q2⟩ := same_yes OA
            clear hOA hOB y4
            go_upto_region 8 with (fail)
            refine wp_region_held_drew (S := fun w' => Below w4.heap.size w4 w' ∧ w'.cell? ⟨g0, o0 + j * 3, none⟩ = some (.string PU) ∧ w'.cell? ⟨wr.heap.size, 0, none⟩ = some (.string XU)) (by kernel_rfl) ⟨HD7.out.drew, cpu7, cxu7⟩ (fun hHeld => ?_)
            refine wpAnyH_take (i := 0) (v := ?_) rfl (by kernel_rfl) (by kernel_rfl) (by kernel_rfl) (fun _ _ _ h => h) (Or.inl ⟨by kernel_rfl, ?_⟩) (by assumption) ?_
            rotate_left
            · intro w hSw
              (try dsimp only at hSw)
              go_simp
              try (with_reducible rfl)
            (try simp only [Act.put, List.getElem_toArray, List.getElem_cons_zero, List.setIfInBounds_toArray, List.set_cons_zero, List.set_cons_succ])
            refine wpAnyH_take (i := 1) (v := ?_) rfl (by kernel_rfl) (by kernel_rfl) (by kernel_rfl) (fun _ _ _ h => h) (Or.inl ⟨by kernel_rfl, ?_⟩) (by assumption) ?_
            rotate_left
            · intro w hSw
              (try dsimp only at hSw)
              go_simp
              try (with_reducible rfl)
            (try simp only [Act.put, List.getElem_toArray, List.getElem_cons_succ, List.getElem_cons_zero, List.setIfInBounds_toArray, List.set_cons_zero, List.set_cons_succ])
            refine wpAnyH_take (i := 2) (v := .int .i64 (j : Int)) rfl (by kernel_rfl) (by kernel_rfl) (by kernel_rfl) (fun _ _ _ h => h) (Or.inl ⟨by kernel_rfl, ?_⟩) (by assumption) ?_
            · intro w hSw
              go_simp
              rw [IntKind.wrap_i64]; omega
            (try simp only [Act.put, List.getElem_toArray, List.getElem_cons_succ, List.getElem_cons_zero, List.setIfInBounds_toArray, List.set_cons_zero, List.set_cons_succ])
            refine wpAnyH_take (i := 3) (v := .pointer (some ⟨g0, o0 + j * 3, none⟩)) rfl (by kernel_rfl) (by kernel_rfl) (by kernel_rfl) (fun _ _ _ h => h) (Or.inl ⟨by kernel_rfl, ?_⟩) (by assumption) ?_
            · intro w hSw
              go_simp
            (try simp only [Act.put, List.getElem_toArray, List.getElem_cons_succ, List.getElem_cons_zero, List.setIfInBounds_toArray, List.set_cons_zero, List.set_cons_succ])
            refine wpAnyH_take (i := 4) (v := ?_) rfl (by kernel_rfl) (by kernel_rfl) (by kernel_rfl) (fun _ _ _ h => h) (Or.inl ⟨by kernel_rfl, ?_⟩) (by assumption) ?_
            rotate_left
            · intro w hSw
              (try dsimp only at hSw)
              go_simp
              try (with_reducible rfl)
            (try simp only [Act.put, List.getElem_toArray, List.getElem_cons_succ, List.getElem_cons_zero, List.setIfInBounds_toArray, List.set_cons_zero, List.set_cons_succ])
            refine wpAnyH_take (i := 5) (v := ?_) rfl (by kernel_rfl) (by kernel_rfl) (by kernel_rfl) (fun _ _ _ h => h) (Or.inl ⟨by kernel_rfl, ?_⟩) (by assumption) ?_
            rotate_left
            · intro w hSw
              (try dsimp only at hSw)
              go_simp
              try (with_reducible rfl)
            (try simp only [Act.put, List.getElem_toArray, List.getElem_cons_succ, List.getElem_cons_zero, List.setIfInBounds_toArray, List.set_cons_zero, List.set_cons_succ])
            refine wpAnyH_take (i := 7) (v := ?_) rfl (by kernel_rfl) (by kernel_rfl) (by kernel_rfl) (fun _ _ _ h => h) (Or.inl ⟨by kernel_rfl, ?_⟩) (by assumption) ?_
            rotate_left
            · intro w hSw
              (try dsimp only at hSw)
              go_simp
              try (with_reducible rfl)
            (try simp only [Act.put, List.getElem_toArray, List.getElem_cons_succ, List.getElem_cons_zero, List.setIfInBounds_toArray, List.set_cons_zero, List.set_cons_succ])
            refine wpAnyH_take (i := 8) (v := ?_) rfl (by kernel_rfl) (by kernel_rfl) (by kernel_rfl) (fun _ _ _ h => h) (Or.inl ⟨by kernel_rfl, ?_⟩) (by assumption) ?_
            rotate_left
            · intro w hSw
              (try dsimp only at hSw)
              go_simp
              try (with_reducible rfl)
            (try simp only [Act.put, List.getElem_toArray, List.getElem_cons_succ, List.getElem_cons_zero, List.setIfInBounds_toArray, List.set_cons_zero, List.set_cons_succ])
            refine wpAnyH_ready (rs := [6]) (by kernel_rfl) (by simp) ?_
            refine AllReadyH.cons rfl (fun K hK => ?_) AllReadyH.nil
            go_simp
            refine (HOA.out _ hHeld.1).mono ?_
            rintro e w5 ⟨rfl, hb5⟩
            go_wp2_with (fail)
            refine hK.out _ _ ?_ (fun hHeld => ?_)
            · exact ⟨hHeld.1.trans (hb5.mono hHeld.1.size), (hb5.cell (p := ⟨g0, o0 + j * 3, none⟩) (block_lt_of_cell hHeld.2.1)).trans hHeld.2.1, (hb5.cell (p := ⟨wr.heap.size, 0, none⟩) (block_lt_of_cell hHeld.2.2)).trans hHeld.2.2⟩
            clear hK K hb5
            (try simp only [Act.put, List.getElem_toArray, List.getElem_cons_succ, List.getElem_cons_zero, List.setIfInBounds_toArray, List.set_cons_zero, List.set_cons_succ])
            refine wpAnyH_ready (rs := [9]) (by kernel_rfl) (by simp) ?_
            refine AllReadyH.cons rfl (fun K hK => ?_) AllReadyH.nil
            go_simp
            refine (HOB.out _ hHeld.1).mono ?_
            rintro e w5 ⟨rfl, hb5⟩
            go_wp2_with (fail)
            refine hK.out _ _ ?_ (fun hHeld => ?_)
            · exact ⟨hHeld.1.trans (hb5.mono hHeld.1.size), (hb5.cell (p := ⟨g0, o0 + j * 3, none⟩) (block_lt_of_cell hHeld.2.1)).trans hHeld.2.1, (hb5.cell (p := ⟨wr.heap.size, 0, none⟩) (block_lt_of_cell hHeld.2.2)).trans hHeld.2.2⟩
            clear hK K hb5
            (try simp only [Act.put, List.getElem_toArray, List.getElem_cons_succ, List.getElem_cons_zero, List.setIfInBounds_toArray, List.set_cons_zero, List.set_cons_succ])
            refine wpAnyH_take (i := 10) (v := ?_) rfl (by kernel_rfl) (by kernel_rfl) (by kernel_rfl) (fun _ _ _ h => h) (Or.inl ⟨by kernel_rfl, ?_⟩) (by assumption) ?_
            rotate_left
            · intro w hSw
              (try dsimp only at hSw)
              go_simp
              try (with_reducible rfl)
            (try simp only [Act.put, List.getElem_toArray, List.getElem_cons_succ, List.getElem_cons_zero, List.setIfInBounds_toArray, List.set_cons_zero, List.set_cons_succ])
            refine wpAnyH_done (by kernel_rfl) ?_ _
            go_wp2
            have h8 := hHeld.1
            have hz8 := h8.size
            go_roundg (l.length - (j + 1 + 1))
            case measure => omega
            case rel => exact ⟨j + 1 + 1, s, by omega, by omega, by go_num, by omega, HW4.out.trans (h8.mono HW4.out.size), by omega, OM4.out.kept (row := none) ⟨h8.os, h8.tape, h8.output, h8.size, fun i hi _ => h8.block i hi⟩ (by simp), HN⟩
          · have HF : Hid (Traily.docs l = false) := Lib.hid (by rw [HS2.out, decide_eq_false y4]; rfl)
            have hne : OA ≠ OB := by rw [← hOA, ← hOB]; exact byt_ne y4
            obtain ⟨q1, q2, q3⟩ := same_no hne
            have q4 := of_decide_eq_false q2
            clear hOA hOB y4 hne
            go_upto_region 8 with (fail)
            refine wp_region_held_drew (S := fun w' => Below w4.heap.size w4 w' ∧ w'.cell? ⟨g0, o0 + j * 3, none⟩ = some (.string PU) ∧ w'.cell? ⟨wr.heap.size, 0, none⟩ = some (.string XU)) (by kernel_rfl) ⟨HD7.out.drew, cpu7, cxu7⟩ (fun hHeld => ?_)
            refine wpAnyH_take (i := 0) (v := ?_) rfl (by kernel_rfl) (by kernel_rfl) (by kernel_rfl) (fun _ _ _ h => h) (Or.inl ⟨by kernel_rfl, ?_⟩) (by assumption) ?_
            rotate_left
            · intro w hSw
              (try dsimp only at hSw)
              go_simp
              try (with_reducible rfl)
            (try simp only [Act.put, List.getElem_toArray, List.getElem_cons_zero, List.setIfInBounds_toArray, List.set_cons_zero, List.set_cons_succ])
            refine wpAnyH_take (i := 1) (v := ?_) rfl (by kernel_rfl) (by kernel_rfl) (by kernel_rfl) (fun _ _ _ h => h) (Or.inl ⟨by kernel_rfl, ?_⟩) (by assumption) ?_
            rotate_left
            · intro w hSw
              (try dsimp only at hSw)
              go_simp
              try (with_reducible rfl)
            (try simp only [Act.put, List.getElem_toArray, List.getElem_cons_succ, List.getElem_cons_zero, List.setIfInBounds_toArray, List.set_cons_zero, List.set_cons_succ])
            refine wpAnyH_take (i := 2) (v := .int .i64 (j : Int)) rfl (by kernel_rfl) (by kernel_rfl) (by kernel_rfl) (fun _ _ _ h => h) (Or.inl ⟨by kernel_rfl, ?_⟩) (by assumption) ?_
            · intro w hSw
              go_simp
              rw [IntKind.wrap_i64]; omega
            (try simp only [Act.put, List.getElem_toArray, List.getElem_cons_succ, List.getElem_cons_zero, List.setIfInBounds_toArray, List.set_cons_zero, List.set_cons_succ])
            refine wpAnyH_take (i := 3) (v := .pointer (some ⟨g0, o0 + j * 3, none⟩)) rfl (by kernel_rfl) (by kernel_rfl) (by kernel_rfl) (fun _ _ _ h => h) (Or.inl ⟨by kernel_rfl, ?_⟩) (by assumption) ?_
            · intro w hSw
              go_simp
            (try simp only [Act.put, List.getElem_toArray, List.getElem_cons_succ, List.getElem_cons_zero, List.setIfInBounds_toArray, List.set_cons_zero, List.set_cons_succ])
            refine wpAnyH_take (i := 4) (v := ?_) rfl (by kernel_rfl) (by kernel_rfl) (by kernel_rfl) (fun _ _ _ h => h) (Or.inl ⟨by kernel_rfl, ?_⟩) (by assumption) ?_
            rotate_left
            · intro w hSw
              (try dsimp only at hSw)
              go_simp
              try (with_reducible rfl)
            (try simp only [Act.put, List.getElem_toArray, List.getElem_cons_succ, List.getElem_cons_zero, List.setIfInBounds_toArray, List.set_cons_zero, List.set_cons_succ])
            refine wpAnyH_take (i := 5) (v := ?_) rfl (by kernel_rfl) (by kernel_rfl) (by kernel_rfl) (fun _ _ _ h => h) (Or.inl ⟨by kernel_rfl, ?_⟩) (by assumption) ?_
            rotate_left
            · intro w hSw
              (try dsimp only at hSw)
              go_simp
              try (with_reducible rfl)
            (try simp only [Act.put, List.getElem_toArray, List.getElem_cons_succ, List.getElem_cons_zero, List.setIfInBounds_toArray, List.set_cons_zero, List.set_cons_succ])
            refine wpAnyH_take (i := 7) (v := ?_) rfl (by kernel_rfl) (by kernel_rfl) (by kernel_rfl) (fun _ _ _ h => h) (Or.inl ⟨by kernel_rfl, ?_⟩) (by assumption) ?_
            rotate_left
            · intro w hSw
              (try dsimp only at hSw)
              go_simp
              try (with_reducible rfl)
            (try simp only [Act.put, List.getElem_toArray, List.getElem_cons_succ, List.getElem_cons_zero, List.setIfInBounds_toArray, List.set_cons_zero, List.set_cons_succ])
            refine wpAnyH_take (i := 8) (v := ?_) rfl (by kernel_rfl) (by kernel_rfl) (by kernel_rfl) (fun _ _ _ h => h) (Or.inl ⟨by kernel_rfl, ?_⟩) (by assumption) ?_
            rotate_left
            · intro w hSw
              (try dsimp only at hSw)
              go_simp
              try (with_reducible rfl)
            (try simp only [Act.put, List.getElem_toArray, List.getElem_cons_succ, List.getElem_cons_zero, List.setIfInBounds_toArray, List.set_cons_zero, List.set_cons_succ])
            refine wpAnyH_ready (rs := [6]) (by kernel_rfl) (by simp) ?_
            refine AllReadyH.cons rfl (fun K hK => ?_) AllReadyH.nil
            go_simp
            refine (HOA.out _ hHeld.1).mono ?_
            rintro e w5 ⟨rfl, hb5⟩
            go_wp2_with (fail)
            refine hK.out _ _ ?_ (fun hHeld => ?_)
            · exact ⟨hHeld.1.trans (hb5.mono hHeld.1.size), (hb5.cell (p := ⟨g0, o0 + j * 3, none⟩) (block_lt_of_cell hHeld.2.1)).trans hHeld.2.1, (hb5.cell (p := ⟨wr.heap.size, 0, none⟩) (block_lt_of_cell hHeld.2.2)).trans hHeld.2.2⟩
            clear hK K hb5
            (try simp only [Act.put, List.getElem_toArray, List.getElem_cons_succ, List.getElem_cons_zero, List.setIfInBounds_toArray, List.set_cons_zero, List.set_cons_succ])
            refine wpAnyH_ready (rs := [9]) (by kernel_rfl) (by simp) ?_
            refine AllReadyH.cons rfl (fun K hK => ?_) AllReadyH.nil
            go_simp
            refine (HOB.out _ hHeld.1).mono ?_
            rintro e w5 ⟨rfl, hb5⟩
            go_wp2_with (fail)
            refine hK.out _ _ ?_ (fun hHeld => ?_)
            · exact ⟨hHeld.1.trans (hb5.mono hHeld.1.size), (hb5.cell (p := ⟨g0, o0 + j * 3, none⟩) (block_lt_of_cell hHeld.2.1)).trans hHeld.2.1, (hb5.cell (p := ⟨wr.heap.size, 0, none⟩) (block_lt_of_cell hHeld.2.2)).trans hHeld.2.2⟩
            clear hK K hb5
            (try simp only [Act.put, List.getElem_toArray, List.getElem_cons_succ, List.getElem_cons_zero, List.setIfInBounds_toArray, List.set_cons_zero, List.set_cons_succ])
            refine wpAnyH_take (i := 10) (v := ?_) rfl (by kernel_rfl) (by kernel_rfl) (by kernel_rfl) (fun _ _ _ h => h) (Or.inl ⟨by kernel_rfl, ?_⟩) (by assumption) ?_
            rotate_left
            · intro w hSw
              (try dsimp only at hSw)
              go_simp
              try (with_reducible rfl)
            (try simp only [Act.put, List.getElem_toArray, List.getElem_cons_succ, List.getElem_cons_zero, List.setIfInBounds_toArray, List.set_cons_zero, List.set_cons_succ])
            refine wpAnyH_done (by kernel_rfl) ?_ _
            go_wp2
            go_ret
            exact ⟨by rw [HF.out] <;> rfl, HW4.out.trans (hHeld.1.mono HW4.out.size)⟩
        · have g4 : (q == d) = false := by rw [beq_eq_false_iff_ne]; exact y3
          have HNO : Hid (¬ (some (Traily.key p)).map (·.1) = some d) := Lib.hid (by show ¬ some p.doc = some d; rw [hq]; simpa using y3)
          clear hq hPU hXU y3
          go_quiet (fail)
          obtain ⟨w6, hw6⟩ : ∃ w6, w4.drewN nq = w6 := ⟨_, rfl⟩
          have hd6 : Below w4.heap.size w4 w6 := hw6 ▸ below_drewN (Below.refl _ w4) nq
          rw [hw6]
          have c26 : w6.cell? ⟨wr.heap.size, 2, none⟩ = some (.int .i64 d) := (hd6.cell (p := ⟨wr.heap.size, 2, none⟩) hz4).trans c2
          clear c2 cxu cpu cpd hw6 k1 hj2
          have OM6 : Hid (w6.ownsMap Tryz.prog 3 (plainElem (H := Unit) Tryz.prog 3) w.heap.size s.length (Seeny.seen s.reverse)) := Lib.hid (OM4.out.kept (w' := w6) (row := none) ⟨hd6.os, hd6.tape, hd6.output, hd6.size, fun i hi _ => hd6.block i hi⟩ (by simp))
          have HW6 : Hid (Below w.heap.size w w6) := Lib.hid (HW4.out.trans (hd6.mono HW4.out.size))
          have hz6 := hd6.size
          obtain ⟨c, hrun, hat, _⟩ := OM6.out.lookup_int (t := 104) intKey Tryz.underlying104 Tryz.underlying3 (zero_intv _) HKEY.out
          have hc1 := Seeny.seen_num hat
          obtain ⟨b2, hb2⟩ : ∃ b2, s.contains d = b2 := ⟨_, rfl⟩
          rw [hb2] at hc1
          clear hat hd6 OM4
          cases b2 with
          | true =>
            have HF : Hid (Traily.docs l = false) := Lib.hid (by rw [HST.out, if_neg HNO.out, hb2]; rfl)
            clear hb2
            go_wp2
            go_ret
            exact ⟨by rw [HF.out] <;> rfl, HW6.out⟩
          | false =>
            have HN : Hid (Traily.docs l = Traily.docsK (d :: s) (Traily.prev l ((j + 1) + 1)) ((l.map Traily.key).drop ((j + 1) + 1))) := Lib.hid (by rw [HST.out, if_neg HNO.out, hb2]; rfl)
            clear hb2
            go_wp2_with (at_mapUpdate; refine wpList_mapUpdate_own _ rfl _ _ _ 104 rfl 3 3 intKey Tryz.underlying104 _ w.heap.size s.length _ rfl OM6.out (by unfold maxLen; omega) _ _ _ rfl rfl HKEY.out _ [] (plainElem_int Tryz.underlying3 (by decide)) ?_; intro w8 hown8 hgrow8)
            have h8 : Below w.heap.size w6 w8 := Upd.own (B := w.heap.size) hgrow8 (Nat.le_refl _) (by omega)
            have hz8 := h8.size
            go_roundg (l.length - ((j + 1) + 1))
            case measure => omega
            case rel =>
              refine ⟨(j + 1) + 1, d :: s, by omega, by omega, by go_num, by simp at hs ⊢; omega, HW6.out.trans h8, by omega, ?_, HN⟩
              show World.ownsMap _ _ _ _ _ _ _
              rw [List.reverse_cons, Seeny.seen_snoc]; exact hown8
    · have hlt2 : decide ((k : Int) < (l.length : Int)) = false := by simp; omega
      have hltz : ¬ (k : Int) < (l.length : Int) := by omega
      have HT : Hid (Traily.docs l = true) := Lib.hid (by rw [DK.out, List.drop_eq_nil_of_le (by rw [List.length_map]; omega)]; rfl)
      go_wp2
      go_ret
      exact ⟨by rw [HT.out] <;> rfl, BW.out⟩
end Go.Proofs.YtdolmjeiakdfhaaGreatDoor

namespace Go.Proofs.YtdolmjeiakdfhaaGreatDoor
set_option linter.unusedSimpArgs false
set_option linter.unusedVariables false
open Go.RowKit
open Traily (Ent T)

/-- a trail in memory. -/
def TrRd (w : World) (t : T) (v : Value) : Prop := Rd w 3 (flat ec t.ents) t.ents.length v
theorem TrRd.below {w w1 : World} {t : T} {v : Value} (h : TrRd w t v) (hb : Below w.heap.size w w1) : TrRd w1 t v := Rd.below h hb
set_option maxRecDepth 100000 in
set_option maxHeartbeats 8000000 in
theorem tcheck_any (t : T) (v : Value) (w : World) (he : Env w) (hv : TrRd w t v) :
    Calls Tryz.prog 19 #[.agg (tc v t.at')] w fun e w' => e = .returned (.int .i64 (Traily.check t : Int)) ∧ Below w.heap.size w w' := by
  obtain ⟨l, at'⟩ := t
  dsimp only
  have hv : Rd w 3 (flat ec l) l.length v := hv
  have HV := Lib.hid hv
  have HE := Lib.hid he
  obtain ⟨A, cap, rfl, hc1, hc2, hrow⟩ := hv
  clear hrow he
  by_cases y0 : 50 < l.length
  · have hck : Hid (Traily.check ⟨l, at'⟩ = 2) := Lib.hid (by unfold Traily.check; rw [if_pos (.inl y0)])
    have d1 : decide ((l.length : Int) > 50) = true := decide_eq_true (by omega)
    have d2 : (50 : Int) < (l.length : Int) := by omega
    clear y0
    go_enter Tryz.func19, Tryz.ntmps19
    go_upto_region 1 with (fail)
    refine gen_world (F := fun W => Box W w.heap.size 41 (tc (.slice A l.length cap) at') ∧ Below w.heap.size w W) ⟨Box.new w _ _, below1 w _⟩ ?_
    rintro W0 ⟨b0, hU⟩
    have c0 := b0.cell 0
    simp [tc] at c0
    have HU := Lib.hid hU
    clear b0 hU
    go_wp2
    go_ret
    exact ⟨by rw [hck.out] <;> rfl, HU.out⟩
  · have d1 : decide ((l.length : Int) > 50) = false := decide_eq_false (by omega)
    have d2 : ¬ (50 : Int) < (l.length : Int) := by omega
    have hl : l.length ≤ 50 := by omega
    have HC1 : Hid (∀ w1, Below w.heap.size w w1 → Calls Tryz.prog 33 #[.slice A l.length cap, .func (.func 34) #[] #[]] w1 fun e w' => e = .returned (.bool (l.any Traily.long)) ∧ Below w1.heap.size w1 w') :=
      Lib.hid (fun w1 h1 => contains_ent l Traily.long 34 #[] _ w1 egLong (fun x _ w2 _ => long_any x w2) (HV.out.below h1) (by omega))
    have HC2 : Hid (∀ w1, Below w.heap.size w w1 → Calls Tryz.prog 33 #[.slice A l.length cap, .func (.func 35) #[] #[]] w1 fun e w' => e = .returned (.bool (l.any Traily.foul)) ∧ Below w1.heap.size w1 w') :=
      Lib.hid (fun w1 h1 => contains_ent l Traily.foul 35 #[] _ w1 egFoul (fun x _ w2 h2 => foul_any x w2 ((HE.out.below h1).below h2)) (HV.out.below h1) (by omega))
    have HDO : Hid (∀ w1, Below w.heap.size w w1 → Calls Tryz.prog 37 #[.slice A l.length cap] w1 (BoolOut (Traily.docs l) w1)) := Lib.hid (fun w1 h1 => docs_any l _ w1 (HE.out.below h1) (HV.out.below h1) hl)
    have HY0 := Lib.hid y0
    obtain ⟨b1, hb1⟩ : ∃ b, l.any Traily.long = b := ⟨_, rfl⟩
    obtain ⟨b2, hb2⟩ : ∃ b, l.any Traily.foul = b := ⟨_, rfl⟩
    obtain ⟨b3, hb3⟩ : ∃ b, Traily.docs l = b := ⟨_, rfl⟩
    rw [hb1] at HC1
    rw [hb2] at HC2
    rw [hb3] at HDO
    have HCK : Hid (Traily.check ⟨l, at'⟩ = if b1 = true then 2 else if at' < 0 ∨ (l.length : Int) ≤ at' ∨ b2 = true ∨ b3 = false then 3 else 0) := Lib.hid (by
      unfold Traily.check
      rw [hb1, hb2, hb3]
      by_cases h : b1 = true
      · rw [if_pos (.inr h), if_pos h]
      · rw [if_neg (by simp only [not_or]; exact ⟨y0, h⟩), if_neg h])
    clear y0 hb1 hb2 hb3
    go_enter Tryz.func19, Tryz.ntmps19
    go_upto_region 1 with (fail)
    refine gen_world (F := fun W => Box W w.heap.size 41 (tc (.slice A l.length cap) at') ∧ Below w.heap.size w W) ⟨Box.new w _ _, below1 w _⟩ ?_
    rintro W0 ⟨b0, hU⟩
    have c0 := b0.cell 0
    have c1 := b0.cell 1
    simp [tc] at c0 c1
    have HU := Lib.hid hU
    have HB0 := Lib.hid b0
    clear hU b0
    go_wp2_with (fail)
    refine (HC1.out _ HU.out).mono ?_
    rintro e w1 ⟨rfl, hw1⟩
    have HU1 := Lib.hid (HU.out.trans (hw1.mono HU.out.size))
    have b1' := HB0.out.below hw1 HB0.out.lt
    have c0 := b1'.cell 0
    have c1 := b1'.cell 1
    simp [tc] at c0 c1
    have HB1 := Lib.hid b1'
    clear hw1 b1'
    cases b1 with
    | true =>
      go_wp2
      go_ret
      exact ⟨by rw [HCK.out] <;> rfl, HU1.out⟩
    | false =>
      by_cases y1 : at' < 0
      · have g1 : decide (at' < 0) = true := decide_eq_true y1
        have HF : Hid (Traily.check ⟨l, at'⟩ = 3) := Lib.hid (by rw [HCK.out, if_neg (by simp), if_pos (.inl y1)])
        clear y1
        go_wp2
        go_ret
        exact ⟨by rw [HF.out] <;> rfl, HU1.out⟩
      have g1 : decide (at' < 0) = false := decide_eq_false y1
      by_cases y2 : (l.length : Int) ≤ at'
      · have g2 : decide (at' ≥ (l.length : Int)) = true := decide_eq_true y2
        have HF : Hid (Traily.check ⟨l, at'⟩ = 3) := Lib.hid (by rw [HCK.out, if_neg (by simp), if_pos (.inr (.inl y2))])
        go_wp2
        go_ret
        exact ⟨by rw [HF.out] <;> rfl, HU1.out⟩
      have g2 : decide (at' ≥ (l.length : Int)) = false := decide_eq_false y2
      have g3 : decide ((l.length : Int) ≤ at') = false := decide_eq_false y2
      have HY1 := Lib.hid y1
      have HY2 := Lib.hid y2
      go_wp2_with (fail)
      refine (HC2.out _ HU1.out).mono ?_
      rintro e w2 ⟨rfl, hw2⟩
      have HU2 := Lib.hid (HU1.out.trans (hw2.mono HU1.out.size))
      have b2' := HB1.out.below hw2 HB1.out.lt
      have c0 := b2'.cell 0
      have c1 := b2'.cell 1
      simp [tc] at c0 c1
      have HB2 := Lib.hid b2'
      clear hw2 b2'
      cases b2 with
      | true =>
        have HF : Hid (Traily.check ⟨l, at'⟩ = 3) := Lib.hid (by rw [HCK.out, if_neg (by simp), if_pos (.inr (.inr (.inl rfl)))])
        go_wp2
        go_ret
        exact ⟨by rw [HF.out] <;> rfl, HU2.out⟩
      | false =>
        go_wp2_with (fail)
        refine (HDO.out _ HU2.out).mono ?_
        rintro e w3 ⟨rfl, hw3⟩
        have HU3 := Lib.hid (HU2.out.trans (hw3.mono HU2.out.size))
        clear hw3
        cases b3 with
        | true =>
          have HF : Hid (Traily.check ⟨l, at'⟩ = 0) := Lib.hid (by rw [HCK.out, if_neg (by simp), if_neg (by simp only [not_or]; exact ⟨by have := HY1.out; omega, by have := HY2.out; omega, by simp, by simp⟩)])
          go_wp2
          go_ret
          exact ⟨by rw [HF.out] <;> rfl, HU3.out⟩
        | false =>
          have HF : Hid (Traily.check ⟨l, at'⟩ = 3) := Lib.hid (by rw [HCK.out, if_neg (by simp), if_pos (.inr (.inr (.inr rfl)))])
          go_wp2
          go_ret
          exact ⟨by rw [HF.out] <;> rfl, HU3.out⟩
end Go.Proofs.YtdolmjeiakdfhaaGreatDoor

namespace Go.Proofs.YtdolmjeiakdfhaaGreatDoor
set_option linter.unusedSimpArgs false
set_option linter.unusedVariables false
open Go.RowKit
open Traily (Ent T)

theorem field_ent (a b : ByteArray) (c : Int) (w : World) : (Instr.field 48 (.agg #[.string a, .string b, .int .i64 c]) 0).run Tryz.prog w = .ok (.string a) w ∧ (Instr.field 48 (.agg #[.string a, .string b, .int .i64 c]) 2).run Tryz.prog w = .ok (.int .i64 c) w := ⟨by kernel_rfl, by kernel_rfl⟩
theorem here_t (t : T) (v : Value) (w : World) (hv : TrRd w t v) (hR : Traily.Right t) :
    Calls Tryz.prog 26 #[.agg (tc v t.at')] w fun e w' => e = .returned (.agg #[.string (byt (Traily.here t).url), .string (byt (Traily.here t).state), .int .i64 (Traily.here t).doc]) ∧ Below w.heap.size w w' := by
  have h := here_any t.ents t.at'.toNat (Traily.here t) v w hv (Traily.here_mem hR).2
  rw [Int.toNat_of_nonneg hR.lo] at h
  exact h
theorem resolved_err {t : T} {ref : List UInt8} (h : Traily.check t ≠ 0) : Traily.resolved t ref = .error (Traily.check t) := by unfold Traily.resolved; rw [if_pos h]
theorem resolved_ok {t : T} {ref : List UInt8} (h : Traily.check t = 0) : Traily.resolved t ref = Urly.resolve (Traily.here t).url ref := by unfold Traily.resolved; rw [if_neg (by omega)]
def ResdOut (r : Except Nat (List UInt8)) (w : World) (e : Ending) (w' : World) : Prop := ∃ s m, e = .returned (.tuple #[.string (byt s), .int .i64 m]) ∧ Told r s m ∧ Below w.heap.size w w'
set_option maxRecDepth 100000 in
set_option maxHeartbeats 8000000 in
theorem resolved_any (t : T) (v : Value) (ref : List UInt8) (w : World) (he : Env w) (hv : TrRd w t v) :
    Calls Tryz.prog 25 #[.agg (tc v t.at'), .string (byt ref)] w (ResdOut (Traily.resolved t ref) w) := by
  have HCK : Hid (∀ w1, Below w.heap.size w w1 → Calls Tryz.prog 19 #[.agg (tc v t.at')] w1 fun e w' => e = .returned (.int .i64 (Traily.check t : Int)) ∧ Below w1.heap.size w1 w') := Lib.hid (fun w1 h => tcheck_any t v w1 (he.below h) (hv.below h))
  have HRS : Hid (∀ w1, Below w.heap.size w w1 → ResC (Traily.here t).url ref w1) := Lib.hid (fun w1 h => resC _ ref w1 (he.below h))
  have HHE : Hid (Traily.Right t → ∀ w1, Below w.heap.size w w1 → Calls Tryz.prog 26 #[.agg (tc v t.at')] w1 fun e w' => e = .returned (.agg #[.string (byt (Traily.here t).url), .string (byt (Traily.here t).state), .int .i64 (Traily.here t).doc]) ∧ Below w1.heap.size w1 w') := Lib.hid (fun hR w1 h => here_t t v w1 (hv.below h) hR)
  unfold ResC at HRS
  obtain ⟨c, hc⟩ : ∃ c, Traily.check t = c := ⟨_, rfl⟩
  obtain ⟨RF, hRF⟩ : ∃ S, byt ref = S := ⟨_, rfl⟩
  obtain ⟨HU, hHU⟩ : ∃ S, byt (Traily.here t).url = S := ⟨_, rfl⟩
  rw [hc] at HCK
  rw [hRF, hHU] at HRS
  rw [hHU] at HHE
  rw [hRF]
  have HC := Lib.hid hc
  clear hc hRF hHU he hv
  go_enter Tryz.func25, Tryz.ntmps25
  go_upto_region 1 with (fail)
  refine gen_world (F := fun W => Box W w.heap.size 41 (tc v t.at') ∧ Below w.heap.size w W) ⟨Box.new w _ _, below1 w _⟩ ?_
  rintro W0 ⟨b0, hU⟩
  have HU0 := Lib.hid hU
  have HB0 := Lib.hid b0
  clear hU
  go_wp2_with (refine wpList_load_row rfl 41 (.tmp 2) rfl w.heap.size rfl _ (tc v t.at') (0, 0) _ b0 Tryz.underlying41 rfl info_trl ?_)
  refine (HCK.out _ HU0.out).mono ?_
  rintro e w1 ⟨rfl, hw1⟩
  have HU1 := Lib.hid (HU0.out.trans (hw1.mono HU0.out.size))
  have b1 := HB0.out.below hw1 HB0.out.lt
  clear hw1 b0
  by_cases y : c = 0
  · have hR : Traily.Right t := (Traily.check_iff t).1 (HC.out.trans y)
    have HRR := Lib.hid (resolved_ok (ref := ref) (HC.out.trans y))
    have HH := Lib.hid (HHE.out hR)
    have g1 : ((c : Int) != 0) = false := by simp [y]
    have hfd := fun w => (field_ent HU (byt (Traily.here t).state) (Traily.here t).doc w).1
    clear y hR
    go_wp2_with (refine wpList_load_row rfl 41 (.tmp 2) rfl w.heap.size rfl _ (tc v t.at') (0, 0) _ b1 Tryz.underlying41 rfl info_trl ?_)
    refine (HH.out _ HU1.out).mono ?_
    rintro e w2 ⟨rfl, hw2⟩
    have HU2 := Lib.hid (HU1.out.trans (hw2.mono HU1.out.size))
    clear hw2 b1
    go_wp2_with (fail)
    refine (HRS.out _ HU2.out).mono ?_
    rintro e w3 ⟨s, m, rfl, ht, hw3⟩
    have HU3 := Lib.hid (HU2.out.trans (hw3.mono HU2.out.size))
    have HT := Lib.hid ht
    clear hw3 ht
    go_wp2
    go_returns
    exact ⟨s, m, rfl, by rw [HRR.out]; exact HT.out, HU3.out⟩
  · have HY := Lib.hid y
    have g1 : ((c : Int) != 0) = true := by simp; omega
    clear y
    go_wp2
    go_returns
    refine ⟨[], (c : Int), rfl, .inr ⟨?_, rfl, c, ?_, rfl⟩, HU1.out⟩
    · have := HY.out; omega
    · rw [resolved_err (by rw [HC.out]; exact HY.out), HC.out]
end Go.Proofs.YtdolmjeiakdfhaaGreatDoor
