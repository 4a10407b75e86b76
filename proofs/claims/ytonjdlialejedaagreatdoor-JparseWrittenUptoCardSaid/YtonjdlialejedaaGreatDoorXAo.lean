/-
  Texts that the law leans on: PmP. Conditions: as each says.
-/
import Derived.Test.YtonjdlialejedaaGreatDoorXAn
import Derived.Test.YtonjdlialejedaaGreatDoorXAa
set_option linter.unusedSimpArgs false
set_option linter.unusedVariables false
namespace Go.Proofs.YtonjdlialejedaaGreatDoor
open Go.Lib (hid)
open Go.RowKit
theorem some_no {r : Pars.R} {f : Pars.Node × List Lexy.Tk → List Pars.Node × List Lexy.Tk} (h : r.map f = none) : r = none := by
 cases r with
 | none => rfl
 | some _ => cases h
theorem some_yes {r : Pars.R} {pre l : List Pars.Node} {t : List Lexy.Tk} (h : r.map (fun y => (pre ++ y.1.kids, y.2)) = some (l, t)) : ∃ y : Pars.Node, r = some (y, t) ∧ l = pre ++ y.kids := by
 cases r with
 | none => cases h
 | some y =>
  obtain ⟨y, t'⟩ := y
  injection h with h
  injection h with h1 h2
  exact ⟨y, by rw [← h2], h1.symm⟩
theorem kv_slice {w : World} {B oa : Nat} {l : List Pars.Node} {v : Value} (h : KO w B oa l v) : ∃ KA kc, v = .slice KA l.length kc := by
 obtain ⟨css, h1, _⟩ := h.row
 obtain ⟨KA, kc, e, _⟩ := Rd.own h1
 exact ⟨KA, kc, e⟩
theorem eg_fn : ∀ args w, (callFunc 81 args).run Tryz.prog w = .ok (.enter 81 args) w := Go.Proofs.enters_of Tryz.func81 (by kernel_rfl) rfl
theorem eg_un : ∀ args w, (callFunc 107 args).run Tryz.prog w = .ok (.enter 107 args) w := Go.Proofs.enters_of Tryz.func107 (by kernel_rfl) rfl
theorem eg_l : ∀ args w, (callFunc 114 args).run Tryz.prog w = .ok (.enter 114 args) w := Go.Proofs.enters_of Tryz.func114 (by kernel_rfl) rfl
theorem eg_r : ∀ args w, (callFunc 115 args).run Tryz.prog w = .ok (.enter 115 args) w := Go.Proofs.enters_of Tryz.func115 (by kernel_rfl) rfl
set_option maxRecDepth 100000 in
set_option maxHeartbeats 4000000 in
theorem func_step {n : Nat} (hall : ∀ m, m ≤ n → All m) : ∀ (nm : List UInt8), ∀ {w : World} {b : Nat} {ts : List KT} {A : Option Addr} {c k : Nat} {fn lp : Bool}, PSt w b ts A c k fn lp → 20 * (ts.length - k) + 1 < n + 1 → Calls Tryz.prog 52 #[.pointer (some ⟨b, 0, none⟩), .string (byt nm)] w (Got w b ts A c k fn lp (Pars.run (n + 1) (.function nm) fn lp (left ts k))) := by
 have h := hall n (Nat.le_refl _)
 intro nm w b ts A c k fn lp hP hm
 have HR : Hid (Pars.run (n + 1) (.function nm) fn lp (left ts k) = _) := hid (by rw [Pars.run])
 have hbl := hP.box.lt
 have hle := hP.kle
 go_enter Tryz.func52, Tryz.ntmps52
 go_upto_region 1 with fail
 refine gen_world (F := fun W => Box W w.heap.size 74 #[.pointer (some ⟨b, 0, none⟩)] ∧ Box W (w.heap.size + 1) 24 #[.int .i64 0, .int .i64 0, .string ⟨#[]⟩, .slice none 0 0] ∧ Below w.heap.size w W) ⟨(Box.new w _ _).alloc _, new2 w _ _ _, (below1 w _).alloc (by simp) _⟩ ?_
 rintro W0 ⟨p0, r0, hU⟩
 obtain ⟨i0, hi0, hi1, hi2, hi3⟩ := info_parts parts_nod
 have hlen := hP.len
 obtain ⟨pb, hpbe⟩ : ∃ q, w.heap.size = q := ⟨_, rfl⟩
 obtain ⟨B, hBe⟩ : ∃ q, W0.heap.size = q := ⟨_, rfl⟩
 have hpb : pb ≠ b := by omega
 have hrb : pb + 1 ≠ b := by omega
 have hrB : pb + 1 < B := by have := r0.lt; omega
 have hpB : pb < B := by omega
 have hbB : b < B := by omega
 have hwB : w.heap.size ≤ B := by omega
 have hpw : w.heap.size = pb := hpbe
 have HPB := hid hpbe
 have HBE := hid hBe
 rw [hpbe] at p0 r0 ⊢
 clear hpbe hpw
 have PX := hid p0
 have RB := hid r0
 have HP := hid (hP.below hU)
 have HA : Hid (0 < ts.length → ∀ g o, A = some ⟨g, o, none⟩ → g < B) := hid (hBe ▸ HP.out.old)
 have HW : Hid (Upd w W0 b) := hid (Upd.below hU b)
 have HU : Hid (UpdB B W0 W0 b) := hid (UpdB.refl _ _ _)
 have hBw : B ≤ W0.heap.size := Nat.le_of_eq hBe.symm
 clear p0 r0 hU hP hBe
 go_upto_region 2 with (refine wpList_store_box rfl 24 (.tmp 5) (.tmp 7) rfl W0.heap.size #[.int .i64 9, .int .i64 0, .string (byt nm), .slice none 0 0] rfl rfl 24 _ (Box.new W0 _ _) info_nod rfl (nc_one _ _ _ rfl) ?_; intro w1 hx hv hz; have HZO := hid hz; clear hz)
 have hb : Below W0.heap.size W0 w1 := ((Below.refl _ W0).alloc (Nat.le_refl _) _).trans (hv.own (Nat.le_refl _) (by simp))
 have OB : Hid (Box w1 W0.heap.size 24 (nc 9 0 nm (.slice none 0 0))) := hid hx
 have hoB : B ≤ W0.heap.size := hBw
 replace PX := bl PX hb
 replace RB := bl RB hb
 replace HP := hid (HP.out.below hb)
 replace HU := hid (HU.out.trans (UpdB.of_below hb hBw))
 replace hBw := Nat.le_trans hBw hb.size
 have KOF := hid (KO.nil w1 B W0.heap.size)
 clear hx hv hb HZO
 obtain ⟨oa, hoa⟩ : ∃ oa, W0.heap.size = oa := ⟨_, rfl⟩
 rw [hoa] at OB KOF hoB ⊢
 clear hoa
 (try simp only [Act.put])
 have px := PX.out.cell 0
 simp at px
 go_wp2_with fail
 clear px
 refine (must_any [40] _ b ts A c (k) fn lp HP.out).mono ?_
 rintro e w2 (⟨hi, hk, rfl, hx, hu⟩ | ⟨hi, rfl, hu⟩)
 rotate_left
 ·exact ⟨rfl, .inr ⟨HR.out.trans (Pars.must_no hi), rfl, HW.out.updB (HU.out.trans (UpdB.of_upd hu hBw)) hwB⟩⟩
 replace HR := hid (HR.out.trans (Pars.must_some hi))
 have hub := UpdB.of_upd hu hBw
 replace OB := bg OB hu
 replace KOF := hid (KOF.out.upd hu hbB)
 replace PX := bg PX hu
 replace RB := bg RB hu
 replace HP := hid (HP.out.upd hx hu (by omega))
 replace HU := hid (HU.out.trans hub)
 replace hBw := Nat.le_trans hBw hu.size
 clear hub
 clear hi hx hu
 have hle1 := HP.out.kle
 have px := PX.out.cell 0
 simp at px
 go_wp2_with fail
 clear px
 refine (some_any [41] .param rfl 81 #[.pointer (some ⟨oa, 0, none⟩), .pointer (some ⟨pb, 0, none⟩)] eg_fn n B b oa pb ts A c fn lp 9 0 nm (fun q hq => one_param (hall q (by omega)) B b oa pb ts A c fn lp 9 0 nm hbB hpB hpb hoB HA.out) hbB hpB hpb hoB HA.out _ (k + 1) _ [] (by simp) HP.out PX.out OB.out KOF.out hBw (by omega)).mono ?_
 rintro e w3 (⟨ll, k1, kvs, hr, hk1, hkl1, hll, rfl, hox, hko, hx, hu⟩ | ⟨hr, rfl, hu⟩)
 rotate_left
 ·exact ⟨rfl, .inr ⟨HR.out.trans (Pars.and_no (some_no hr)), rfl, HW.out.updB (HU.out.trans hu) hwB⟩⟩
 obtain ⟨ys, hy, rfl⟩ := some_yes hr
 replace HR := hid (HR.out.trans (Pars.and_some hy))
 replace HP := hid (HP.out.updB hx hu hkl1 HA.out)
 replace PX := hid (PX.out.updB hu hpB hpb)
 replace RB := hid (RB.out.updB hu hrB hrb)
 replace HU := hid (HU.out.trans hu)
 replace hBw := Nat.le_trans hBw hu.size
 replace OB := hid hox
 replace KOF := hid hko
 clear hr hy hox hko hx hu
 obtain ⟨acc, hacc⟩ : ∃ q, ys.kids = q := ⟨_, rfl⟩
 rw [List.nil_append] at hll
 rw [List.nil_append] at KOF
 rw [hacc] at HR KOF hll
 obtain ⟨KA, kc, rfl⟩ := kv_slice KOF.out
 clear hacc
 go_upto_region 4 with fail
 refine wp_region_until 6 (fun w' => Box w' oa 24 (nc 9 0 nm (Value.slice KA acc.length kc)) ∧ Box w' pb 74 #[.pointer (some ⟨b, 0, none⟩)]) (by kernel_rfl) ⟨OB.out.drew, PX.out.drew⟩ (fun hHeld => ?_)
 obtain ⟨wd, hwd⟩ : ∃ wd, w3.drew = wd := ⟨_, rfl⟩
 have hb : Below w3.heap.size w3 wd := hwd ▸ (Below.refl _ w3).drew
 (try rw [hwd] at hHeld)
 (try rw [hwd])
 clear hwd hHeld
 replace OB := bl OB hb
 replace KOF := hid (KOF.out.below hb)
 replace HP := hid (HP.out.below hb)
 replace HU := hid (HU.out.trans (UpdB.of_below hb hBw))
 replace hBw := Nat.le_trans hBw hb.size
 replace PX := bl PX hb
 replace RB := bl RB hb
 clear hb
 refine tU (i := 0) (v := ?_) rfl ?_ (.inr ⟨OB.out, PX.out⟩) ?_
 rotate_left
 ·intro w hSw
  go_simp
  try (with_reducible rfl)
 (try simp only [Act.put, sq])
 refine tV (i := 1) (v := (Value.slice KA acc.length kc)) rfl ?_ ⟨OB.out, PX.out⟩ ?_
 ·intro w hSw
  have c3 := hSw.1.cell 3
  simp [nc] at c3
  go_simp
 (try simp only [Act.put, sq])
 refine tV (i := 2) (v := .pointer (some ⟨b, 0, none⟩)) rfl ?_ ⟨OB.out, PX.out⟩ ?_
 ·intro w hSw
  have c3 := hSw.2.cell 0
  simp at c3
  go_simp
 (try simp only [Act.put, sq])
 refine tU (i := 4) (v := ?_) rfl ?_ (.inr ⟨OB.out, PX.out⟩) ?_
 rotate_left
 ·intro w hSw
  go_simp
  try (with_reducible rfl)
 (try simp only [Act.put, sq])
 refine wpAnyU_ready (rs := [3, 5]) (by kernel_rfl) (by simp) ?_
 refine AllReadyU.cons rfl (fun K hK => ?_) (AllReadyU.cons rfl (fun K hK => ?_) AllReadyU.nil)
 focus
  go_simp
  refine (h.body true HP.out (by omega)).mono ?_
  rintro e w5 (⟨x1, k2, cs1, hr, hk1, hk2, rfl, hn, hx, hu⟩ | ⟨hr, rfl, hu⟩)
  rotate_left
  ·exact ⟨rfl, .inr ⟨HR.out.trans (Pars.and_no hr), rfl, HW.out.updB (HU.out.trans (UpdB.of_upd hu hBw)) hwB⟩⟩
  have hlt1 := got_lt hr rfl
  replace HR := hid (HR.out.trans (Pars.and_some hr))
  have hrl := KOF.out.row
  have HN1 : Hid (NodeAt w5 (fun g => B ≤ g ∧ g ≠ oa ∧ (Value.slice KA acc.length kc).ownBlock ≠ some g) x1 cs1) := hid (hn.weak (fun g hg => ⟨by omega, by have := OB.out.lt; omega, fun e => by obtain ⟨_, ho, _⟩ := hrl; have := (ho.lt g e).2; omega⟩))
  clear hrl
  have hub := UpdB.of_upd hu hBw
  replace OB := bg OB hu
  replace KOF := hid (KOF.out.upd hu hbB)
  replace PX := bg PX hu
  replace RB := bg RB hu
  replace HP := hid (HP.out.upd hx hu (by omega))
  replace HU := hid (HU.out.trans hub)
  replace hBw := Nat.le_trans hBw hu.size
  clear hub
  clear hr hn hx hu
  obtain ⟨v1, hlit, hvo⟩ := NodeAt.lit HN1.out
  rw [hlit] at HN1 ⊢
  have HVO1 := hid hvo
  clear hlit hvo
  go_wp2_with fail
  refine hK.out _ _ (.inr ⟨OB.out, PX.out⟩) (fun hHeld => ?_)
  clear hK hHeld K
  (try simp only [Act.put, sq])
  refine rdU 5 rfl fun K hK => ?_
  go_simp
  have bxB := Box.new w5 24 #[.int .i64 0, .int .i64 0, .string ⟨#[]⟩, .slice none 0 0]
  have hb : Below w5.heap.size w5 (w5.alloc (.cells #[.int .i64 0, .int .i64 0, .string ⟨#[]⟩, .slice none 0 0] 24)) := below1 w5 _
  obtain ⟨wc, hwb⟩ : ∃ wb, (w5.alloc (.cells #[.int .i64 0, .int .i64 0, .string ⟨#[]⟩, .slice none 0 0] 24)) = wb := ⟨_, rfl⟩
  rw [hwb] at bxB hb
  rw [hwb]
  clear hwb
  have BXB := hid bxB
  obtain ⟨zb, hzb⟩ : ∃ zb, w5.heap.size = zb := ⟨_, rfl⟩
  rw [hzb] at BXB ⊢
  have hzbB : B ≤ zb := hzb ▸ hBw
  replace OB := bl OB hb
  replace KOF := hid (KOF.out.below hb)
  replace HP := hid (HP.out.below hb)
  replace HN1 := hid (HN1.out.below hb)
  replace HU := hid (HU.out.trans (UpdB.of_below hb hBw))
  replace hBw := Nat.le_trans hBw hb.size
  replace PX := bl PX hb
  replace RB := bl RB hb
  refine hK.out _ _ (.inr ⟨OB.out, PX.out⟩) (fun hHeld => ?_)
  clear hK hHeld K
  (try simp only [Act.put, sq])
  clear hb bxB hzb
 rotate_left
 focus
  go_simp
  have bxB := Box.new wd 24 #[.int .i64 0, .int .i64 0, .string ⟨#[]⟩, .slice none 0 0]
  have hb : Below wd.heap.size wd (wd.alloc (.cells #[.int .i64 0, .int .i64 0, .string ⟨#[]⟩, .slice none 0 0] 24)) := below1 wd _
  obtain ⟨w5, hwb⟩ : ∃ wb, (wd.alloc (.cells #[.int .i64 0, .int .i64 0, .string ⟨#[]⟩, .slice none 0 0] 24)) = wb := ⟨_, rfl⟩
  rw [hwb] at bxB hb
  rw [hwb]
  clear hwb
  have BXB := hid bxB
  obtain ⟨zb, hzb⟩ : ∃ zb, wd.heap.size = zb := ⟨_, rfl⟩
  rw [hzb] at BXB ⊢
  have hzbB : B ≤ zb := hzb ▸ hBw
  replace OB := bl OB hb
  replace KOF := hid (KOF.out.below hb)
  replace HP := hid (HP.out.below hb)
  replace HU := hid (HU.out.trans (UpdB.of_below hb hBw))
  replace hBw := Nat.le_trans hBw hb.size
  replace PX := bl PX hb
  replace RB := bl RB hb
  refine hK.out _ _ (.inr ⟨OB.out, PX.out⟩) (fun hHeld => ?_)
  clear hK hHeld K
  (try simp only [Act.put, sq])
  clear hb bxB hzb
  refine rdU 3 rfl fun K hK => ?_
  go_simp
  refine (h.body true HP.out (by omega)).mono ?_
  rintro e wc (⟨x1, k2, cs1, hr, hk1, hk2, rfl, hn, hx, hu⟩ | ⟨hr, rfl, hu⟩)
  rotate_left
  ·exact ⟨rfl, .inr ⟨HR.out.trans (Pars.and_no hr), rfl, HW.out.updB (HU.out.trans (UpdB.of_upd hu hBw)) hwB⟩⟩
  have hlt1 := got_lt hr rfl
  replace HR := hid (HR.out.trans (Pars.and_some hr))
  have hrl := KOF.out.row
  have HN1 : Hid (NodeAt wc (fun g => B ≤ g ∧ g ≠ oa ∧ (Value.slice KA acc.length kc).ownBlock ≠ some g) x1 cs1) := hid (hn.weak (fun g hg => ⟨by omega, by have := OB.out.lt; omega, fun e => by obtain ⟨_, ho, _⟩ := hrl; have := (ho.lt g e).2; omega⟩))
  clear hrl
  have hub := UpdB.of_upd hu hBw
  replace OB := bg OB hu
  replace KOF := hid (KOF.out.upd hu hbB)
  replace PX := bg PX hu
  replace RB := bg RB hu
  replace BXB := bg BXB hu
  replace HP := hid (HP.out.upd hx hu (by omega))
  replace HU := hid (HU.out.trans hub)
  replace hBw := Nat.le_trans hBw hu.size
  clear hub
  clear hr hn hx hu
  obtain ⟨v1, hlit, hvo⟩ := NodeAt.lit HN1.out
  rw [hlit] at HN1 ⊢
  have HVO1 := hid hvo
  clear hlit hvo
  go_wp2_with fail
  refine hK.out _ _ (.inr ⟨OB.out, PX.out⟩) (fun hHeld => ?_)
  clear hK hHeld K
  (try simp only [Act.put, sq])
 all_goals
  refine rdU 6 rfl fun K hK => ?_
  obtain ⟨css, hrow, hkn⟩ := KOF.out.row
  refine step_append_lies _ rfl (.tmp 14) (.tmp 18) 22 rfl B 24 i0 _ 4 56 Tryz.underlying22 hi0 hi1 hi2 hi3 rfl (by decide) (Value.slice KA acc.length kc) acc.length (flatA css) (by simp [Act.eval, Act.put]) hrow ⟨zb, 0, none⟩ 1 1 [.int .i64 0, .int .i64 0, .string ⟨#[]⟩, .slice none 0 0] (by simp [Act.eval, Act.put]) rfl (by exact World.news_of_block BXB.out) zrow_one (by omega) (by unfold maxLen; omega) (by omega) hBw wc.heap.size rfl ?_
  intro g7 cap7 w7 hown7 hgr7 hor7 hlt7
  have hbB7 : Below B wc w7 := below_grown hgr7 hBw (fun q hq => (hrow.lt q hq).1)
  replace RB := hid ((hbB7.block _ hrB).trans RB.out)
  have hob := OB.out.lt
  have KO7 := KOF.out.snoc (x := .mk 0 0 [] []) (cs := #[.int .i64 0, .int .i64 0, .string ⟨#[]⟩, .slice none 0 0]) css hrow hkn (NodeAt.leaf _ _ 0 0 []) hown7 hgr7 hor7 hob
  replace HN1 := hid (NodeAt.room HN1.out hgr7 hor7)
  have hoa7 : g7 ≠ oa := by
   rcases hor7 with e | e
   ·intro e2; exact KOF.out.ne (by rw [e, e2])
   ·omega
  have hg7B : B ≤ g7 := by
   rcases hor7 with e | e
   ·exact (hrow.lt _ e).1
   ·omega
  replace OB := hid (Box.grown OB.out hgr7 (fun e => KOF.out.ne e.symm))
  replace HP := hid (HP.out.belowB hbB7 hbB HA.out)
  replace HU := hid (HU.out.trans (UpdB.of_below hbB7 (Nat.le_refl _)))
  replace hBw := Nat.le_trans hBw hbB7.size
  replace KOF := hid KO7
  refine hK.out _ _ (.inl rfl) (fun hHeld => ?_)
  clear hK hHeld K
  (try simp only [Act.put, sq])
  clear hown7 hgr7 hor7 hlt7 hbB7 hrow hkn hob KO7
  have n1 : (acc.length : Int) < ((acc.length + 1 : Nat) : Int) := by omega
  have n2 : decide ((acc.length : Int) < ((acc.length + 1 : Nat) : Int)) = true := decide_eq_true n1
  have n3 : acc.length < acc.length + 1 := by omega
  refine tU (i := 7) (v := .pointer (some ⟨g7, acc.length * 4, none⟩)) rfl ?_ (.inl rfl) ?_
  ·intro w hSw
   go_simp
   try (intro hx; exfalso; omega)
  (try simp only [Act.put, sq])
  clear n1 n2 n3
  refine tU (i := 9) (v := ?_) rfl ?_ (.inl rfl) ?_
  rotate_left
  ·intro w hSw
   go_simp
   try (with_reducible rfl)
  (try simp only [Act.put, sq])
  refine wpAnyU_ready (rs := [8, 10]) (by kernel_rfl) (by simp) ?_
  refine AllReadyU.cons rfl (fun K hK => ?_) (AllReadyU.cons rfl (fun K hK => ?_) AllReadyU.nil)
  focus
   obtain ⟨cur, hcur, hcl, hKO⟩ := KOF.out.last HN1.out
   have HKO := hid hKO
   refine step_store_midbox rfl 24 (.tmp 20) (.tmp 16) rfl g7 (acc.length * 4) #[.int .i64 x1.kind, .int .i64 x1.num, .string (byt x1.text), v1] (by simp [Act.eval, Act.put]) (by simp [Act.eval, Act.put]) cur 24 hcur hcl info_nod (nc_one _ _ _ HVO1.out) ?_
   intro w8 hx8 hu8 hz8
   have hb8 : Below B w7 w8 := hu8.own hg7B hBw
   replace RB := hid ((hb8.block _ hrB).trans RB.out)
   replace OB := hid (Box.grown OB.out hu8 (by intro h; injection h with h; exact hoa7 h.symm))
   have KOF := hid (HKO.out w8 hx8 hu8)
   replace HP := hid (HP.out.belowB hb8 hbB HA.out)
   replace HU := hid (HU.out.trans (UpdB.of_below hb8 (Nat.le_refl _)))
   replace hBw := Nat.le_trans hBw hb8.size
   refine hK.out _ _ (.inl rfl) (fun hHeld => ?_)
   clear hK hHeld K
   (try simp only [Act.put, sq])
   clear hx8 hu8 hz8 hb8 hcur hcl hKO HKO
   refine rdU 10 rfl fun K hK => ?_
   have c3 := OB.out.cell 3
   have f3 : w8.frozen? ⟨oa, 3, none⟩ = false := OB.out.frozen 3
   simp [nc] at c3
   go_simp
   have hu9 : Upd w8 (w8.setCell ⟨oa, 3, none⟩ (Value.slice (some ⟨g7, 0, none⟩) (acc.length + 1) cap7)) oa := (Upd.refl _ _).set (.inl rfl) _
   have OB9 := OB.out.set 3 (Value.slice (some ⟨g7, 0, none⟩) (acc.length + 1) cap7)
   obtain ⟨wz, hwz⟩ : ∃ wz, (w8.setCell ⟨oa, 3, none⟩ (Value.slice (some ⟨g7, 0, none⟩) (acc.length + 1) cap7)) = wz := ⟨_, rfl⟩
   rw [hwz] at hu9 OB9
   rw [hwz]
   clear hwz
   replace OB9 : Box wz oa 24 (nc 9 0 nm (Value.slice (some ⟨g7, 0, none⟩) (acc.length + 1) cap7)) := by simpa [nc] using OB9
   replace OB := hid OB9
   replace KOF := hid (KOF.out.self hu9)
   have hb9 : Below B w8 wz := hu9.own hoB hBw
   replace RB := hid ((hb9.block _ hrB).trans RB.out)
   replace HP := hid (HP.out.belowB hb9 hbB HA.out)
   replace HU := hid (HU.out.trans (UpdB.of_below hb9 (Nat.le_refl _)))
   replace hBw := Nat.le_trans hBw hb9.size
   refine hK.out _ _ (.inl rfl) (fun hHeld => ?_)
   clear hK hHeld K
   (try simp only [Act.put, sq])
   clear hu9 OB9 hb9 c3 f3
  rotate_left
  focus
   have c3 := OB.out.cell 3
   have f3 : w7.frozen? ⟨oa, 3, none⟩ = false := OB.out.frozen 3
   simp [nc] at c3
   go_simp
   have hu9 : Upd w7 (w7.setCell ⟨oa, 3, none⟩ (Value.slice (some ⟨g7, 0, none⟩) (acc.length + 1) cap7)) oa := (Upd.refl _ _).set (.inl rfl) _
   have OB9 := OB.out.set 3 (Value.slice (some ⟨g7, 0, none⟩) (acc.length + 1) cap7)
   obtain ⟨w8, hwz⟩ : ∃ wz, (w7.setCell ⟨oa, 3, none⟩ (Value.slice (some ⟨g7, 0, none⟩) (acc.length + 1) cap7)) = wz := ⟨_, rfl⟩
   rw [hwz] at hu9 OB9
   rw [hwz]
   clear hwz
   replace OB9 : Box w8 oa 24 (nc 9 0 nm (Value.slice (some ⟨g7, 0, none⟩) (acc.length + 1) cap7)) := by simpa [nc] using OB9
   replace OB := hid OB9
   replace KOF := hid (KOF.out.self hu9)
   replace HN1 := hid (HN1.out.upd hu9 (fun q hq => hq.2.1))
   have hb9 : Below B w7 w8 := hu9.own hoB hBw
   replace RB := hid ((hb9.block _ hrB).trans RB.out)
   replace HP := hid (HP.out.belowB hb9 hbB HA.out)
   replace HU := hid (HU.out.trans (UpdB.of_below hb9 (Nat.le_refl _)))
   replace hBw := Nat.le_trans hBw hb9.size
   refine hK.out _ _ (.inl rfl) (fun hHeld => ?_)
   clear hK hHeld K
   (try simp only [Act.put, sq])
   clear hu9 OB9 hb9 c3 f3
   refine rdU 8 rfl fun K hK => ?_
   obtain ⟨cur, hcur, hcl, hKO⟩ := KOF.out.last HN1.out
   have HKO := hid hKO
   refine step_store_midbox rfl 24 (.tmp 20) (.tmp 16) rfl g7 (acc.length * 4) #[.int .i64 x1.kind, .int .i64 x1.num, .string (byt x1.text), v1] (by simp [Act.eval, Act.put]) (by simp [Act.eval, Act.put]) cur 24 hcur hcl info_nod (nc_one _ _ _ HVO1.out) ?_
   intro wz hx8 hu8 hz8
   have hb8 : Below B w8 wz := hu8.own hg7B hBw
   replace RB := hid ((hb8.block _ hrB).trans RB.out)
   replace OB := hid (Box.grown OB.out hu8 (by intro h; injection h with h; exact hoa7 h.symm))
   have KOF := hid (HKO.out wz hx8 hu8)
   replace HP := hid (HP.out.belowB hb8 hbB HA.out)
   replace HU := hid (HU.out.trans (UpdB.of_below hb8 (Nat.le_refl _)))
   replace hBw := Nat.le_trans hBw hb8.size
   refine hK.out _ _ (.inl rfl) (fun hHeld => ?_)
   clear hK hHeld K
   (try simp only [Act.put, sq])
   clear hx8 hu8 hz8 hb8 hcur hcl hKO HKO
  all_goals
   refine wpAnyU_done (by kernel_rfl) ?_ _
   have hle9 := HP.out.kle
   have ob := OB.out
   go_wp2_with (first | (refine wpList_load_row rfl 24 (.tmp 5) rfl (oa) rfl _ (nc 9 0 nm (Value.slice (some ⟨g7, 0, none⟩) (acc.length + 1) cap7)) (0, 0) _ ob Tryz.underlying24 rfl info_nod ?_) | (refine wpList_store_box rfl 24 (.tmp 4) (.tmp 22) rfl (pb + 1) (nc 9 0 nm (Value.slice (some ⟨g7, 0, none⟩) (acc.length + 1) cap7)) rfl rfl 24 _ RB.out info_nod rfl (nc_own _ _ _ KOF.out) ?_; intro wy hxz huz hzz; have HZZ := hid hzz; clear hzz))
   refine bodyPost_ret (results_box rfl _ _ (pb + 1) 24 _ _ rfl hxz Tryz.underlying24 rfl info_nod) rfl ?_
   exact .inl ⟨.mk 9 0 nm (acc ++ [x1]), k2, _, HR.out, by omega, HP.out.kle, rfl, ((KOF.out.node 9 0 nm).upd huz (fun g hg => by have := hg.1; omega)).weak (fun g hg => by have := hg.1; omega), Box.grown HP.out.box huz (by intro h; injection h with h; omega), Upd.fresh (HW.out.updB HU.out hwB) huz (by have := HPB.out; omega)⟩
end Go.Proofs.YtonjdlialejedaaGreatDoor
