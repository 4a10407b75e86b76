/-
  Texts that the law leans on: PmO. Conditions: as each says.
-/
import Derived.Test.YtonjdlialejedaaGreatDoorXAm
import Derived.Test.YtonjdlialejedaaGreatDoorXAa
set_option linter.unusedSimpArgs false
set_option linter.unusedVariables false
namespace Go.Proofs.YtonjdlialejedaaGreatDoor
open Go.Lib (hid)
open Go.RowKit
set_option maxRecDepth 100000 in
set_option maxHeartbeats 4000000 in
theorem one_pair {m : Nat} (h : ∀ q, q < m → All q) (B b oa pb : Nat) (ts : List KT) (A : Option Addr) (c : Nat) (fn lp : Bool) (kd nu : Int) (tx : List UInt8) (hbB : b < B) (hpB : pb < B) (hpb : pb ≠ b) (hoB : B ≤ oa) (hA : 0 < ts.length → ∀ g o, A = some ⟨g, o, none⟩ → g < B) :
  One m .pair 115 #[.pointer (some ⟨pb, 0, none⟩), .pointer (some ⟨oa, 0, none⟩)] B b oa pb ts A c fn lp kd nu tx := by
 intro w k acc kv hP hpx hox hko hBw hal hm
 obtain ⟨i0, hi0, hi1, hi2, hi3⟩ := info_parts parts_nod
 have HA := hid hA
 have HP := hid hP
 have PX := hid hpx
 have hkl := hP.kle
 have hlen := hP.len
 have HR : Hid ((Pars.run m .pair fn lp (left ts k)).map (fun y => (acc ++ [y.1], y.2)) = _) := hid rfl
 have HU := hid (UpdB.refl B w b)
 have hbl := hP.box.lt
 obtain ⟨KA, kc, rfl⟩ : ∃ KA kc, kv = .slice KA acc.length kc := by
  obtain ⟨css, h1, _⟩ := hko.row
  obtain ⟨KA, kc, e, _⟩ := Rd.own h1
  exact ⟨KA, kc, e⟩
 have OB := hid hox
 have KOF := hid hko
 clear hA hP hpx hox hko
 go_enter Tryz.func115, Tryz.ntmps115
 obtain ⟨m, rfl⟩ : ∃ q, m = q + 1 := ⟨m - 1, by omega⟩
 have hm' := h m (Nat.lt_succ_self m)
 have hobl := OB.out.lt
 have px := PX.out.cell 0
 simp at px
 go_wp2_with fail
 clear px
 refine (name_any _ b ts A c k fn lp HP.out).mono ?_
 rintro e w1 (⟨tn, htn, hk1, hk, rfl, hx, hu⟩ | ⟨hi, rfl, hu⟩)
 rotate_left
 ·exact ⟨rfl, .inr ⟨by rw [Pars.run, named_no hi]; rfl, rfl, HU.out.trans (UpdB.of_upd hu hBw)⟩⟩
 have HR : Hid (Pars.run (m + 1) .pair fn lp (left ts k) = _) := hid (by rw [Pars.run, named_at htn hk1])
 obtain ⟨nm, hnm⟩ : ∃ q, tn.1.text = q := ⟨_, rfl⟩
 rw [hnm] at HR ⊢
 have hub := UpdB.of_upd hu hBw
 replace OB := bg OB hu
 replace KOF := hid (KOF.out.upd hu hbB)
 replace HP := hid (HP.out.upd hx hu (by omega))
 replace HU := hid (HU.out.trans hub)
 replace hBw := Nat.le_trans hBw hu.size
 clear hub
 replace PX := bg PX hu
 clear htn hk1 hx hu hnm
 have hle1 := HP.out.kle
 have KO1 := KOF
 clear KOF
 go_upto_region 1 with (refine wpList_store_box rfl 24 (.tmp 2) (.tmp 5) rfl w1.heap.size #[.int .i64 8, .int .i64 0, .string (byt nm), .slice none 0 0] rfl rfl 24 _ (Box.new w1 _ _) info_nod rfl (nc_one _ _ _ rfl) ?_; intro w2 hx hv hz; have HZO := hid hz; clear hz)
 have hb : Below w1.heap.size w1 w2 := ((Below.refl _ w1).alloc (Nat.le_refl _) _).trans (hv.own (Nat.le_refl _) (by simp))
 have NB := hid hx
 obtain ⟨nb, hnb⟩ : ∃ nb, w1.heap.size = nb := ⟨_, rfl⟩
 have KN : Hid ((Value.slice KA acc.length kc).ownBlock ≠ some nb) := hid (fun e => by obtain ⟨_, ho, _⟩ := KO1.out.row; have := (ho.lt _ e).2; omega)
 have hnbo : oa < nb := by have := OB.out.lt; omega
 have hnbB : B ≤ nb := by omega
 replace OB := bl OB hb
 replace HP := hid (HP.out.below hb)
 replace HU := hid (HU.out.trans (UpdB.of_below hb hBw))
 replace hBw := Nat.le_trans hBw hb.size
 have HU1 : Hid (UpdB nb w1 w2 b) := hid (UpdB.of_below hb (by omega))
 replace PX := bl PX hb
 clear hx hv hb
 have hnb1 := hid hnb
 rw [hnb] at NB ⊢
 clear hnb HZO
 have px := PX.out.cell 0
 simp at px
 have hnl := NB.out.lt
 go_wp2_with fail
 clear px
 refine (must_any [58] _ b ts A c (k + 1) fn lp HP.out).mono ?_
 rintro e w3 (⟨hi, hk, rfl, hx, hu⟩ | ⟨hi, rfl, hu⟩)
 rotate_left
 ·exact ⟨rfl, .inr ⟨by rw [HR.out, Pars.must_no hi]; rfl, rfl, HU.out.trans (UpdB.of_upd hu hBw)⟩⟩
 replace HR := hid (HR.out.trans (Pars.must_some hi))
 have hub := UpdB.of_upd hu hBw
 replace OB := bg OB hu
 replace HP := hid (HP.out.upd hx hu (by omega))
 replace NB := bg NB hu
 replace HU := hid (HU.out.trans hub)
 replace hBw := Nat.le_trans hBw hu.size
 clear hub
 replace HU1 := hid (HU1.out.trans (UpdB.of_upd hu (Nat.le_of_lt hnl)))
 replace PX := bg PX hu
 clear hi hx hu
 have hle2 := HP.out.kle
 replace hnl := NB.out.lt
 have px := PX.out.cell 0
 simp at px
 go_wp2_with fail
 clear px
 refine (hm'.expr HP.out (by omega)).mono ?_
 rintro e wx (⟨x1, k1, cs1, hr, hk1, hk2, rfl, hn, hx, hu⟩ | ⟨hr, rfl, hu⟩)
 rotate_left
 ·exact ⟨rfl, .inr ⟨by rw [HR.out, Pars.and_no hr]; rfl, rfl, HU.out.trans (UpdB.of_upd hu hBw)⟩⟩
 have hlt1 := got_lt hr rfl
 replace HR := hid (HR.out.trans (Pars.and_some hr))
 have hrl := KO1.out.row
 have hz1 := HU1.out.size
 have HN1 : Hid (NodeAt wx (fun g => B ≤ g ∧ g ≠ oa ∧ (Value.slice KA acc.length kc).ownBlock ≠ some g ∧ g ≠ nb) x1 cs1) := hid (hn.weak (fun g hg => ⟨by omega, by have := OB.out.lt; omega, fun e => by obtain ⟨_, ho, _⟩ := hrl; have := (ho.lt g e).2; omega, by omega⟩))
 clear hrl
 have hub := UpdB.of_upd hu hBw
 replace OB := bg OB hu
 replace HP := hid (HP.out.upd hx hu (by omega))
 replace NB := bg NB hu
 replace HU := hid (HU.out.trans hub)
 replace hBw := Nat.le_trans hBw hu.size
 clear hub
 replace HU1 := hid (HU1.out.trans (UpdB.of_upd hu (Nat.le_of_lt hnl)))
 replace PX := bg PX hu
 clear hr hn hx hu
 have hleX := HP.out.kle
 obtain ⟨v1, hlit, hvo⟩ := NodeAt.lit HN1.out
 rw [hlit] at HN1 ⊢
 have HVO1 := hid hvo
 clear hlit hvo
 have hnX := NB.out.lt
 have hne : nb ≠ wx.heap.size := by omega
 have hne2 : wx.heap.size ≠ nb := fun e => hne e.symm
 have f3 : (wx.alloc (.cells #[.int .i64 x1.kind, .int .i64 x1.num, .string (byt x1.text), v1] 24)).frozen? ⟨nb, 3, none⟩ = false := (NB.out.alloc _).frozen 3
 have c3 := (NB.out.alloc (.cells #[.int .i64 x1.kind, .int .i64 x1.num, .string (byt x1.text), v1] 24)).cell 3
 simp at c3
 go_upto_region 3 with fail
 clear f3 c3
 have bxB := Box.new wx 24 #[.int .i64 x1.kind, .int .i64 x1.num, .string (byt x1.text), v1]
 have hb1 : Below wx.heap.size wx (wx.alloc (.cells #[.int .i64 x1.kind, .int .i64 x1.num, .string (byt x1.text), v1] 24)) := below1 wx _
 have hu1 : Upd (wx.alloc (.cells #[.int .i64 x1.kind, .int .i64 x1.num, .string (byt x1.text), v1] 24)) ((wx.alloc (.cells #[.int .i64 x1.kind, .int .i64 x1.num, .string (byt x1.text), v1] 24)).setCell ⟨nb, 3, none⟩ (.slice (some ⟨wx.heap.size, 0, none⟩) 1 1)) nb := (Upd.refl _ _).set (.inl rfl) _
 have NB8 := (NB.out.alloc (.cells #[.int .i64 x1.kind, .int .i64 x1.num, .string (byt x1.text), v1] 24)).set 3 (.slice (some ⟨wx.heap.size, 0, none⟩) 1 1)
 simp at NB8
 obtain ⟨wy, hwy⟩ : ∃ wy, ((wx.alloc (.cells #[.int .i64 x1.kind, .int .i64 x1.num, .string (byt x1.text), v1] 24)).setCell ⟨nb, 3, none⟩ (.slice (some ⟨wx.heap.size, 0, none⟩) 1 1)) = wy := ⟨_, rfl⟩
 rw [hwy] at hu1 NB8
 rw [World.setCell_alloc_past _ _ _ _ hnX] at hwy
 rw [hwy]
 clear hwy
 have hrl := KO1.out.row
 have hob := OB.out.lt
 have hz2 := HU1.out.size
 have hBX := Nat.le_trans hBw hb1.size
 have hsz1 := hb1.size
 have HNB : Hid (wx.heap.size ≠ oa ∧ B ≤ wx.heap.size ∧ (Value.slice KA acc.length kc).ownBlock ≠ some wx.heap.size) := hid ⟨by omega, hBw, fun e => by obtain ⟨_, ho, _⟩ := hrl; have := (ho.lt _ e).2; omega⟩
 have HKN : Hid ((Value.slice KA acc.length kc).ownBlock ≠ some nb) := hid (fun e => KN.out e)
 have BXB := Box.grown bxB hu1 (by intro h; injection h with h; omega)
 have HNX : Hid (NodeAt wy (fun g => B ≤ g ∧ g ≠ oa ∧ (Value.slice KA acc.length kc).ownBlock ≠ some g ∧ g ≠ nb) x1 #[.int .i64 x1.kind, .int .i64 x1.num, .string (byt x1.text), v1]) := hid ((HN1.out.below hb1).upd hu1 (fun g hg => hg.2.2.2))
 replace OB := hid (Box.grown (OB.out.below hb1 OB.out.lt) hu1 (by intro h; injection h with h; omega))
 replace PX := hid (Box.grown (PX.out.below hb1 PX.out.lt) hu1 (by intro h; injection h with h; omega))
 replace HU1 := hid ((HU1.out.trans (UpdB.of_below hb1 (Nat.le_of_lt hnX))).trans (UpdB.of_far hu1 (Nat.le_refl _) (by omega)))
 have KOF := hid (KO1.out.updB (by rw [hnb1.out]; exact HU1.out) hbB)
 clear KO1 HU1
 have hb2 : Below B wx wy := (hb1.mono hBw).trans (hu1.own hnbB hBX)
 replace HP := hid (HP.out.belowB hb2 hbB HA.out)
 replace HU := hid (HU.out.trans (UpdB.of_below hb2 (Nat.le_refl _)))
 replace hBw := Nat.le_trans hBw hb2.size
 replace NB := hid NB8
 have HN2 : Hid (NodeAt wy (fun g => B ≤ g ∧ g ≠ oa ∧ (Value.slice KA acc.length kc).ownBlock ≠ some g) (.mk 8 0 nm [x1]) #[.int .i64 8, .int .i64 0, .string (byt nm), (.slice (some ⟨wx.heap.size, 0, none⟩) 1 1)]) := hid (NodeAt.build (css := [#[.int .i64 x1.kind, .int .i64 x1.num, .string (byt x1.text), v1]]) 8 0 nm BXB ⟨HNB.out.2.1, HNB.out.1, HNB.out.2.2⟩ ⟨HNX.out.weak (fun g hg => ⟨hg.1, hg.2.1, hg.2.2.1⟩), trivial⟩)
 clear hb1 hu1 NB8 hb2 bxB BXB HNX HN1 hrl HNB HKN KN
 have HRR := hid HR.out
 obtain ⟨vv, hvv⟩ : ∃ vv, (Value.slice (some ⟨wx.heap.size, 0, none⟩) 1 1) = vv := ⟨_, rfl⟩
 have HVV : Hid (vv.oneCell' = true) := hid (by rw [← hvv]; rfl)
 rw [hvv] at HN2 NB ⊢
 clear hvv
 refine wp_region_until 5 (fun w' => Box w' oa 24 (nc kd nu tx (Value.slice KA acc.length kc)) ∧ Box w' nb 24 #[.int .i64 8, .int .i64 0, .string (byt nm), vv]) (by kernel_rfl) ⟨OB.out.drew, NB.out.drew⟩ (fun hHeld => ?_)
 obtain ⟨wd, hwd⟩ : ∃ wd, wy.drew = wd := ⟨_, rfl⟩
 have hb : Below wy.heap.size wy wd := hwd ▸ (Below.refl _ wy).drew
 (try rw [hwd] at hHeld)
 (try rw [hwd])
 clear hwd hHeld
 replace OB := bl OB hb
 replace KOF := hid (KOF.out.below hb)
 replace HP := hid (HP.out.below hb)
 replace HN2 := hid (HN2.out.below hb)
 replace NB := bl NB hb
 replace HU := hid (HU.out.trans (UpdB.of_below hb hBw))
 replace hBw := Nat.le_trans hBw hb.size
 clear hb
 refine tU (i := 0) (v := ?_) rfl ?_ (.inr ⟨OB.out, NB.out⟩) ?_
 rotate_left
 ·intro w hSw
  go_simp
  try (with_reducible rfl)
 (try simp only [Act.put, sq])
 refine tV (i := 1) (v := (Value.slice KA acc.length kc)) rfl ?_ ⟨OB.out, NB.out⟩ ?_
 ·intro w hSw
  have c3 := hSw.1.cell 3
  simp [nc] at c3
  go_simp
 (try simp only [Act.put, sq])
 refine tU (i := 3) (v := ?_) rfl ?_ (.inr ⟨OB.out, NB.out⟩) ?_
 rotate_left
 ·intro w hSw
  go_simp
  try (with_reducible rfl)
 (try simp only [Act.put, sq])
 refine wpAnyU_take (i := 2) (v := .agg #[.int .i64 8, .int .i64 0, .string (byt nm), vv]) rfl (by kernel_rfl) (by kernel_rfl) (by kernel_rfl) (by kernel_rfl) (by kernel_rfl) (fun _ _ _ h => h) (yields_load_box (by kernel_rfl) 24 (.tmp 2) rfl nb 24 #[.int .i64 8, .int .i64 0, .string (byt nm), vv] _ rfl (fun _ h => h.2) Tryz.underlying24 rfl info_nod) ⟨OB.out, NB.out⟩ ?_
 (try simp only [Act.put, sq])
 refine rdU 4 rfl fun K hK => ?_
 go_simp
 have bxB := Box.new wd 24 #[.int .i64 0, .int .i64 0, .string ⟨#[]⟩, .slice none 0 0]
 have hb : Below wd.heap.size wd (wd.alloc (.cells #[.int .i64 0, .int .i64 0, .string ⟨#[]⟩, .slice none 0 0] 24)) := below1 wd _
 obtain ⟨wb, hwb⟩ : ∃ wb, (wd.alloc (.cells #[.int .i64 0, .int .i64 0, .string ⟨#[]⟩, .slice none 0 0] 24)) = wb := ⟨_, rfl⟩
 rw [hwb] at bxB hb
 rw [hwb]
 clear hwb
 have BXB := hid bxB
 obtain ⟨zb, hzb⟩ : ∃ zb, wd.heap.size = zb := ⟨_, rfl⟩
 rw [hzb] at BXB ⊢
 have hzbB : B ≤ zb := hzb ▸ hBw
 replace OB := bl OB hb
 replace KOF := hid (KOF.out.below hb)
 replace HP := hid (HP.out.below hb)
 replace HN2 := hid (HN2.out.below hb)
 replace NB := bl NB hb
 replace HU := hid (HU.out.trans (UpdB.of_below hb hBw))
 replace hBw := Nat.le_trans hBw hb.size
 refine hK.out _ _ (.inr ⟨OB.out, NB.out⟩) (fun hHeld => ?_)
 clear hK hHeld K
 (try simp only [Act.put, sq])
 clear hb bxB hzb
 refine rdU 5 rfl fun K hK => ?_
 obtain ⟨css, hrow, hkn⟩ := KOF.out.row
 refine step_append_lies _ rfl (.tmp 13) (.tmp 16) 22 rfl B 24 i0 _ 4 56 Tryz.underlying22 hi0 hi1 hi2 hi3 rfl (by decide) (Value.slice KA acc.length kc) acc.length (flatA css) (by simp [Act.eval, Act.put]) hrow ⟨zb, 0, none⟩ 1 1 [.int .i64 0, .int .i64 0, .string ⟨#[]⟩, .slice none 0 0] (by simp [Act.eval, Act.put]) rfl (by exact World.news_of_block BXB.out) zrow_one (by omega) (by unfold maxLen; omega) (by omega) hBw wb.heap.size rfl ?_
 intro g7 cap7 w7 hown7 hgr7 hor7 hlt7
 have hbB7 : Below B wb w7 := below_grown hgr7 hBw (fun q hq => (hrow.lt q hq).1)
 have hob := OB.out.lt
 have KO7 := KOF.out.snoc (x := .mk 0 0 [] []) (cs := #[.int .i64 0, .int .i64 0, .string ⟨#[]⟩, .slice none 0 0]) css hrow hkn (NodeAt.leaf _ _ 0 0 []) hown7 hgr7 hor7 hob
 replace HN2 := hid (NodeAt.room HN2.out hgr7 hor7)
 have hoa7 : g7 ≠ oa := by
  rcases hor7 with e | e
  ·intro e2; exact KOF.out.ne (by rw [e, e2])
  ·omega
 have hg7B : B ≤ g7 := by
  rcases hor7 with e | e
  ·exact (hrow.lt _ e).1
  ·omega
 replace OB := hid (Box.grown OB.out hgr7 (fun e => KOF.out.ne e.symm))
 replace HP := hid (HP.out.belowB hbB7 hbB HA.out)
 replace HU := hid (HU.out.trans (UpdB.of_below hbB7 (Nat.le_refl _)))
 replace hBw := Nat.le_trans hBw hbB7.size
 replace KOF := hid KO7
 refine hK.out _ _ (.inl rfl) (fun hHeld => ?_)
 clear hK hHeld K
 (try simp only [Act.put, sq])
 clear hown7 hgr7 hor7 hlt7 hbB7 hrow hkn hob KO7
 have n1 : (acc.length : Int) < ((acc.length + 1 : Nat) : Int) := by omega
 have n2 : decide ((acc.length : Int) < ((acc.length + 1 : Nat) : Int)) = true := decide_eq_true n1
 have n3 : acc.length < acc.length + 1 := by omega
 refine tU (i := 6) (v := .pointer (some ⟨g7, acc.length * 4, none⟩)) rfl ?_ (.inl rfl) ?_
 ·intro w hSw
  go_simp
  try (intro hx; exfalso; omega)
 (try simp only [Act.put, sq])
 clear n1 n2 n3
 refine tU (i := 8) (v := ?_) rfl ?_ (.inl rfl) ?_
 rotate_left
 ·intro w hSw
  go_simp
  try (with_reducible rfl)
 (try simp only [Act.put, sq])
 refine wpAnyU_ready (rs := [7, 9]) (by kernel_rfl) (by simp) ?_
 refine AllReadyU.cons rfl (fun K hK => ?_) (AllReadyU.cons rfl (fun K hK => ?_) AllReadyU.nil)
 focus
  obtain ⟨cur, hcur, hcl, hKO⟩ := KOF.out.last HN2.out
  have HKO := hid hKO
  refine step_store_midbox rfl 24 (.tmp 18) (.tmp 14) rfl g7 (acc.length * 4) #[.int .i64 8, .int .i64 0, .string (byt nm), vv] (by simp [Act.eval, Act.put]) (by simp [Act.eval, Act.put]) cur 24 hcur hcl info_nod (nc_one _ _ _ HVV.out) ?_
  intro w8 hx8 hu8 hz8
  have hb8 : Below B w7 w8 := hu8.own hg7B hBw
  replace OB := hid (Box.grown OB.out hu8 (by intro h; injection h with h; exact hoa7 h.symm))
  have KOF := hid (HKO.out w8 hx8 hu8)
  replace HP := hid (HP.out.belowB hb8 hbB HA.out)
  replace HU := hid (HU.out.trans (UpdB.of_below hb8 (Nat.le_refl _)))
  replace hBw := Nat.le_trans hBw hb8.size
  refine hK.out _ _ (.inl rfl) (fun hHeld => ?_)
  clear hK hHeld K
  (try simp only [Act.put, sq])
  clear hx8 hu8 hz8 hb8 hcur hcl hKO HKO
  refine rdU 9 rfl fun K hK => ?_
  have c3 := OB.out.cell 3
  have f3 : w8.frozen? ⟨oa, 3, none⟩ = false := OB.out.frozen 3
  simp [nc] at c3
  go_simp
  have hu9 : Upd w8 (w8.setCell ⟨oa, 3, none⟩ (Value.slice (some ⟨g7, 0, none⟩) (acc.length + 1) cap7)) oa := (Upd.refl _ _).set (.inl rfl) _
  have OB9 := OB.out.set 3 (Value.slice (some ⟨g7, 0, none⟩) (acc.length + 1) cap7)
  obtain ⟨wz, hwz⟩ : ∃ wz, (w8.setCell ⟨oa, 3, none⟩ (Value.slice (some ⟨g7, 0, none⟩) (acc.length + 1) cap7)) = wz := ⟨_, rfl⟩
  rw [hwz] at hu9 OB9
  rw [hwz]
  clear hwz
  replace OB9 : Box wz oa 24 (nc kd nu tx (Value.slice (some ⟨g7, 0, none⟩) (acc.length + 1) cap7)) := by simpa [nc] using OB9
  replace OB := hid OB9
  replace KOF := hid (KOF.out.self hu9)
  have hb9 : Below B w8 wz := hu9.own hoB hBw
  replace HP := hid (HP.out.belowB hb9 hbB HA.out)
  replace HU := hid (HU.out.trans (UpdB.of_below hb9 (Nat.le_refl _)))
  replace hBw := Nat.le_trans hBw hb9.size
  refine hK.out _ _ (.inl rfl) (fun hHeld => ?_)
  clear hK hHeld K
  (try simp only [Act.put, sq])
  clear hu9 OB9 hb9 c3 f3
 rotate_left
 focus
  have c3 := OB.out.cell 3
  have f3 : w7.frozen? ⟨oa, 3, none⟩ = false := OB.out.frozen 3
  simp [nc] at c3
  go_simp
  have hu9 : Upd w7 (w7.setCell ⟨oa, 3, none⟩ (Value.slice (some ⟨g7, 0, none⟩) (acc.length + 1) cap7)) oa := (Upd.refl _ _).set (.inl rfl) _
  have OB9 := OB.out.set 3 (Value.slice (some ⟨g7, 0, none⟩) (acc.length + 1) cap7)
  obtain ⟨w8, hwz⟩ : ∃ wz, (w7.setCell ⟨oa, 3, none⟩ (Value.slice (some ⟨g7, 0, none⟩) (acc.length + 1) cap7)) = wz := ⟨_, rfl⟩
  rw [hwz] at hu9 OB9
  rw [hwz]
  clear hwz
  replace OB9 : Box w8 oa 24 (nc kd nu tx (Value.slice (some ⟨g7, 0, none⟩) (acc.length + 1) cap7)) := by simpa [nc] using OB9
  replace OB := hid OB9
  replace KOF := hid (KOF.out.self hu9)
  replace HN2 := hid (HN2.out.upd hu9 (fun q hq => hq.2.1))
  have hb9 : Below B w7 w8 := hu9.own hoB hBw
  replace HP := hid (HP.out.belowB hb9 hbB HA.out)
  replace HU := hid (HU.out.trans (UpdB.of_below hb9 (Nat.le_refl _)))
  replace hBw := Nat.le_trans hBw hb9.size
  refine hK.out _ _ (.inl rfl) (fun hHeld => ?_)
  clear hK hHeld K
  (try simp only [Act.put, sq])
  clear hu9 OB9 hb9 c3 f3
  refine rdU 7 rfl fun K hK => ?_
  obtain ⟨cur, hcur, hcl, hKO⟩ := KOF.out.last HN2.out
  have HKO := hid hKO
  refine step_store_midbox rfl 24 (.tmp 18) (.tmp 14) rfl g7 (acc.length * 4) #[.int .i64 8, .int .i64 0, .string (byt nm), vv] (by simp [Act.eval, Act.put]) (by simp [Act.eval, Act.put]) cur 24 hcur hcl info_nod (nc_one _ _ _ HVV.out) ?_
  intro wz hx8 hu8 hz8
  have hb8 : Below B w8 wz := hu8.own hg7B hBw
  replace OB := hid (Box.grown OB.out hu8 (by intro h; injection h with h; exact hoa7 h.symm))
  have KOF := hid (HKO.out wz hx8 hu8)
  replace HP := hid (HP.out.belowB hb8 hbB HA.out)
  replace HU := hid (HU.out.trans (UpdB.of_below hb8 (Nat.le_refl _)))
  replace hBw := Nat.le_trans hBw hb8.size
  refine hK.out _ _ (.inl rfl) (fun hHeld => ?_)
  clear hK hHeld K
  (try simp only [Act.put, sq])
  clear hx8 hu8 hz8 hb8 hcur hcl hKO HKO
 all_goals
  refine wpAnyU_done (by kernel_rfl) ?_ _
  go_wp2
  go_end0
  exact .inl ⟨acc ++ [.mk 8 0 nm [x1]], k1, (Value.slice (some ⟨g7, 0, none⟩) (acc.length + 1) cap7), by rw [HRR.out]; rfl, by omega, by omega, by simp only [ln]; omega, rfl, OB.out, KOF.out, HP.out.box, HU.out⟩
end Go.Proofs.YtonjdlialejedaaGreatDoor
