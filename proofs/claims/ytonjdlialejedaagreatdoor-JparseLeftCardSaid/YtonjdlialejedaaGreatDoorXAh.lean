/-
  Texts that the law leans on: PmH, PmI. Conditions: as each says.
-/
import Derived.Test.YtonjdlialejedaaGreatDoorXAg
import Derived.Test.YtonjdlialejedaaGreatDoorXAa
set_option linter.unusedSimpArgs false
set_option linter.unusedVariables false
namespace Go.Proofs.YtonjdlialejedaaGreatDoor
open Go.Lib (hid)
open Go.RowKit
set_option maxRecDepth 100000 in
set_option maxHeartbeats 4000000 in
theorem block_step {n : Nat} (hall : ∀ m, m ≤ n → All m) : ∀ {w : World} {b : Nat} {ts : List KT} {A : Option Addr} {c k : Nat} {fn lp : Bool}, PSt w b ts A c k fn lp → 20 * (ts.length - k) + 1 < n + 1 → Calls Tryz.prog 60 #[.pointer (some ⟨b, 0, none⟩)] w (Got w b ts A c k fn lp (Pars.run (n + 1) .block fn lp (left ts k))) := by
 have h := hall n (Nat.le_refl _)
 intro w b ts A c k fn lp hP hm
 obtain ⟨i0, hi0, hi1, hi2, hi3⟩ := info_parts parts_nod
 have HAB := hid hP.old
 have HR : Hid (Pars.run (n + 1) .block fn lp (left ts k) = _) := hid (by rw [Pars.run])
 have hbl := hP.box.lt
 have hle := hP.kle
 go_enter Tryz.func60, Tryz.ntmps60
 go_upto_region 1 with fail
 refine gen_world (F := fun W => Box W w.heap.size 24 #[.int .i64 0, .int .i64 0, .string ⟨#[]⟩, .slice none 0 0] ∧ Below w.heap.size w W) ⟨Box.new w _ _, below1 w _⟩ ?_
 rintro W0 ⟨r0, hU⟩
 have RB := hid r0
 have HP := hid (hP.below hU)
 have HU : Hid (Upd w W0 b) := hid (Upd.below hU b)
 have HZ : Hid (w.heap.size < W0.heap.size) := hid r0.lt
 have hz0 := r0.lt
 have HZW : Hid (W0.heap.size ≤ W0.heap.size) := hid (Nat.le_refl _)
 clear r0 hU hP
 go_wp2_with fail
 refine (must_any [123] _ b ts A c (k) fn lp HP.out).mono ?_
 rintro e w1 (⟨hi, hk, rfl, hx, hu⟩ | ⟨hi, rfl, hu⟩)
 rotate_left
 ·exact ⟨rfl, .inr ⟨HR.out.trans (Pars.must_no hi), rfl, HU.out.trans hu⟩⟩
 replace HR := hid (HR.out.trans (Pars.must_some hi))
 replace RB := bg RB hu
 replace HP := hid (HP.out.upd hx hu (by omega))
 replace HU := hid (HU.out.trans hu)
 replace HZW := hid (Nat.le_trans HZW.out hu.size)
 clear hi hx hu
 have hle1 := HP.out.kle
 go_upto_region 3 with (refine wpList_store_box rfl 24 (.tmp 3) (.tmp 6) rfl w1.heap.size #[.int .i64 30, .int .i64 0, .string ⟨#[]⟩, .slice none 0 0] rfl rfl 24 _ (Box.new w1 _ _) info_nod rfl (nz_one _ _ _ _ _ _) ?_; intro w2 hx hv hz; have HZO := hid hz; clear hz)
 have hb : Below w1.heap.size w1 w2 := ((Below.refl _ w1).alloc (Nat.le_refl _) _).trans (hv.own (Nat.le_refl _) (by simp))
 have OB := hid hx
 have hzO := Nat.lt_of_lt_of_le HZ.out HZW.out
 have hoB : W0.heap.size ≤ w1.heap.size := HZW.out
 replace RB := bl RB hb
 replace HP := hid (HP.out.below hb)
 replace HU := hid (HU.out.step hb)
 replace HZW := hid (Nat.le_trans HZW.out hb.size)
 have KOF := hid (KO.nil w2 W0.heap.size w1.heap.size)
 clear hx hv hb
 obtain ⟨oa, hoa⟩ : ∃ oa, w1.heap.size = oa := ⟨_, rfl⟩
 rw [hoa] at OB KOF hzO hoB ⊢
 clear hoa
 simp only [Act.put]
 go_loopg [9] (ts.length) (fun gg s9 wr => ∃ (k' m : Nat) (acc : List Pars.Node) (kv : Value), ts.length - k' ≤ gg ∧ k < k' ∧ k' ≤ ts.length ∧ acc.length ≤ k' ∧ m ≤ n ∧ 20 * (ts.length - k') + 15 < m ∧ Hid (Box wr w.heap.size 24 #[.int .i64 0, .int .i64 0, .string ⟨#[]⟩, .slice none 0 0]) ∧ Hid (Box wr oa 24 #[.int .i64 30, .int .i64 0, .string ⟨#[]⟩, kv]) ∧ Hid (KO wr W0.heap.size oa acc kv) ∧ Hid (PSt wr b ts A c k' fn lp) ∧ Hid (Upd w wr b) ∧ Hid (W0.heap.size ≤ wr.heap.size) ∧ Hid (Pars.run (n + 1) .block fn lp (left ts k) = Pars.run m (.blockGo acc) fn lp (left ts k')))
 case atStart => exact ⟨k + 1, n, [], _, by omega, by omega, hle1, by simp, Nat.le_refl _, by omega, RB, OB, KOF, HP, HU, HZW, HR⟩
 case round =>
  clear RB OB KOF HP HU HZW HR
  obtain ⟨k', m, acc, kv, hg, hkk, hkl, hal, hmn, hmm, RB, OB, KOF, HP, HU, HZW, HRR⟩ := hrel
  obtain ⟨m', rfl⟩ : ∃ m', m = m' + 1 := ⟨m - 1, by omega⟩
  have hlen := HP.out.len
  have hn := hall m' (by omega)
  have HR : Hid (Pars.run (n + 1) .block fn lp (left ts k) = _) := hid (HRR.out.trans (by rw [Pars.run]))
  clear HRR
  go_wp2_with fail
  refine (is_any [125] _ b ts A c k' fn lp HP.out).mono ?_
  rintro e w3 (⟨hi, hk, rfl, hx, hu⟩ | ⟨hi, rfl, hx, hu⟩)
  ·replace HR := hid (HR.out.trans (Pars.alt_some hi))
   replace RB := bg RB hu
   replace OB := bg OB hu
   replace KOF := hid (KOF.out.upd hu (by omega))
   replace HP := hid (HP.out.upd hx hu (by omega))
   replace HU := hid (HU.out.trans hu)
   replace HZW := hid (Nat.le_trans HZW.out hu.size)
   clear hi hx hu
   have ob := OB.out
   go_wp2_with (first | (refine wpList_load_row rfl 24 (.tmp 3) rfl (oa) rfl _ (nc 30 0 [] (kv)) (0, 0) _ ob Tryz.underlying24 rfl info_nod ?_) | (refine wpList_store_box rfl 24 (.tmp 2) (.tmp 17) rfl w.heap.size (nc 30 0 [] (kv)) rfl rfl 24 _ RB.out info_nod rfl (nc_own _ _ _ KOF.out) ?_; intro wy hxz huz hzz; have HZZ := hid hzz; clear hzz))
   refine bodyPost_ret (results_box rfl _ _ w.heap.size 24 _ _ rfl hxz Tryz.underlying24 rfl info_nod) rfl ?_
   exact .inl ⟨.mk 30 0 [] (acc), k' + 1, _, HR.out, by omega, HP.out.kle, rfl, ((KOF.out.node 30 0 []).upd huz (fun g hg => by have := hg.1; omega)).weak (fun g hg => by have := hg.1; omega), Box.grown HP.out.box huz (by intro h; injection h with h; omega), Upd.fresh HU.out huz (Nat.le_refl _)⟩
  replace HR := hid (HR.out.trans (Pars.alt_no hi))
  replace RB := bg RB hu
  replace OB := bg OB hu
  replace KOF := hid (KOF.out.upd hu (by omega))
  replace HP := hid (HP.out.upd hx hu (by omega))
  replace HU := hid (HU.out.trans hu)
  replace HZW := hid (Nat.le_trans HZW.out hu.size)
  clear hi hx hu
  go_upto_region 4 with fail
  refine wp_region_until 5 (fun w' => Box w' (oa) 24 #[.int .i64 30, .int .i64 0, .string ⟨#[]⟩, kv]) (by kernel_rfl) OB.out.drew (fun hHeld => ?_)
  obtain ⟨wd_3, hwd⟩ : ∃ wd_3, w3.drew = wd_3 := ⟨_, rfl⟩
  have hb : Below w3.heap.size w3 wd_3 := hwd ▸ (Below.refl _ w3).drew
  (try rw [hwd] at hHeld)
  (try rw [hwd])
  clear hwd hHeld
  replace RB := bl RB hb
  replace OB := bl OB hb
  replace KOF := hid (KOF.out.below hb)
  replace HP := hid (HP.out.below hb)
  replace HU := hid (HU.out.step hb)
  replace HZW := hid (Nat.le_trans HZW.out hb.size)
  clear hb
  refine tU (i := 0) (v := ?_) rfl ?_ (.inr OB.out) ?_
  rotate_left
  ·intro w hSw
   go_simp
   try (with_reducible rfl)
  (try simp only [Act.put, sq])
  refine tU (i := 2) (v := ?_) rfl ?_ (.inr OB.out) ?_
  rotate_left
  ·intro w hSw
   go_simp
   try (with_reducible rfl)
  (try simp only [Act.put, sq])
  refine tV (i := 1) (v := kv) rfl ?_ OB.out ?_
  ·intro w hSw
   have c3 := hSw.cell 3
   simp at c3
   go_simp
  (try simp only [Act.put, sq])
  refine rdU 3 rfl fun K hK => ?_
  go_simp
  refine (hn.stmt HP.out (by omega)).mono ?_
  rintro e wc_3 (⟨x3, k3, cs3, hr, hk1, hk2, rfl, hn, hx, hu⟩ | ⟨hr, rfl, hu⟩)
  rotate_left
  ·exact ⟨rfl, .inr ⟨HR.out.trans (Pars.and_no hr), rfl, HU.out.trans hu⟩⟩
  have hlt3 := got_lt hr rfl
  replace HR := hid (HR.out.trans (Pars.and_some hr))
  have hrl := KOF.out.row
  have HN3 : Hid (NodeAt wc_3 (fun g => W0.heap.size ≤ g ∧ g ≠ oa ∧ (kv).ownBlock ≠ some g) x3 cs3) := hid (hn.weak (fun g hg => ⟨by have := HZW.out; omega, by have := OB.out.lt; omega, fun e => by obtain ⟨_, ho, _⟩ := hrl; have := (ho.lt g e).2; omega⟩))
  clear hrl
  replace RB := bg RB hu
  replace OB := bg OB hu
  replace KOF := hid (KOF.out.upd hu (by omega))
  replace HP := hid (HP.out.upd hx hu (by omega))
  replace HU := hid (HU.out.trans hu)
  replace HZW := hid (Nat.le_trans HZW.out hu.size)
  clear hr hn hx hu
  obtain ⟨v3, hlit, hvo⟩ := NodeAt.lit HN3.out
  rw [hlit] at HN3 ⊢
  have HVO3 := hid hvo
  clear hlit hvo
  go_wp2_with fail
  refine hK.out _ _ (.inr OB.out) (fun hHeld => ?_)
  clear hK hHeld K
  (try simp only [Act.put, sq])
  refine rdU 4 rfl fun K hK => ?_
  go_simp
  have bxB := Box.new wc_3 24 #[.int .i64 x3.kind, .int .i64 x3.num, .string (byt x3.text), v3]
  have hb : Below wc_3.heap.size wc_3 (wc_3.alloc (.cells #[.int .i64 x3.kind, .int .i64 x3.num, .string (byt x3.text), v3] 24)) := below1 wc_3 _
  obtain ⟨wb_3, hwb⟩ : ∃ wb_3, (wc_3.alloc (.cells #[.int .i64 x3.kind, .int .i64 x3.num, .string (byt x3.text), v3] 24)) = wb_3 := ⟨_, rfl⟩
  rw [hwb] at bxB hb
  rw [hwb]
  clear hwb
  have BXB := hid bxB
  have HBA : Hid (wc_3.heap.size < wb_3.heap.size) := hid bxB.lt
  replace RB := bl RB hb
  replace OB := bl OB hb
  replace KOF := hid (KOF.out.below hb)
  replace HP := hid (HP.out.below hb)
  replace HU := hid (HU.out.step hb)
  replace HZW := hid (Nat.le_trans HZW.out hb.size)
  replace HN3 := hid (HN3.out.below hb)
  refine hK.out _ _ (.inr OB.out) (fun hHeld => ?_)
  clear hK hHeld K
  (try simp only [Act.put, sq])
  clear hb bxB
  refine rdU 5 rfl fun K hK => ?_
  obtain ⟨css, hrow, hkn⟩ := KOF.out.row
  have hll : acc.length ≤ 1000 := by omega
  refine step_append_lies _ rfl (.tmp 11) (.tmp 14) 22 rfl W0.heap.size 24 i0 _ 4 56 Tryz.underlying22 hi0 hi1 hi2 hi3 rfl (by decide) (kv) acc.length (flatA css) (by simp [Act.eval, Act.put]) hrow ⟨wc_3.heap.size, 0, none⟩ 1 1 [.int .i64 x3.kind, .int .i64 x3.num, .string (byt x3.text), v3] (by simp [Act.eval, Act.put]) rfl (by exact World.news_of_block BXB.out) (by have hv := HVO3.out; intro u hu; simp only [List.mem_cons, List.not_mem_nil, or_false] at hu; rcases hu with rfl | rfl | rfl | rfl; rfl; rfl; rfl; exact hv) (by omega) (by unfold maxLen; omega) (by omega) HZW.out wb_3.heap.size rfl ?_
  intro g7_3 cap7_3 w7_3 hown7 hgr7 hor7 hlt7
  have hbB : Below W0.heap.size wb_3 w7_3 := below_grown hgr7 HZW.out (fun q hq => (hrow.lt q hq).1)
  have hob := OB.out.lt
  have KO7 : KO w7_3 W0.heap.size (oa) (acc ++ [x3]) (Value.slice (some ⟨g7_3, 0, none⟩) (acc.length + 1) cap7_3) := KOF.out.snoc css hrow hkn HN3.out hown7 hgr7 hor7 hob
  replace OB := hid (Box.grown OB.out hgr7 (fun e => KOF.out.ne e.symm))
  replace RB := hid ((hbB.block _ (by omega)).trans RB.out)
  replace HP := hid (HP.out.belowB hbB (by omega) (fun hn g o e => by have := HAB.out hn g o e; omega))
  replace HU := hid (HU.out.belowB hbB (by omega))
  replace HZW := hid (Nat.le_trans HZW.out hbB.size)
  have KOG := hid KO7
  refine hK.out _ _ (.inl rfl) (fun hHeld => ?_)
  clear hK hHeld K
  (try simp only [Act.put, sq])
  clear hown7 hgr7 hor7 hlt7 hbB hrow hkn KO7 hob
  refine rdU 6 rfl fun K hK => ?_
  go_simp
  refine hK.out _ _ (.inl rfl) (fun hHeld => ?_)
  clear hK hHeld K
  (try simp only [Act.put, sq])
  refine rdU 7 rfl fun K hK => ?_
  have c3 := OB.out.cell 3
  have f3 : w7_3.frozen? ⟨oa, 3, none⟩ = false := OB.out.frozen 3
  simp at c3
  go_simp
  have hu8 : Upd w7_3 (w7_3.setCell ⟨oa, 3, none⟩ (Value.slice (some ⟨g7_3, 0, none⟩) (acc.length + 1) cap7_3)) (oa) := (Upd.refl _ _).set (.inl rfl) _
  have OB8 := OB.out.set 3 (Value.slice (some ⟨g7_3, 0, none⟩) (acc.length + 1) cap7_3)
  obtain ⟨wz_3, hwz⟩ : ∃ wz_3, (w7_3.setCell ⟨oa, 3, none⟩ (Value.slice (some ⟨g7_3, 0, none⟩) (acc.length + 1) cap7_3)) = wz_3 := ⟨_, rfl⟩
  rw [hwz] at hu8 OB8
  rw [hwz]
  clear hwz
  simp at OB8
  replace OB := hid OB8
  replace KOF := hid (KOG.out.self hu8)
  replace RB := bg RB hu8
  have hbo : Below w.heap.size w7_3 wz_3 := hu8.own (by omega) (by have := HU.out.size; omega)
  replace HP := hid (HP.out.belowB hbo (by omega) (fun hn g o e => HAB.out hn g o e))
  replace HU := hid (HU.out.belowB hbo (Nat.le_refl _))
  replace HZW := hid (Nat.le_trans HZW.out hu8.size)
  refine hK.out _ _ (.inl rfl) (fun hHeld => ?_)
  clear hK hHeld K
  (try simp only [Act.put, sq])
  clear hu8 OB8 hbo KOG BXB HBA c3 f3
  refine wpAnyU_done (by kernel_rfl) ?_ _
  have hle3 := HP.out.kle
  go_wp2
  go_roundg (ts.length - k3)
  case measure => omega
  case rel => exact ⟨k3, m', acc ++ [x3], _, by omega, by omega, hle3, by simp; omega, by omega, by omega, RB, OB, KOF, HP, HU, HZW, HR⟩
end Go.Proofs.YtonjdlialejedaaGreatDoor
namespace Go.Proofs.YtonjdlialejedaaGreatDoor
open Go.Lib (hid)
open Go.RowKit
theorem named_at {ts : List KT} {k : Nat} {t : KT} {f : List UInt8 → List Lexy.Tk → Pars.R} (h : ts[k]? = some t) (hk : t.1.kind = 1) : Pars.named (left ts k) f = f t.1.text (left ts (k + 1)) := by
 rw [left_cons h]
 simp only [Pars.named, Pars.tok]
 rw [if_pos hk]
theorem named_no {ts : List KT} {k : Nat} {f : List UInt8 → List Lexy.Tk → Pars.R} (h : ∀ t, ts[k]? = some t → t.1.kind ≠ 1) : Pars.named (left ts k) f = none := by
 cases ht : ts[k]? with
 | none =>
  rw [left_nil (by have := List.getElem?_eq_none_iff.1 ht; exact this)]
  rfl
 | some t =>
  rw [left_cons ht]
  simp only [Pars.named, Pars.tok]
  rw [if_neg (h t ht)]
set_option maxRecDepth 100000 in
set_option maxHeartbeats 4000000 in
theorem loops_step {n : Nat} (h : All n) : ∀ {w : World} {b : Nat} {ts : List KT} {A : Option Addr} {c k : Nat} {fn lp : Bool}, PSt w b ts A c k fn lp → 20 * (ts.length - k) + 1 < n + 1 → Calls Tryz.prog 56 #[.pointer (some ⟨b, 0, none⟩)] w (Got w b ts A c k fn lp (Pars.run (n + 1) .loops fn lp (left ts k))) := by
 intro w b ts A c k fn lp hP hm
 obtain ⟨i0, hi0, hi1, hi2, hi3⟩ := info_parts parts_nod
 have HAB := hid hP.old
 have HR : Hid (Pars.run (n + 1) .loops fn lp (left ts k) = _) := hid (by rw [Pars.run])
 have hbl := hP.box.lt
 have hle := hP.kle
 go_enter Tryz.func56, Tryz.ntmps56
 go_upto_region 1 with fail
 refine gen_world (F := fun W => Box W w.heap.size 24 #[.int .i64 0, .int .i64 0, .string ⟨#[]⟩, .slice none 0 0] ∧ Below w.heap.size w W) ⟨Box.new w _ _, below1 w _⟩ ?_
 rintro W0 ⟨r0, hU⟩
 have RB := hid r0
 have HP := hid (hP.below hU)
 have HU : Hid (Upd w W0 b) := hid (Upd.below hU b)
 have HZ : Hid (w.heap.size < W0.heap.size) := hid r0.lt
 have hz0 := r0.lt
 have HZW : Hid (W0.heap.size ≤ W0.heap.size) := hid (Nat.le_refl _)
 clear r0 hU hP
 go_wp2_with fail
 refine (must_any [40] _ b ts A c (k) fn lp HP.out).mono ?_
 rintro e w1 (⟨hi, hk, rfl, hx, hu⟩ | ⟨hi, rfl, hu⟩)
 rotate_left
 ·exact ⟨rfl, .inr ⟨HR.out.trans (Pars.must_no hi), rfl, HU.out.trans hu⟩⟩
 replace HR := hid (HR.out.trans (Pars.must_some hi))
 replace RB := bg RB hu
 replace HP := hid (HP.out.upd hx hu (by omega))
 replace HU := hid (HU.out.trans hu)
 replace HZW := hid (Nat.le_trans HZW.out hu.size)
 clear hi hx hu
 have hle1 := HP.out.kle
 go_wp2_with fail
 refine (must_any Pars.wLet _ b ts A c (k + 1) fn lp HP.out).mono ?_
 rintro e w2 (⟨hi, hk, rfl, hx, hu⟩ | ⟨hi, rfl, hu⟩)
 rotate_left
 ·exact ⟨rfl, .inr ⟨HR.out.trans (Pars.must_no hi), rfl, HU.out.trans hu⟩⟩
 replace HR := hid (HR.out.trans (Pars.must_some hi))
 replace RB := bg RB hu
 replace HP := hid (HP.out.upd hx hu (by omega))
 replace HU := hid (HU.out.trans hu)
 replace HZW := hid (Nat.le_trans HZW.out hu.size)
 clear hi hx hu
 have hle2 := HP.out.kle
 go_wp2_with fail
 refine (name_any _ b ts A c (k + 1 + 1) fn lp HP.out).mono ?_
 rintro e w3 (⟨tn, htn, hk1, hk, rfl, hx, hu⟩ | ⟨hi, rfl, hu⟩)
 rotate_left
 ·exact ⟨rfl, .inr ⟨HR.out.trans (named_no hi), rfl, HU.out.trans hu⟩⟩
 replace HR := hid (HR.out.trans (named_at htn hk1))
 obtain ⟨nm, hnm⟩ : ∃ q, tn.1.text = q := ⟨_, rfl⟩
 rw [hnm] at HR ⊢
 replace RB := bg RB hu
 replace HP := hid (HP.out.upd hx hu (by omega))
 replace HU := hid (HU.out.trans hu)
 replace HZW := hid (Nat.le_trans HZW.out hu.size)
 clear htn hk1 hx hu hnm
 have hle3 := HP.out.kle
 go_upto_region 4 with (refine wpList_store_box rfl 24 (.tmp 3) (.tmp 10) rfl w3.heap.size #[.int .i64 24, .int .i64 0, .string (byt nm), .slice none 0 0] rfl rfl 24 _ (Box.new w3 _ _) info_nod rfl (nz_one _ _ _ _ _ _) ?_; intro w4 hx hv hz; have HZO := hid hz; clear hz)
 have hb : Below w3.heap.size w3 w4 := ((Below.refl _ w3).alloc (Nat.le_refl _) _).trans (hv.own (Nat.le_refl _) (by simp))
 have OB := hid hx
 have hzO := Nat.lt_of_lt_of_le HZ.out HZW.out
 have hoB : W0.heap.size ≤ w3.heap.size := HZW.out
 replace RB := bl RB hb
 replace HP := hid (HP.out.below hb)
 replace HU := hid (HU.out.step hb)
 replace HZW := hid (Nat.le_trans HZW.out hb.size)
 have KOF := hid (KO.nil w4 W0.heap.size w3.heap.size)
 clear hx hv hb
 simp only [Act.put]
 obtain ⟨oa, hoa⟩ : ∃ oa, w3.heap.size = oa := ⟨_, rfl⟩
 rw [hoa] at OB KOF hzO hoB ⊢
 clear hoa
 go_wp2_with fail
 refine (must_any Pars.wOf _ b ts A c (k + 1 + 1 + 1) fn lp HP.out).mono ?_
 rintro e w5 (⟨hi, hk, rfl, hx, hu⟩ | ⟨hi, rfl, hu⟩)
 rotate_left
 ·exact ⟨rfl, .inr ⟨HR.out.trans (Pars.must_no hi), rfl, HU.out.trans hu⟩⟩
 replace HR := hid (HR.out.trans (Pars.must_some hi))
 replace RB := bg RB hu
 replace OB := bg OB hu
 replace KOF := hid (KOF.out.upd hu (by omega))
 replace HP := hid (HP.out.upd hx hu (by omega))
 replace HU := hid (HU.out.trans hu)
 replace HZW := hid (Nat.le_trans HZW.out hu.size)
 clear hi hx hu
 have hle4 := HP.out.kle
 go_upto_region 5 with fail
 refine wp_region_until 5 (fun w' => Box w' (oa) 24 #[.int .i64 24, .int .i64 0, .string (byt nm), Value.slice none 0 0]) (by kernel_rfl) OB.out.drew (fun hHeld => ?_)
 obtain ⟨wd_1, hwd⟩ : ∃ wd_1, w5.drew = wd_1 := ⟨_, rfl⟩
 have hb : Below w5.heap.size w5 wd_1 := hwd ▸ (Below.refl _ w5).drew
 (try rw [hwd] at hHeld)
 (try rw [hwd])
 clear hwd hHeld
 replace RB := bl RB hb
 replace OB := bl OB hb
 replace KOF := hid (KOF.out.below hb)
 replace HP := hid (HP.out.below hb)
 replace HU := hid (HU.out.step hb)
 replace HZW := hid (Nat.le_trans HZW.out hb.size)
 clear hb
 refine tU (i := 0) (v := ?_) rfl ?_ (.inr OB.out) ?_
 rotate_left
 ·intro w hSw
  go_simp
  try (with_reducible rfl)
 (try simp only [Act.put, sq])
 refine tU (i := 2) (v := ?_) rfl ?_ (.inr OB.out) ?_
 rotate_left
 ·intro w hSw
  go_simp
  try (with_reducible rfl)
 (try simp only [Act.put, sq])
 refine tV (i := 1) (v := Value.slice none 0 0) rfl ?_ OB.out ?_
 ·intro w hSw
  have c3 := hSw.cell 3
  simp at c3
  go_simp
 (try simp only [Act.put, sq])
 refine rdU 3 rfl fun K hK => ?_
 go_simp
 refine (h.expr HP.out (by omega)).mono ?_
 rintro e wc_1 (⟨x1, k1, cs1, hr, hk1, hk2, rfl, hn, hx, hu⟩ | ⟨hr, rfl, hu⟩)
 rotate_left
 ·exact ⟨rfl, .inr ⟨HR.out.trans (Pars.and_no hr), rfl, HU.out.trans hu⟩⟩
 have hlt1 := got_lt hr rfl
 replace HR := hid (HR.out.trans (Pars.and_some hr))
 have hrl := KOF.out.row
 have HN1 : Hid (NodeAt wc_1 (fun g => W0.heap.size ≤ g ∧ g ≠ oa ∧ (Value.slice none 0 0).ownBlock ≠ some g) x1 cs1) := hid (hn.weak (fun g hg => ⟨by have := HZW.out; omega, by have := OB.out.lt; omega, fun e => by obtain ⟨_, ho, _⟩ := hrl; have := (ho.lt g e).2; omega⟩))
 clear hrl
 replace RB := bg RB hu
 replace OB := bg OB hu
 replace KOF := hid (KOF.out.upd hu (by omega))
 replace HP := hid (HP.out.upd hx hu (by omega))
 replace HU := hid (HU.out.trans hu)
 replace HZW := hid (Nat.le_trans HZW.out hu.size)
 clear hr hn hx hu
 obtain ⟨v1, hlit, hvo⟩ := NodeAt.lit HN1.out
 rw [hlit] at HN1 ⊢
 have HVO1 := hid hvo
 clear hlit hvo
 go_wp2_with fail
 refine hK.out _ _ (.inr OB.out) (fun hHeld => ?_)
 clear hK hHeld K
 (try simp only [Act.put, sq])
 refine rdU 4 rfl fun K hK => ?_
 go_simp
 have bxB := Box.new wc_1 24 #[.int .i64 x1.kind, .int .i64 x1.num, .string (byt x1.text), v1]
 have hb : Below wc_1.heap.size wc_1 (wc_1.alloc (.cells #[.int .i64 x1.kind, .int .i64 x1.num, .string (byt x1.text), v1] 24)) := below1 wc_1 _
 obtain ⟨wb_1, hwb⟩ : ∃ wb_1, (wc_1.alloc (.cells #[.int .i64 x1.kind, .int .i64 x1.num, .string (byt x1.text), v1] 24)) = wb_1 := ⟨_, rfl⟩
 rw [hwb] at bxB hb
 rw [hwb]
 clear hwb
 have BXB := hid bxB
 have HBA : Hid (wc_1.heap.size < wb_1.heap.size) := hid bxB.lt
 replace RB := bl RB hb
 replace OB := bl OB hb
 replace KOF := hid (KOF.out.below hb)
 replace HP := hid (HP.out.below hb)
 replace HU := hid (HU.out.step hb)
 replace HZW := hid (Nat.le_trans HZW.out hb.size)
 replace HN1 := hid (HN1.out.below hb)
 refine hK.out _ _ (.inr OB.out) (fun hHeld => ?_)
 clear hK hHeld K
 (try simp only [Act.put, sq])
 clear hb bxB
 refine rdU 5 rfl fun K hK => ?_
 obtain ⟨css, hrow, hkn⟩ := KOF.out.row
 have hll : 0 ≤ 1000 := by simp
 refine step_append_lies _ rfl (.tmp 14) (.tmp 17) 22 rfl W0.heap.size 24 i0 _ 4 56 Tryz.underlying22 hi0 hi1 hi2 hi3 rfl (by decide) (Value.slice none 0 0) 0 (flatA css) (by simp [Act.eval, Act.put]) hrow ⟨wc_1.heap.size, 0, none⟩ 1 1 [.int .i64 x1.kind, .int .i64 x1.num, .string (byt x1.text), v1] (by simp [Act.eval, Act.put]) rfl (by exact World.news_of_block BXB.out) (by have hv := HVO1.out; intro u hu; simp only [List.mem_cons, List.not_mem_nil, or_false] at hu; rcases hu with rfl | rfl | rfl | rfl; rfl; rfl; rfl; exact hv) (by omega) (by unfold maxLen; omega) (by omega) HZW.out wb_1.heap.size rfl ?_
 intro g7_1 cap7_1 w7_1 hown7 hgr7 hor7 hlt7
 have hbB : Below W0.heap.size wb_1 w7_1 := below_grown hgr7 HZW.out (fun q hq => (hrow.lt q hq).1)
 have hob := OB.out.lt
 have KO7 : KO w7_1 W0.heap.size (oa) ([] ++ [x1]) (Value.slice (some ⟨g7_1, 0, none⟩) 1 cap7_1) := KOF.out.snoc css hrow hkn HN1.out hown7 hgr7 hor7 hob
 replace OB := hid (Box.grown OB.out hgr7 (fun e => KOF.out.ne e.symm))
 replace RB := hid ((hbB.block _ (by omega)).trans RB.out)
 replace HP := hid (HP.out.belowB hbB (by omega) (fun hn g o e => by have := HAB.out hn g o e; omega))
 replace HU := hid (HU.out.belowB hbB (by omega))
 replace HZW := hid (Nat.le_trans HZW.out hbB.size)
 have KOG := hid KO7
 refine hK.out _ _ (.inl rfl) (fun hHeld => ?_)
 clear hK hHeld K
 (try simp only [Act.put, sq])
 clear hown7 hgr7 hor7 hlt7 hbB hrow hkn KO7 hob
 refine rdU 6 rfl fun K hK => ?_
 go_simp
 refine hK.out _ _ (.inl rfl) (fun hHeld => ?_)
 clear hK hHeld K
 (try simp only [Act.put, sq])
 refine rdU 7 rfl fun K hK => ?_
 have c3 := OB.out.cell 3
 have f3 : w7_1.frozen? ⟨oa, 3, none⟩ = false := OB.out.frozen 3
 simp at c3
 go_simp
 have hu8 : Upd w7_1 (w7_1.setCell ⟨oa, 3, none⟩ (Value.slice (some ⟨g7_1, 0, none⟩) 1 cap7_1)) (oa) := (Upd.refl _ _).set (.inl rfl) _
 have OB8 := OB.out.set 3 (Value.slice (some ⟨g7_1, 0, none⟩) 1 cap7_1)
 obtain ⟨wz_1, hwz⟩ : ∃ wz_1, (w7_1.setCell ⟨oa, 3, none⟩ (Value.slice (some ⟨g7_1, 0, none⟩) 1 cap7_1)) = wz_1 := ⟨_, rfl⟩
 rw [hwz] at hu8 OB8
 rw [hwz]
 clear hwz
 simp at OB8
 replace OB := hid OB8
 replace KOF := hid (KOG.out.self hu8)
 replace RB := bg RB hu8
 have hbo : Below w.heap.size w7_1 wz_1 := hu8.own (by omega) (by have := HU.out.size; omega)
 replace HP := hid (HP.out.belowB hbo (by omega) (fun hn g o e => HAB.out hn g o e))
 replace HU := hid (HU.out.belowB hbo (Nat.le_refl _))
 replace HZW := hid (Nat.le_trans HZW.out hu8.size)
 refine hK.out _ _ (.inl rfl) (fun hHeld => ?_)
 clear hK hHeld K
 (try simp only [Act.put, sq])
 clear hu8 OB8 hbo KOG BXB HBA c3 f3
 refine wpAnyU_done (by kernel_rfl) ?_ _
 have hle5 := HP.out.kle
 go_wp2_with fail
 refine (must_any [41] _ b ts A c (k1) fn lp HP.out).mono ?_
 rintro e w6 (⟨hi, hk, rfl, hx, hu⟩ | ⟨hi, rfl, hu⟩)
 rotate_left
 ·exact ⟨rfl, .inr ⟨HR.out.trans (Pars.must_no hi), rfl, HU.out.trans hu⟩⟩
 replace HR := hid (HR.out.trans (Pars.must_some hi))
 replace RB := bg RB hu
 replace OB := bg OB hu
 replace KOF := hid (KOF.out.upd hu (by omega))
 replace HP := hid (HP.out.upd hx hu (by omega))
 replace HU := hid (HU.out.trans hu)
 replace HZW := hid (Nat.le_trans HZW.out hu.size)
 clear hi hx hu
 have hle7 := HP.out.kle
 go_upto_region 7 with fail
 refine wp_region_until 5 (fun w' => Box w' (oa) 24 #[.int .i64 24, .int .i64 0, .string (byt nm), Value.slice (some ⟨g7_1, 0, none⟩) 1 cap7_1]) (by kernel_rfl) OB.out.drew (fun hHeld => ?_)
 obtain ⟨wd_2, hwd⟩ : ∃ wd_2, w6.drew = wd_2 := ⟨_, rfl⟩
 have hb : Below w6.heap.size w6 wd_2 := hwd ▸ (Below.refl _ w6).drew
 (try rw [hwd] at hHeld)
 (try rw [hwd])
 clear hwd hHeld
 replace RB := bl RB hb
 replace OB := bl OB hb
 replace KOF := hid (KOF.out.below hb)
 replace HP := hid (HP.out.below hb)
 replace HU := hid (HU.out.step hb)
 replace HZW := hid (Nat.le_trans HZW.out hb.size)
 clear hb
 refine tU (i := 0) (v := ?_) rfl ?_ (.inr OB.out) ?_
 rotate_left
 ·intro w hSw
  go_simp
  try (with_reducible rfl)
 (try simp only [Act.put, sq])
 refine tU (i := 2) (v := ?_) rfl ?_ (.inr OB.out) ?_
 rotate_left
 ·intro w hSw
  go_simp
  try (with_reducible rfl)
 (try simp only [Act.put, sq])
 refine tV (i := 1) (v := Value.slice (some ⟨g7_1, 0, none⟩) 1 cap7_1) rfl ?_ OB.out ?_
 ·intro w hSw
  have c3 := hSw.cell 3
  simp at c3
  go_simp
 (try simp only [Act.put, sq])
 refine rdU 3 rfl fun K hK => ?_
 go_simp
 refine (h.body false HP.out (by omega)).mono ?_
 rintro e wc_2 (⟨x2, k2, cs2, hr, hk1, hk2, rfl, hn, hx, hu⟩ | ⟨hr, rfl, hu⟩)
 rotate_left
 ·exact ⟨rfl, .inr ⟨HR.out.trans (Pars.and_no hr), rfl, HU.out.trans hu⟩⟩
 have hlt2 := got_lt hr rfl
 replace HR := hid (HR.out.trans (Pars.and_some hr))
 have hrl := KOF.out.row
 have HN2 : Hid (NodeAt wc_2 (fun g => W0.heap.size ≤ g ∧ g ≠ oa ∧ (Value.slice (some ⟨g7_1, 0, none⟩) 1 cap7_1).ownBlock ≠ some g) x2 cs2) := hid (hn.weak (fun g hg => ⟨by have := HZW.out; omega, by have := OB.out.lt; omega, fun e => by obtain ⟨_, ho, _⟩ := hrl; have := (ho.lt g e).2; omega⟩))
 clear hrl
 replace RB := bg RB hu
 replace OB := bg OB hu
 replace KOF := hid (KOF.out.upd hu (by omega))
 replace HP := hid (HP.out.upd hx hu (by omega))
 replace HU := hid (HU.out.trans hu)
 replace HZW := hid (Nat.le_trans HZW.out hu.size)
 clear hr hn hx hu
 obtain ⟨v2, hlit, hvo⟩ := NodeAt.lit HN2.out
 rw [hlit] at HN2 ⊢
 have HVO2 := hid hvo
 clear hlit hvo
 go_wp2_with fail
 refine hK.out _ _ (.inr OB.out) (fun hHeld => ?_)
 clear hK hHeld K
 (try simp only [Act.put, sq])
 refine rdU 4 rfl fun K hK => ?_
 go_simp
 have bxB := Box.new wc_2 24 #[.int .i64 x2.kind, .int .i64 x2.num, .string (byt x2.text), v2]
 have hb : Below wc_2.heap.size wc_2 (wc_2.alloc (.cells #[.int .i64 x2.kind, .int .i64 x2.num, .string (byt x2.text), v2] 24)) := below1 wc_2 _
 obtain ⟨wb_2, hwb⟩ : ∃ wb_2, (wc_2.alloc (.cells #[.int .i64 x2.kind, .int .i64 x2.num, .string (byt x2.text), v2] 24)) = wb_2 := ⟨_, rfl⟩
 rw [hwb] at bxB hb
 rw [hwb]
 clear hwb
 have BXB := hid bxB
 have HBA : Hid (wc_2.heap.size < wb_2.heap.size) := hid bxB.lt
 replace RB := bl RB hb
 replace OB := bl OB hb
 replace KOF := hid (KOF.out.below hb)
 replace HP := hid (HP.out.below hb)
 replace HU := hid (HU.out.step hb)
 replace HZW := hid (Nat.le_trans HZW.out hb.size)
 replace HN2 := hid (HN2.out.below hb)
 refine hK.out _ _ (.inr OB.out) (fun hHeld => ?_)
 clear hK hHeld K
 (try simp only [Act.put, sq])
 clear hb bxB
 refine rdU 5 rfl fun K hK => ?_
 obtain ⟨css, hrow, hkn⟩ := KOF.out.row
 have hll : 1 ≤ 1000 := by simp
 refine step_append_lies _ rfl (.tmp 23) (.tmp 26) 22 rfl W0.heap.size 24 i0 _ 4 56 Tryz.underlying22 hi0 hi1 hi2 hi3 rfl (by decide) (Value.slice (some ⟨g7_1, 0, none⟩) 1 cap7_1) 1 (flatA css) (by simp [Act.eval, Act.put]) hrow ⟨wc_2.heap.size, 0, none⟩ 1 1 [.int .i64 x2.kind, .int .i64 x2.num, .string (byt x2.text), v2] (by simp [Act.eval, Act.put]) rfl (by exact World.news_of_block BXB.out) (by have hv := HVO2.out; intro u hu; simp only [List.mem_cons, List.not_mem_nil, or_false] at hu; rcases hu with rfl | rfl | rfl | rfl; rfl; rfl; rfl; exact hv) (by omega) (by unfold maxLen; omega) (by omega) HZW.out wb_2.heap.size rfl ?_
 intro g7_2 cap7_2 w7_2 hown7 hgr7 hor7 hlt7
 have hbB : Below W0.heap.size wb_2 w7_2 := below_grown hgr7 HZW.out (fun q hq => (hrow.lt q hq).1)
 have hob := OB.out.lt
 have KO7 : KO w7_2 W0.heap.size (oa) ([] ++ [x1] ++ [x2]) (Value.slice (some ⟨g7_2, 0, none⟩) 2 cap7_2) := KOF.out.snoc css hrow hkn HN2.out hown7 hgr7 hor7 hob
 replace OB := hid (Box.grown OB.out hgr7 (fun e => KOF.out.ne e.symm))
 replace RB := hid ((hbB.block _ (by omega)).trans RB.out)
 replace HP := hid (HP.out.belowB hbB (by omega) (fun hn g o e => by have := HAB.out hn g o e; omega))
 replace HU := hid (HU.out.belowB hbB (by omega))
 replace HZW := hid (Nat.le_trans HZW.out hbB.size)
 have KOG := hid KO7
 refine hK.out _ _ (.inl rfl) (fun hHeld => ?_)
 clear hK hHeld K
 (try simp only [Act.put, sq])
 clear hown7 hgr7 hor7 hlt7 hbB hrow hkn KO7 hob
 refine rdU 6 rfl fun K hK => ?_
 go_simp
 refine hK.out _ _ (.inl rfl) (fun hHeld => ?_)
 clear hK hHeld K
 (try simp only [Act.put, sq])
 refine rdU 7 rfl fun K hK => ?_
 have c3 := OB.out.cell 3
 have f3 : w7_2.frozen? ⟨oa, 3, none⟩ = false := OB.out.frozen 3
 simp at c3
 go_simp
 have hu8 : Upd w7_2 (w7_2.setCell ⟨oa, 3, none⟩ (Value.slice (some ⟨g7_2, 0, none⟩) 2 cap7_2)) (oa) := (Upd.refl _ _).set (.inl rfl) _
 have OB8 := OB.out.set 3 (Value.slice (some ⟨g7_2, 0, none⟩) 2 cap7_2)
 obtain ⟨wz_2, hwz⟩ : ∃ wz_2, (w7_2.setCell ⟨oa, 3, none⟩ (Value.slice (some ⟨g7_2, 0, none⟩) 2 cap7_2)) = wz_2 := ⟨_, rfl⟩
 rw [hwz] at hu8 OB8
 rw [hwz]
 clear hwz
 simp at OB8
 replace OB := hid OB8
 replace KOF := hid (KOG.out.self hu8)
 replace RB := bg RB hu8
 have hbo : Below w.heap.size w7_2 wz_2 := hu8.own (by omega) (by have := HU.out.size; omega)
 replace HP := hid (HP.out.belowB hbo (by omega) (fun hn g o e => HAB.out hn g o e))
 replace HU := hid (HU.out.belowB hbo (Nat.le_refl _))
 replace HZW := hid (Nat.le_trans HZW.out hu8.size)
 refine hK.out _ _ (.inl rfl) (fun hHeld => ?_)
 clear hK hHeld K
 (try simp only [Act.put, sq])
 clear hu8 OB8 hbo KOG BXB HBA c3 f3
 refine wpAnyU_done (by kernel_rfl) ?_ _
 have hle6 := HP.out.kle
 have ob := OB.out
 go_wp2_with (first | (refine wpList_load_row rfl 24 (.tmp 3) rfl (oa) rfl _ (nc 24 0 nm (Value.slice (some ⟨g7_2, 0, none⟩) 2 cap7_2)) (0, 0) _ ob Tryz.underlying24 rfl info_nod ?_) | (refine wpList_store_box rfl 24 (.tmp 2) (.tmp 29) rfl w.heap.size (nc 24 0 nm (Value.slice (some ⟨g7_2, 0, none⟩) 2 cap7_2)) rfl rfl 24 _ RB.out info_nod rfl (nc_own _ _ _ KOF.out) ?_; intro wy hxz huz hzz; have HZZ := hid hzz; clear hzz))
 refine bodyPost_ret (results_box rfl _ _ w.heap.size 24 _ _ rfl hxz Tryz.underlying24 rfl info_nod) rfl ?_
 exact .inl ⟨.mk 24 0 nm ([] ++ [x1] ++ [x2]), k2, _, HR.out, by omega, HP.out.kle, rfl, ((KOF.out.node 24 0 nm).upd huz (fun g hg => by have := hg.1; omega)).weak (fun g hg => by have := hg.1; omega), Box.grown HP.out.box huz (by intro h; injection h with h; omega), Upd.fresh HU.out huz (Nat.le_refl _)⟩
def EndedOut (w : World) (b : Nat) (ts : List KT) (A : Option Addr) (c k : Nat) (fn lp : Bool) (cs : Array Value) (e : Ending) (w' : World) : Prop :=
 (Pars.is [59] (left ts k) = some (left ts (k + 1)) ∧ k < ts.length ∧ e = .returned (.agg cs) ∧ Box w' b 76 (pc (.slice A ts.length c) (k + 1) fn lp) ∧ Upd w w' b) ∨
 (Pars.is [59] (left ts k) = none ∧ e = .panicked slipped ∧ Upd w w' b)
set_option maxRecDepth 100000 in
set_option maxHeartbeats 4000000 in
theorem ended_any (w : World) (b : Nat) (ts : List KT) (A : Option Addr) (c k : Nat) (fn lp : Bool) (cs : Array Value) (hP : PSt w b ts A c k fn lp) (hs : cs.size = 4) (ho : cs.all (·.oneCell') = true) :
  Calls Tryz.prog 51 #[.pointer (some ⟨b, 0, none⟩), .agg cs] w (EndedOut w b ts A c k fn lp cs) := by
 have hbl := hP.box.lt
 have hle := hP.kle
 have HCS : Hid ((Tryz.prog.info? 24).map (·.size) = some cs.size) := hid (by rw [hs]; exact info_nod)
 have H4 : Hid ((4 : Nat) = cs.size) := hid hs.symm
 have HO := hid ho
 clear hs ho
 go_enter Tryz.func51, Tryz.ntmps51
 go_upto_region 1 with fail
 refine gen_world (F := fun W => Box W w.heap.size 24 cs ∧ Box W (w.heap.size + 1) 24 #[.int .i64 0, .int .i64 0, .string ⟨#[]⟩, .slice none 0 0] ∧ Below w.heap.size w W) ⟨(Box.new w _ _).alloc _, by have := Box.new (w.alloc (.cells cs 24)) 24 #[.int .i64 0, .int .i64 0, .string ⟨#[]⟩, .slice none 0 0]; simpa using this, (below1 w _).alloc (by simp) _⟩ ?_
 rintro W0 ⟨e0, r0, hU⟩
 have EB := hid e0
 have RB := hid r0
 have HP := hid (hP.below hU)
 have HU : Hid (Upd w W0 b) := hid (Upd.below hU b)
 clear e0 r0 hU hP
 go_wp2_with fail
 refine (must_any [59] _ b ts A c k fn lp HP.out).mono ?_
 rintro e w1 (⟨hi, hk, rfl, hx, hu⟩ | ⟨hi, rfl, hu⟩)
 rotate_left
 ·exact ⟨rfl, .inr ⟨hi, rfl, HU.out.trans hu⟩⟩
 have HI := hid hi
 replace EB := bg EB hu
 replace RB := bg RB hu
 replace HU := hid (HU.out.trans hu)
 have HX := hid hx
 have eb := EB.out
 clear hi hx hu
 go_wp2_with (first | (refine wpList_load_row rfl 24 (.tmp 3) rfl w.heap.size rfl _ cs (0, 0) _ eb Tryz.underlying24 rfl HCS.out ?_) | (refine wpList_store_box rfl 24 (.tmp 4) (.tmp 7) rfl (w.heap.size + 1) cs rfl rfl 24 _ RB.out HCS.out H4.out HO.out ?_; intro wz hxz huz hzz; have HZZ := hid hzz; clear hzz))
 refine bodyPost_ret (results_box rfl _ _ (w.heap.size + 1) 24 _ _ rfl hxz Tryz.underlying24 rfl HCS.out) rfl ?_
 exact .inl ⟨HI.out, hk, rfl, Box.grown HX.out huz (by intro h; injection h with h; omega), Upd.fresh HU.out huz (by omega)⟩
end Go.Proofs.YtonjdlialejedaaGreatDoor
