/-
  Texts that the law leans on: PmT, PwM. Conditions: as each says.
-/
import Derived.Test.YtonjdlialejedaaGreatDoorXAr
import Derived.Test.YtonjdlialejedaaGreatDoorXAf
import Derived.Test.YtonjdlialejedaaGreatDoorXAa
set_option linter.unusedSimpArgs false
set_option linter.unusedVariables false
namespace Go.Proofs.YtonjdlialejedaaGreatDoor
open Go.Lib (hid)
open Go.RowKit
theorem ranks_some : ∀ r, r < 6 → ∀ s ∈ Pars.ranks.getD r [], s ≠ [] := by decide
theorem ranks_len : ∀ r, r < 6 → (Pars.ranks.getD r []).length ≤ 4 := by decide
theorem any_append {a b : List Pars.Bs} {l : List Lexy.Tk} (h : Pars.anyOf a l = none) : Pars.anyOf (a ++ b) l = Pars.anyOf b l := by
 induction a with
 | nil => rfl
 | cons s a ih =>
  simp only [List.cons_append, Pars.anyOf] at h ⊢
  cases hi : Pars.is s l with
  | some r => rw [hi] at h; cases h
  | none => rw [hi] at h; simp only at h ⊢; exact ih h
theorem any_hit {ss : List Pars.Bs} {j : Nat} {s : Pars.Bs} {l r : List Lexy.Tk} (hj : ss[j]? = some s) (h : Pars.anyOf (ss.take j) l = none) (hi : Pars.is s l = some r) : Pars.anyOf ss l = some (s, r) := by
 have hlt := (List.getElem?_eq_some_iff.1 hj).1
 have e : ss = ss.take j ++ s :: ss.drop (j + 1) := by
  rw [← (List.getElem?_eq_some_iff.1 hj).2, ← List.drop_eq_getElem_cons hlt, List.take_append_drop]
 rw [e, any_append h]
 simp only [Pars.anyOf, hi]
theorem any_miss {a : List Pars.Bs} {s : Pars.Bs} {l : List Lexy.Tk} (h : Pars.anyOf a l = none) (hi : Pars.is s l = none) : Pars.anyOf (a ++ [s]) l = none := by
 rw [any_append h]
 simp only [Pars.anyOf, hi]
theorem signs_yes {ss : List Pars.Bs} {s : Pars.Bs} {l r : List Lexy.Tk} {f : Pars.Bs → List Lexy.Tk → Pars.R} {g : Pars.R} (h : Pars.anyOf ss l = some (s, r)) : Pars.signs ss l f g = f s r := by simp only [Pars.signs, h]
theorem signs_no {ss : List Pars.Bs} {l : List Lexy.Tk} {f : Pars.Bs → List Lexy.Tk → Pars.R} {g : Pars.R} (h : Pars.anyOf ss l = none) : Pars.signs ss l f g = g := by simp only [Pars.signs, h]
set_option maxRecDepth 100000 in
set_option maxHeartbeats 4000000 in
theorem bin_step {n : Nat} (hall : ∀ m, m ≤ n → All m) : ∀ (r : Nat), r ≤ 6 → ∀ {w : World} {b : Nat} {ts : List KT} {A : Option Addr} {c k : Nat} {fn lp : Bool}, PSt w b ts A c k fn lp → 20 * (ts.length - k) + (10 - r) < n + 1 → Calls Tryz.prog 92 #[.pointer (some ⟨b, 0, none⟩), .int .i64 (r : Int)] w (Got w b ts A c k fn lp (Pars.run (n + 1) (.binary r) fn lp (left ts k))) := by
 have h := hall n (Nat.le_refl _)
 intro r hr6 w b ts A c k fn lp hP hm
 have HR : Hid (Pars.run (n + 1) (.binary r) fn lp (left ts k) = _) := hid (by rw [Pars.run])
 have hbl := hP.box.lt
 have hle := hP.kle
 go_enter Tryz.func92, Tryz.ntmps92
 go_upto_region 1 with fail
 refine gen_world (F := fun W => Box W w.heap.size 24 #[.int .i64 0, .int .i64 0, .string ⟨#[]⟩, .slice none 0 0] ∧ Below w.heap.size w W) ⟨Box.new w _ _, below1 w _⟩ ?_
 rintro W0 ⟨r0, hU⟩
 obtain ⟨i0, hi0, hi1, hi2, hi3⟩ := info_parts parts_nod
 have hlen := hP.len
 obtain ⟨rb, hpbe⟩ : ∃ q, w.heap.size = q := ⟨_, rfl⟩
 obtain ⟨B, hBe⟩ : ∃ q, W0.heap.size = q := ⟨_, rfl⟩
 have hrb : rb ≠ b := by omega
 have hrB : rb < B := by have := r0.lt; omega
 have hbB : b < B := by omega
 have hwB : w.heap.size ≤ B := by omega
 have HPB := hid hpbe
 have HBE := hid hBe
 rw [hpbe] at r0 ⊢
 clear hpbe
 have RB := hid r0
 have HP := hid (hP.below hU)
 have HA : Hid (0 < ts.length → ∀ g o, A = some ⟨g, o, none⟩ → g < B) := hid (hBe ▸ HP.out.old)
 have HW : Hid (Upd w W0 b) := hid (Upd.below hU b)
 have HU : Hid (UpdB B W0 W0 b) := hid (UpdB.refl _ _ _)
 have hBw : B ≤ W0.heap.size := Nat.le_of_eq hBe.symm
 clear r0 hU hP hBe
 go_wp2_with fail
 refine (ranks_any _).mono ?_
 rintro e w1 ⟨vs, rfl, hb, -⟩
 replace RB := bl RB hb
 replace HP := hid (HP.out.below hb)
 replace HU := hid (HU.out.trans (UpdB.of_below hb hBw))
 replace hBw := Nat.le_trans hBw hb.size
 clear hb
 by_cases y6 : r = 6
 ·subst y6
  replace HR := hid (HR.out.trans (if_pos rfl))
  go_wp2_with fail
  refine (h.un HP.out (by omega)).mono ?_
  rintro e w2 (⟨x1, k1, cs1, hr, hk1, hk2, rfl, hn, hx, hu⟩ | ⟨hr, rfl, hu⟩)
  rotate_left
  ·exact ⟨rfl, .inr ⟨HR.out.trans (hr), rfl, HW.out.updB (HU.out.trans (UpdB.of_upd hu hBw)) hwB⟩⟩
  replace HR := hid (HR.out.trans hr)
  have HN1 : Hid (NodeAt w2 (fun g => B ≤ g) x1 cs1) := hid (hn.weak (fun g hg => by omega))
  have hub := UpdB.of_upd hu hBw
  replace RB := bg RB hu
  replace HP := hid (HP.out.upd hx hu (by omega))
  replace HU := hid (HU.out.trans hub)
  replace hBw := Nat.le_trans hBw hu.size
  clear hub
  clear hr hn hx hu
  obtain ⟨v1, hlit, hvo⟩ := NodeAt.lit HN1.out
  rw [hlit] at HN1 ⊢
  have HVO1 := hid hvo
  clear hlit hvo
  have hleX := HP.out.kle
  go_wp2_with (refine wpList_store_box rfl 24 (.tmp 4) (.tmp 14) rfl rb #[.int .i64 x1.kind, .int .i64 x1.num, .string (byt x1.text), v1] rfl rfl 24 _ RB.out info_nod rfl (nc_one _ _ _ HVO1.out) ?_; intro wz hxz huz hzz; have HZZ := hid hzz; clear hzz)
  refine bodyPost_ret (results_box rfl _ _ rb 24 _ _ rfl hxz Tryz.underlying24 rfl info_nod) rfl ?_
  exact .inl ⟨x1, k1, _, HR.out, by omega, HP.out.kle, rfl, (HN1.out.upd huz (fun g hg => by have : B ≤ g := hg; omega)).weak (fun g hg => by have : B ≤ g := hg; omega), Box.grown HP.out.box huz (by intro h; injection h with h; omega), Upd.fresh (HW.out.updB HU.out hwB) huz (by have := HPB.out; omega)⟩
 replace HR := hid (HR.out.trans (if_neg y6))
 have d1 : ((r : Int) == 6) = false := by rw [beq_eq_false_iff_ne]; omega
 have d2 : ¬ (r : Int) = 6 := by omega
 have hr5 : r < 6 := by omega
 have wk : IntKind.i64.wrap ((r : Int) + 1) = (r : Int) + 1 := by rw [IntKind.wrap_i64]; omega
 have hbin : ∀ (m : Nat), m ≤ n → ∀ {w : World} {b : Nat} {ts : List KT} {A : Option Addr} {c k : Nat} {fn lp : Bool}, PSt w b ts A c k fn lp → 20 * (ts.length - k) + (10 - (r + 1)) < m → Calls Tryz.prog 92 #[.pointer (some ⟨b, 0, none⟩), .int .i64 ((r : Int) + 1)] w (Got w b ts A c k fn lp (Pars.run m (.binary (r + 1)) fn lp (left ts k))) := fun m hm => (hall m hm).bin (r + 1) (by omega)
 have HBIN := hid hbin
 clear hbin
 go_wp2_with fail
 refine (HBIN.out n (Nat.le_refl n) HP.out (by omega)).mono ?_
 rintro e w2 (⟨x1, k1, cs1, hr, hk1, hk2, rfl, hn, hx, hu⟩ | ⟨hr, rfl, hu⟩)
 rotate_left
 ·exact ⟨rfl, .inr ⟨HR.out.trans (Pars.and_no hr), rfl, HW.out.updB (HU.out.trans (UpdB.of_upd hu hBw)) hwB⟩⟩
 have hlt1 := got_lt hr rfl
 replace HR := hid (HR.out.trans (Pars.and_some hr))
 have HN1 : Hid (NodeAt w2 (fun g => B ≤ g) x1 cs1) := hid (hn.weak (fun g hg => by omega))
 have hub := UpdB.of_upd hu hBw
 replace RB := bg RB hu
 replace HP := hid (HP.out.upd hx hu (by omega))
 replace HU := hid (HU.out.trans hub)
 replace hBw := Nat.le_trans hBw hu.size
 clear hub
 clear hr hn hx hu
 obtain ⟨v1, hlit, hvo⟩ := NodeAt.lit HN1.out
 rw [hlit] at HN1 ⊢
 have HVO1 := hid hvo
 clear hlit hvo
 have hleX := HP.out.kle
 go_wp2_with (refine wpList_store_box rfl 24 (.tmp 5) (.tmp 18) rfl w2.heap.size #[.int .i64 x1.kind, .int .i64 x1.num, .string (byt x1.text), v1] rfl rfl 24 _ (Box.new w2 _ _) info_nod rfl (nc_one _ _ _ HVO1.out) ?_; intro w3 hx hv hz; have HZO := hid hz; clear hz)
 have hb : Below w2.heap.size w2 w3 := ((Below.refl _ w2).alloc (Nat.le_refl _) _).trans (hv.own (Nat.le_refl _) (by simp))
 have EB := hid hx
 have hoB : B ≤ w2.heap.size := hBw
 have HNE : Hid (NodeAt w3 (fun g => B ≤ g ∧ g ≠ w2.heap.size) x1 #[.int .i64 x1.kind, .int .i64 x1.num, .string (byt x1.text), v1]) := hid (NodeAt.keep (fun g hs hg => ⟨hs, by omega⟩) hb.size (fun g _ hg => hb.block g hg) HN1.out)
 replace RB := bl RB hb
 replace HP := hid (HP.out.below hb)
 replace HU := hid (HU.out.trans (UpdB.of_below hb hBw))
 replace hBw := Nat.le_trans hBw hb.size
 clear hx hv hb HZO HN1
 obtain ⟨eb, heb⟩ : ∃ eb, w2.heap.size = eb := ⟨_, rfl⟩
 rw [heb] at EB HNE hoB ⊢
 clear heb
 (try simp only [Act.put])
 obtain ⟨ss, hss⟩ : ∃ q, Pars.ranks.getD r [] = q := ⟨_, rfl⟩
 have HSS := hid hss
 have HSN : Hid (∀ s ∈ ss, s ≠ []) := hid (by rw [← hss]; exact ranks_some r hr5)
 have hsl : ss.length ≤ 4 := by rw [← hss]; exact ranks_len r hr5
 go_loopg [6] (ts.length) (fun gg s6 wr => ∃ (k' m : Nat) (xe : Pars.Node) (cse : Array Value), ts.length - k' ≤ gg ∧ k < k' ∧ k' ≤ ts.length ∧ m ≤ n ∧ 20 * (ts.length - k') + 15 < m ∧ B ≤ wr.heap.size ∧ Hid (Box wr rb 24 #[.int .i64 0, .int .i64 0, .string ⟨#[]⟩, .slice none 0 0]) ∧ Hid (Box wr eb 24 cse) ∧ Hid (NodeAt wr (fun g => B ≤ g ∧ g ≠ eb) xe cse) ∧ Hid (PSt wr b ts A c k' fn lp) ∧ Hid (UpdB B W0 wr b) ∧ Hid (Pars.run (n + 1) (.binary r) fn lp (left ts k) = Pars.run m (.binGo r xe) fn lp (left ts k')))
 case atStart => exact ⟨k1, n, x1, _, by omega, by omega, hleX, Nat.le_refl _, by omega, hBw, RB, EB, HNE, HP, HU, HR⟩
 case round =>
  clear RB EB HNE HP HU HR hBw
  obtain ⟨k', m, xe, cse, hg2, hkk, hkl, hmn, hmm, hBw, RB, EB, HNE, HP, HU, HRR⟩ := hrel
  obtain ⟨m', rfl⟩ : ∃ m', m = m' + 1 := ⟨m - 1, by omega⟩
  have HR : Hid (Pars.run (n + 1) (.binary r) fn lp (left ts k) = _) := hid (HRR.out.trans (show _ = _ by rw [Pars.run, HSS.out]))
  clear HRR
  go_wp2_with fail
  refine (ranks_any _).mono ?_
  rintro e w4 ⟨vs, rfl, hb, hix⟩
  obtain ⟨gq, hgq, hgl, hix2, hrg⟩ := hix r hr5
  have hgb : b < gq := by omega
  replace HNE := hid (HNE.out.below hb)
  replace RB := bl RB hb
  replace EB := bl EB hb
  replace HP := hid (HP.out.below hb)
  replace HU := hid (HU.out.trans (UpdB.of_below hb hBw))
  replace hBw := Nat.le_trans hBw hb.size
  clear hb
  rw [HSS.out] at hix2 hrg
  have GR := hid hrg
  clear hix hrg hgq
  go_wp2
  clear hix2
  go_loopg [6, 23] (ss.length) (fun gg s6 s23 wi => ∃ (j : Nat) (sg : List UInt8), j ≤ ss.length ∧ ss.length - j ≤ gg ∧ s23 = .int .i64 (j : Int) ∧ s6 = .string (byt sg) ∧ B ≤ wi.heap.size ∧ Hid (wi.rangeAt gq 0 (ss.map fun s => .string (byt s))) ∧ gq < wi.heap.size ∧ Hid (Box wi rb 24 #[.int .i64 0, .int .i64 0, .string ⟨#[]⟩, .slice none 0 0]) ∧ Hid (Box wi eb 24 cse) ∧ Hid (NodeAt wi (fun g => B ≤ g ∧ g ≠ eb) xe cse) ∧ Hid (UpdB B W0 wi b) ∧ ((sg = [] ∧ Hid (Pars.anyOf (ss.take j) (left ts k') = none) ∧ Hid (PSt wi b ts A c k' fn lp)) ∨ (sg ≠ [] ∧ k' < ts.length ∧ Hid (Pars.anyOf ss (left ts k') = some (sg, left ts (k' + 1))) ∧ Hid (PSt wi b ts A c (k' + 1) fn lp))))
  case atStart => exact ⟨0, [], Nat.zero_le _, by omega, rfl, rfl, hBw, GR, hgl, RB, EB, HNE, HU, .inl ⟨rfl, hid rfl, HP⟩⟩
  case round =>
   obtain ⟨wi, rfl⟩ : ∃ wi : World, wi = wr := ⟨_, rfl⟩
   clear RB EB HNE HP HU hBw GR hgl
   obtain ⟨j, sg, hj, hgj, rfl, rfl, hBw, GR, hgl, RB, EB, HNE, HU, HC⟩ := hrel
   by_cases hlt : j < ss.length
   ·have hltz : (j : Int) < (ss.length : Int) := by omega
    have hltd : decide ((j : Int) < (ss.length : Int)) = true := decide_eq_true hltz
    have wj : IntKind.i64.wrap ((j : Int) + 1) = (j : Int) + 1 := by rw [IntKind.wrap_i64]; omega
    obtain ⟨sj, hsj⟩ : ∃ q, ss[j]? = some q := ⟨_, List.getElem?_eq_getElem hlt⟩
    have hcj : wi.cell? ⟨gq, 0 + j, none⟩ = some (.string (byt sj)) := GR.out j _ (by simp [hsj])
    rw [Nat.zero_add] at hcj
    have HSJ := hid hsj
    have hsjn : sj ≠ [] := HSN.out sj (List.mem_of_getElem? hsj)
    have htk : Hid (ss.take (j + 1) = ss.take j ++ [sj]) := hid (by rw [List.take_add_one, hsj]; rfl)
    clear hsj
    rcases HC with HC | HC
    ·obtain ⟨rfl, HNO, HP⟩ := HC
     have hkle := HP.out.kle
     have e0 : (byt []).toList.isEmpty = true := by rw [byt_list]; rfl
     go_wp2_with fail
     refine (is_any sj _ b ts A c k' fn lp HP.out).mono ?_
     rintro e w5 (⟨hi, hk, rfl, hx, hu⟩ | ⟨hi, rfl, hx, hu⟩)
     ·have GR2 : Hid (w5.rangeAt gq 0 (ss.map fun s => .string (byt s))) := hid (fun i u hi => by rw [World.cell?_of_block (hu.block gq hgl (by intro e; injection e with e; omega))]; exact GR.out i u hi)
      have hgl2 := Nat.lt_of_lt_of_le hgl hu.size
      have HI := hid hi
      have hub := UpdB.of_upd hu hBw
      replace HNE := hid (HNE.out.upd hu (fun g hg => by first | omega | (simp only at hg; omega)))
      replace RB := bg RB hu
      replace EB := bg EB hu
      replace HP := hid (HP.out.upd hx hu (by omega))
      replace HU := hid (HU.out.trans hub)
      replace hBw := Nat.le_trans hBw hu.size
      clear hub
      clear hi hx hu GR hgl
      have GR := GR2
      have hgl := hgl2
      go_wp2
      go_roundg (ss.length - (j + 1))
      case measure => omega
      case rel => exact ⟨j + 1, sj, by omega, by omega, rfl, rfl, hBw, GR, hgl, RB, EB, HNE, HU, .inr ⟨hsjn, hk, hid (any_hit HSJ.out HNO.out HI.out), HP⟩⟩
     have GR2 : Hid (w5.rangeAt gq 0 (ss.map fun s => .string (byt s))) := hid (fun i u hi => by rw [World.cell?_of_block (hu.block gq hgl (by intro e; injection e with e; omega))]; exact GR.out i u hi)
     have hgl2 := Nat.lt_of_lt_of_le hgl hu.size
     have HI := hid hi
     have hub := UpdB.of_upd hu hBw
     replace HNE := hid (HNE.out.upd hu (fun g hg => by first | omega | (simp only at hg; omega)))
     replace RB := bg RB hu
     replace EB := bg EB hu
     replace HP := hid (HP.out.upd hx hu (by omega))
     replace HU := hid (HU.out.trans hub)
     replace hBw := Nat.le_trans hBw hu.size
     clear hub
     clear hi hx hu GR hgl
     have GR := GR2
     have hgl := hgl2
     go_wp2
     go_roundg (ss.length - (j + 1))
     case measure => omega
     case rel => exact ⟨j + 1, [], by omega, by omega, rfl, rfl, hBw, GR, hgl, RB, EB, HNE, HU, .inl ⟨rfl, hid (by rw [htk.out]; exact any_miss HNO.out HI.out), HP⟩⟩
    ·obtain ⟨hsn, hkl2, HSO, HP⟩ := HC
     obtain ⟨TX, hTX⟩ : ∃ q, byt sg = q := ⟨_, rfl⟩
     have hne : TX ≠ ⟨#[]⟩ := fun e => hsn (byt_inj (hTX.trans (e.trans (show (⟨#[]⟩ : ByteArray) = byt [] from rfl))))
     have HTX := hid hTX
     rw [hTX]
     clear hTX
     obtain ⟨q1, q2, q3⟩ := same_no hne
     have q4 := of_decide_eq_false q2
     have q5 : (TX.toList == []) = false := by
      have e : (⟨#[]⟩ : ByteArray).toList = [] := by simp [ByteArray.toList_eq]
      rw [e] at q1
      exact q1
     have q6 : TX.toList.isEmpty = false := by
      rw [← HTX.out, byt_list]
      cases sg with
      | nil => exact absurd rfl hsn
      | cons a l => rfl
     go_wp2
     go_roundg (ss.length - (j + 1))
     case measure => omega
     case rel => exact ⟨j + 1, sg, by omega, by omega, rfl, by rw [HTX.out], hBw, GR, hgl, RB, EB, HNE, HU, .inr ⟨hsn, hkl2, HSO, HP⟩⟩
   have hltz : ¬ (j : Int) < (ss.length : Int) := by omega
   have hltd : decide ((j : Int) < (ss.length : Int)) = false := decide_eq_false hltz
   rcases HC with HC | HC
   ·obtain ⟨rfl, HNO, HP⟩ := HC
    have HNA : Hid (Pars.anyOf ss (left ts k') = none) := hid (by have := HNO.out; rwa [List.take_of_length_le (by omega)] at this)
    replace HR := hid (HR.out.trans (signs_no HNA.out))
    obtain ⟨ve, hlit, hvo⟩ := NodeAt.lit HNE.out
    rw [hlit] at HNE EB
    have HVE := hid hvo
    clear hlit hvo
    have hle9 := HP.out.kle
    have ob := EB.out
    have e0 : (byt []).toList.isEmpty = true := by rw [byt_list]; rfl
    go_wp2_with (first | (refine wpList_load_row rfl 24 (.tmp 5) rfl eb rfl _ #[.int .i64 xe.kind, .int .i64 xe.num, .string (byt xe.text), ve] (0, 0) _ ob Tryz.underlying24 rfl info_nod ?_) | (refine wpList_store_box rfl 24 (.tmp 4) (.tmp 38) rfl rb #[.int .i64 xe.kind, .int .i64 xe.num, .string (byt xe.text), ve] rfl rfl 24 _ RB.out info_nod rfl (nc_one _ _ _ HVE.out) ?_; intro wy hxz huz hzz; have HZZ := hid hzz; clear hzz))
    refine bodyPost_ret (results_box rfl _ _ rb 24 _ _ rfl hxz Tryz.underlying24 rfl info_nod) rfl ?_
    exact .inl ⟨xe, k', _, HR.out, by omega, HP.out.kle, rfl, (HNE.out.upd huz (fun g hg => by have := hg.1; omega)).weak (fun g hg => by have := hg.1; omega), Box.grown HP.out.box huz (by intro h; injection h with h; omega), Upd.fresh (HW.out.updB HU.out hwB) huz (by have := HPB.out; omega)⟩
   ·obtain ⟨hsn, hkl2, HSO, HP⟩ := HC
    obtain ⟨TX, hTX⟩ : ∃ q, byt sg = q := ⟨_, rfl⟩
    have hne : TX ≠ ⟨#[]⟩ := fun e => hsn (byt_inj (hTX.trans (e.trans (show (⟨#[]⟩ : ByteArray) = byt [] from rfl))))
    have HTX := hid hTX
    rw [hTX]
    clear hTX
    obtain ⟨q1, q2, q3⟩ := same_no hne
    have q4 := of_decide_eq_false q2
    have q5 : (TX.toList == []) = false := by
     have e : (⟨#[]⟩ : ByteArray).toList = [] := by simp [ByteArray.toList_eq]
     rw [e] at q1
     exact q1
    have q6 : TX.toList.isEmpty = false := by
     rw [← HTX.out, byt_list]
     cases sg with
     | nil => exact absurd rfl hsn
     | cons a l => rfl
    replace HR := hid (HR.out.trans (signs_yes HSO.out))
    obtain ⟨ve, hlit, hvo⟩ := NodeAt.lit HNE.out
    rw [hlit] at HNE EB
    have HVE := hid hvo
    clear hlit hvo GR hgl
    have hle9 := HP.out.kle
    go_upto_region 13 with fail
    refine wp_region_until 7 (fun w' => Box w' eb 24 #[.int .i64 xe.kind, .int .i64 xe.num, .string (byt xe.text), ve]) (by kernel_rfl) EB.out.drew (fun hHeld => ?_)
    obtain ⟨wd, hwd⟩ : ∃ wd, wi.drew = wd := ⟨_, rfl⟩
    have hb : Below wi.heap.size wi wd := hwd ▸ (Below.refl _ wi).drew
    (try rw [hwd] at hHeld)
    (try rw [hwd])
    clear hwd hHeld
    replace HNE := hid (HNE.out.below hb)
    replace RB := bl RB hb
    replace EB := bl EB hb
    replace HP := hid (HP.out.below hb)
    replace HU := hid (HU.out.trans (UpdB.of_below hb hBw))
    replace hBw := Nat.le_trans hBw hb.size
    clear hb
    refine tU (i := 0) (v := ?_) rfl ?_ (.inr EB.out) ?_
    rotate_left
    ·intro w hSw
     go_simp
     try (with_reducible rfl)
    (try simp only [Act.put, sq])
    refine wpAnyU_take (i := 1) (v := .agg #[.int .i64 xe.kind, .int .i64 xe.num, .string (byt xe.text), ve]) rfl (by kernel_rfl) (by kernel_rfl) (by kernel_rfl) (by kernel_rfl) (by kernel_rfl) (fun _ _ _ h => h) (yields_load_box (by kernel_rfl) 24 (.tmp 5) rfl eb 24 #[.int .i64 xe.kind, .int .i64 xe.num, .string (byt xe.text), ve] _ rfl (fun _ h => h) Tryz.underlying24 rfl info_nod) EB.out ?_
    (try simp only [Act.put, sq])
    refine tU (i := 2) (v := ?_) rfl ?_ (.inr EB.out) ?_
    rotate_left
    ·intro w hSw
     go_simp
     try (with_reducible rfl)
    (try simp only [Act.put, sq])
    refine tU (i := 3) (v := ?_) rfl ?_ (.inr EB.out) ?_
    rotate_left
    ·intro w hSw
     go_simp
     try (with_reducible rfl)
    (try simp only [Act.put, sq])
    refine tU (i := 4) (v := ?_) rfl ?_ (.inr EB.out) ?_
    rotate_left
    ·intro w hSw
     go_simp
     try (with_reducible rfl)
    (try simp only [Act.put, sq])
    refine rdU 5 rfl fun K hK => ?_
    go_simp
    refine (HBIN.out m' (by omega) HP.out (by omega)).mono ?_
    rintro e wc (⟨x1, k2, cs1, hr, hk1, hk2, rfl, hn, hx, hu⟩ | ⟨hr, rfl, hu⟩)
    rotate_left
    ·exact ⟨rfl, .inr ⟨HR.out.trans (Pars.and_no hr), rfl, HW.out.updB (HU.out.trans (UpdB.of_upd hu hBw)) hwB⟩⟩
    have hlt2 := got_lt hr rfl
    replace HR := hid (HR.out.trans (Pars.and_some hr))
    have HN1 : Hid (NodeAt wc (fun g => B ≤ g ∧ g ≠ eb) x1 cs1) := hid (hn.weak (fun g hg => ⟨by omega, by have := EB.out.lt; omega⟩))
    have hub := UpdB.of_upd hu hBw
    replace HNE := hid (HNE.out.upd hu (fun g hg => by first | omega | (simp only at hg; omega)))
    replace RB := bg RB hu
    replace EB := bg EB hu
    replace HP := hid (HP.out.upd hx hu (by omega))
    replace HU := hid (HU.out.trans hub)
    replace hBw := Nat.le_trans hBw hu.size
    clear hub
    clear hr hn hx hu
    have hle4 := HP.out.kle
    go_wp2_with fail
    refine hK.out _ _ (.inr EB.out) (fun hHeld => ?_)
    clear hK hHeld K
    (try simp only [Act.put, sq])
    refine rdU 6 rfl fun K hK => ?_
    go_simp
    rw [← HTX.out]
    refine (joined_any sg xe x1 _ cs1 _ _ HNE.out HN1.out).mono ?_
    rintro e wj ⟨cj, rfl, hnj, hb⟩
    have HNJ : Hid (NodeAt wj (fun g => B ≤ g ∧ g ≠ eb) (Pars.joined sg xe x1) cj) := hid (hnj.weak (fun g hg => by rcases hg with hg | hg; exact hg; exact ⟨by omega, by have := EB.out.lt; omega⟩))
    replace RB := bl RB hb
    replace EB := bl EB hb
    replace HP := hid (HP.out.below hb)
    replace HU := hid (HU.out.trans (UpdB.of_below hb hBw))
    replace hBw := Nat.le_trans hBw hb.size
    clear hb hnj HNE HN1
    obtain ⟨vj, hlit, hvo⟩ := NodeAt.lit HNJ.out
    rw [hlit] at HNJ ⊢
    have HVJ := hid hvo
    clear hlit hvo
    go_wp2_with fail
    refine hK.out _ _ (.inr EB.out) (fun hHeld => ?_)
    clear hK hHeld K
    (try simp only [Act.put, sq])
    refine rdU 7 rfl fun K hK => ?_
    refine step_store_box rfl 24 (.tmp 5) (.tmp 45) rfl eb #[.int .i64 (Pars.joined sg xe x1).kind, .int .i64 (Pars.joined sg xe x1).num, .string (byt (Pars.joined sg xe x1).text), vj] rfl rfl 24 _ EB.out info_nod rfl (nc_one _ _ _ HVJ.out) ?_
    intro wz OB9 hu9 hz9
    have HNE := hid (HNJ.out.upd hu9 (fun g hg => hg.2))
    replace EB := hid OB9
    replace RB := bg RB hu9
    have hb9 : Below B wj wz := hu9.own hoB hBw
    replace HP := hid (HP.out.belowB hb9 hbB HA.out)
    replace HU := hid (HU.out.trans (UpdB.of_below hb9 (Nat.le_refl _)))
    replace hBw := Nat.le_trans hBw hb9.size
    refine hK.out _ _ (.inl rfl) (fun hHeld => ?_)
    clear hK hHeld K OB9 hu9 hz9 hb9 HNJ
    refine wpAnyU_done (by kernel_rfl) ?_ _
    go_wp2
    go_roundg (ts.length - (k2))
    case measure => omega
    case rel => exact ⟨k2, m', _, _, by omega, by omega, HP.out.kle, by omega, by omega, hBw, RB, EB, HNE, HP, HU, HR⟩
end Go.Proofs.YtonjdlialejedaaGreatDoor
namespace Go.Proofs.YtonjdlialejedaaGreatDoor
open Go.Lib (hid)
open Go.RowKit
theorem ret_str {a b : ByteArray} (h : a = b) : Ending.returned (.string a) = .returned (.string b) := by rw [h]
theorem ranks_drop : ∀ r, r < 6 → Pars.ranks.drop r = Pars.ranks.getD r [] :: Pars.ranks.drop (r + 1) := by decide
theorem rank_15 (nu : Int) (t : List UInt8) (l : List Pars.Node) : Wri.rank (.mk 15 nu t l) = Wri.rankOf 0 Pars.ranks t := rfl
set_option maxRecDepth 100000 in
set_option maxHeartbeats 4000000 in
theorem rank_any (k nu : Int) (t : List UInt8) (l : List Pars.Node) (A : Option Addr) (n c : Nat) (w : World) : Calls Tryz.prog 70 #[.agg (nc k nu t (.slice A n c))] w fun e w' => e = .returned (.int .i64 (Wri.rank (.mk k nu t l))) ∧ Below w.heap.size w w' := by
 obtain ⟨T, hTe⟩ : ∃ q, byt t = q := ⟨_, rfl⟩
 have HT := hid hTe
 have e0 : nc k nu t (.slice A n c) = #[.int .i64 k, .int .i64 nu, .string T, .slice A n c] := by rw [← hTe]; rfl
 rw [e0]
 clear hTe e0
 go_enter Tryz.func70, Tryz.ntmps70
 go_upto_region 1 with fail
 refine gen_world (F := fun W => Box W w.heap.size 24 #[.int .i64 k, .int .i64 nu, .string T, .slice A n c] ∧ Below w.heap.size w W) ⟨Box.new w _ _, below1 w _⟩ ?_
 rintro W0 ⟨b0, hU⟩
 have NB := hid b0
 have HU := hid hU
 have c0 := b0.cell 0
 have c2 := b0.cell 2
 simp at c0 c2
 clear b0 hU
 go_upto_region 2 with fail
 by_cases y19 : k = 19
 ·subst y19
  go_wp2
  go_ret
  exact ⟨congrArg (fun z : Int => Ending.returned (.int .i64 z)) (a₁ := -2) (Eq.symm (by simp [Wri.rank, Pars.Node.kind, Pars.Node.text])), HU.out⟩
 have n19 : (k == 19) = false := bn y19
 go_upto_region 4 with fail
 by_cases y18 : k = 18
 ·subst y18
  go_wp2
  go_ret
  exact ⟨congrArg (fun z : Int => Ending.returned (.int .i64 z)) (a₁ := -1) (Eq.symm (by simp [Wri.rank, Pars.Node.kind, Pars.Node.text])), HU.out⟩
 have n18 : (k == 18) = false := bn y18
 go_upto_region 6 with fail
 by_cases y17 : k = 17
 ·subst y17
  go_wp2
  go_ret
  exact ⟨congrArg (fun z : Int => Ending.returned (.int .i64 z)) (a₁ := 0) (Eq.symm (by simp [Wri.rank, Pars.Node.kind, Pars.Node.text])), HU.out⟩
 have n17 : (k == 17) = false := bn y17
 go_upto_region 8 with fail
 by_cases y16 : k = 16
 ·subst y16
  go_wp2
  go_ret
  exact ⟨congrArg (fun z : Int => Ending.returned (.int .i64 z)) (a₁ := 1) (Eq.symm (by simp [Wri.rank, Pars.Node.kind, Pars.Node.text])), HU.out⟩
 have n16 : (k == 16) = false := bn y16
 go_upto_region 10 with fail
 by_cases y15 : k = 15
 ·subst y15
  clear c0
  go_wp2_with fail
  refine (ranks_any _).mono ?_
  rintro e w1 ⟨vs, rfl, hb, hix⟩
  have hw0 := HU.out.size
  replace NB := bl NB hb
  replace HU := hid (HU.out.trans (hb.mono hw0))
  clear c2 hb hw0
  have c2 := NB.out.cell 2
  simp at c2
  have HIX := hid hix
  clear hix
  go_wp2
  go_loopg [20] 6 (fun gg s20 wr => ∃ r : Nat, r ≤ 6 ∧ 6 - r ≤ gg ∧ s20 = .int .i64 (r : Int) ∧ wr = w1 ∧ Hid (Wri.rankOf 0 Pars.ranks t = Wri.rankOf r (Pars.ranks.drop r) t))
  case atStart => exact ⟨0, by omega, by omega, rfl, rfl, hid rfl⟩
  case round =>
   obtain ⟨r, hr, hg, rfl, rfl, HR⟩ := hrel
   by_cases hlt : r < 6
   ·have hltz : (r : Int) < 6 := by omega
    have hltd : decide ((r : Int) < 6) = true := decide_eq_true hltz
    have wr1 : IntKind.i64.wrap ((r : Int) + 1) = (r : Int) + 1 := by rw [IntKind.wrap_i64]; omega
    obtain ⟨gq, hgq, hgl, hix2, hrg⟩ := HIX.out r hlt
    obtain ⟨ss, hss⟩ : ∃ q, Pars.ranks.getD r [] = q := ⟨_, rfl⟩
    have hsl : ss.length ≤ 4 := by rw [← hss]; exact ranks_len r hlt
    have HDR : Hid (Pars.ranks.drop r = ss :: Pars.ranks.drop (r + 1)) := hid (by rw [← hss]; exact ranks_drop r hlt)
    rw [hss] at hix2 hrg
    have GR := hid hrg
    clear hss hrg
    go_wp2
    clear hix2
    go_loopg [26] ss.length (fun gg s26 wi => ∃ j : Nat, j ≤ ss.length ∧ ss.length - j ≤ gg ∧ s26 = .int .i64 (j : Int) ∧ wi = wr ∧ Hid (t ∉ ss.take j))
    case atStart => exact ⟨0, Nat.zero_le _, by omega, rfl, rfl, hid (by simp)⟩
    case round =>
     obtain ⟨j, hj, hgj, rfl, hwe, HNI⟩ := hrel
     subst hwe
     by_cases hl2 : j < ss.length
     ·have hjz : (j : Int) < (ss.length : Int) := by omega
      have hjd : decide ((j : Int) < (ss.length : Int)) = true := decide_eq_true hjz
      have wj : IntKind.i64.wrap ((j : Int) + 1) = (j : Int) + 1 := by rw [IntKind.wrap_i64]; omega
      obtain ⟨sj, hsj⟩ : ∃ q, ss[j]? = some q := ⟨_, List.getElem?_eq_getElem hl2⟩
      have hcj := GR.out j (.string (byt sj)) (by simp [hsj])
      rw [Nat.zero_add] at hcj
      have htk : Hid (ss.take (j + 1) = ss.take j ++ [sj]) := hid (by rw [List.take_add_one, hsj]; rfl)
      have HMEM : Hid (sj ∈ ss) := hid (List.mem_of_getElem? hsj)
      clear hsj
      obtain ⟨SJ, hSJ⟩ : ∃ q, byt sj = q := ⟨_, rfl⟩
      have HSJ := hid hSJ
      rw [hSJ] at hcj
      clear hSJ
      by_cases z : SJ = T
      ·have hz : sj = t := byt_inj (HSJ.out.trans (z.trans HT.out.symm))
       subst z
       obtain ⟨q1, q2⟩ := same_yes SJ
       go_wp2
       go_ret
       exact ⟨congrArg (fun z : Int => Ending.returned (.int .i64 z)) (a₁ := (r : Int)) (by show (r : Int) = Wri.rank _; rw [rank_15, HR.out, HDR.out]; simp only [Wri.rankOf]; rw [if_pos (by rw [← hz]; exact HMEM.out)]), HU.out⟩
      have hz : ¬ sj = t := fun e => z (by rw [← HSJ.out, e, HT.out])
      have HZ := hid hz
      obtain ⟨q1, q2, q3⟩ := same_no z
      have q4 := of_decide_eq_false q2
      clear z hz
      go_wp2
      go_roundg (ss.length - (j + 1))
      case measure => omega
      case rel => exact ⟨j + 1, by omega, by omega, rfl, rfl, hid (by rw [htk.out]; intro h; rcases List.mem_append.1 h with h | h; exact HNI.out h; exact HZ.out (List.mem_singleton.1 h).symm)⟩
     have hjz : ¬ (j : Int) < (ss.length : Int) := by omega
     have hjd : decide ((j : Int) < (ss.length : Int)) = false := decide_eq_false hjz
     have HN2 : Hid (t ∉ ss) := hid (by have := HNI.out; rwa [List.take_of_length_le (by omega)] at this)
     go_wp2
     go_roundg (6 - (r + 1))
     case measure => omega
     case rel => exact ⟨r + 1, by omega, by omega, rfl, rfl, hid (by rw [HR.out, HDR.out]; simp only [Wri.rankOf]; rw [if_neg HN2.out])⟩
   ·obtain rfl : r = 6 := by omega
    have hd6 : decide (((6 : Nat) : Int) < 6) = false := by decide
    go_wp2
    go_ret
    exact ⟨congrArg (fun z : Int => Ending.returned (.int .i64 z)) (a₁ := 8) (by show (8 : Int) = Wri.rank _; rw [rank_15, HR.out]; rfl), HU.out⟩
 have n15 : (k == 15) = false := bn y15
 go_upto_region 21 with fail
 by_cases y14 : k = 14
 ·subst y14
  go_wp2
  go_ret
  exact ⟨congrArg (fun z : Int => Ending.returned (.int .i64 z)) (a₁ := 6) (Eq.symm (by simp [Wri.rank, Pars.Node.kind, Pars.Node.text])), HU.out⟩
 have n14 : (k == 14) = false := bn y14
 go_upto_region 23 with fail
 by_cases y11 : k = 11
 ·subst y11
  go_wp2
  go_ret
  exact ⟨congrArg (fun z : Int => Ending.returned (.int .i64 z)) (a₁ := 7) (Eq.symm (by simp [Wri.rank, Pars.Node.kind, Pars.Node.text])), HU.out⟩
 have n11 : (k == 11) = false := bn y11
 go_upto_region 24 with fail
 by_cases y12 : k = 12
 ·subst y12
  go_wp2
  go_ret
  exact ⟨congrArg (fun z : Int => Ending.returned (.int .i64 z)) (a₁ := 7) (Eq.symm (by simp [Wri.rank, Pars.Node.kind, Pars.Node.text])), HU.out⟩
 have n12 : (k == 12) = false := bn y12
 go_upto_region 25 with fail
 by_cases y13 : k = 13
 ·subst y13
  go_wp2
  go_ret
  exact ⟨congrArg (fun z : Int => Ending.returned (.int .i64 z)) (a₁ := 7) (Eq.symm (by simp [Wri.rank, Pars.Node.kind, Pars.Node.text])), HU.out⟩
 have n13 : (k == 13) = false := bn y13
 go_wp2
 go_ret
 exact ⟨congrArg (fun z : Int => Ending.returned (.int .i64 z)) (a₁ := 8) (Eq.symm (by simp [Wri.rank, Pars.Node.kind, Pars.Node.text, y19, y18, y17, y16, y15, y14, y11, y12, y13])), HU.out⟩
set_option maxRecDepth 100000 in
set_option maxHeartbeats 4000000 in
theorem least_any (k nu : Int) (t : List UInt8) (l : List Pars.Node) (A : Option Addr) (n c : Nat) (w : World) : Calls Tryz.prog 71 #[.agg (nc k nu t (.slice A n c))] w fun e w' => e = .returned (.int .i64 (Wri.least (.mk k nu t l))) ∧ Below w.heap.size w w' := by
 go_enter Tryz.func71, Tryz.ntmps71
 go_upto_region 1 with fail
 refine gen_world (F := fun W => Box W w.heap.size 24 (nc k nu t (.slice A n c)) ∧ Below w.heap.size w W) ⟨Box.new w _ _, below1 w _⟩ ?_
 rintro W0 ⟨b0, hU⟩
 have NB := hid b0
 have HU := hid hU
 have c0 := b0.cell 0
 simp [nc] at c0
 clear b0 hU
 go_upto_region 2 with fail
 by_cases y19 : k = 19
 ·subst y19
  go_wp2
  go_ret
  exact ⟨congrArg (fun z : Int => Ending.returned (.int .i64 z)) (a₁ := 7) (Eq.symm (by simp [Wri.least, Pars.Node.kind])), HU.out⟩
 have n19 : (k == 19) = false := bn y19
 go_upto_region 3 with fail
 by_cases y11 : k = 11
 ·subst y11
  go_wp2
  go_ret
  exact ⟨congrArg (fun z : Int => Ending.returned (.int .i64 z)) (a₁ := 7) (Eq.symm (by simp [Wri.least, Pars.Node.kind])), HU.out⟩
 have n11 : (k == 11) = false := bn y11
 go_upto_region 4 with fail
 by_cases y12 : k = 12
 ·subst y12
  go_wp2
  go_ret
  exact ⟨congrArg (fun z : Int => Ending.returned (.int .i64 z)) (a₁ := 7) (Eq.symm (by simp [Wri.least, Pars.Node.kind])), HU.out⟩
 have n12 : (k == 12) = false := bn y12
 go_upto_region 5 with fail
 by_cases y13 : k = 13
 ·subst y13
  go_wp2
  go_ret
  exact ⟨congrArg (fun z : Int => Ending.returned (.int .i64 z)) (a₁ := 7) (Eq.symm (by simp [Wri.least, Pars.Node.kind])), HU.out⟩
 have n13 : (k == 13) = false := bn y13
 go_upto_region 7 with fail
 by_cases y18 : k = 18
 ·subst y18
  go_wp2
  go_ret
  exact ⟨congrArg (fun z : Int => Ending.returned (.int .i64 z)) (a₁ := 0) (Eq.symm (by simp [Wri.least, Pars.Node.kind])), HU.out⟩
 have n18 : (k == 18) = false := bn y18
 have nb := NB.out
 go_wp2_with (refine wpList_load_row rfl 24 (.tmp 1) rfl w.heap.size rfl _ (nc k nu t (.slice A n c)) (0, 0) _ nb Tryz.underlying24 rfl info_nod ?_)
 refine (rank_any k nu t l A n c _).mono ?_
 rintro e w1 ⟨rfl, hb⟩
 have HU2 := hid (HU.out.trans (hb.mono HU.out.size))
 clear hb
 go_wp2
 go_ret
 exact ⟨congrArg (fun z : Int => Ending.returned (.int .i64 z)) (a₁ := Wri.rank (.mk k nu t l)) (Eq.symm (by simp [Wri.least, Pars.Node.kind, y19, y11, y12, y13, y18])), HU2.out⟩
set_option maxRecDepth 100000 in
set_option maxHeartbeats 4000000 in
theorem sign_any (k nu : Int) (t : List UInt8) (A : Option Addr) (n c : Nat) (w : World) : Calls Tryz.prog 95 #[.agg (nc k nu t (.slice A n c))] w fun e w' => e = .returned (.string (byt (Wri.sgn k t))) ∧ Below w.heap.size w w' := by
 obtain ⟨T, hTe⟩ : ∃ q, byt t = q := ⟨_, rfl⟩
 have HT := hid hTe
 have e0 : nc k nu t (.slice A n c) = #[.int .i64 k, .int .i64 nu, .string T, .slice A n c] := by rw [← hTe]; rfl
 rw [e0]
 clear hTe e0
 go_enter Tryz.func95, Tryz.ntmps95
 go_upto_region 1 with fail
 refine gen_world (F := fun W => Box W w.heap.size 24 #[.int .i64 k, .int .i64 nu, .string T, .slice A n c] ∧ Below w.heap.size w W) ⟨Box.new w _ _, below1 w _⟩ ?_
 rintro W0 ⟨b0, hU⟩
 have NB := hid b0
 have HU := hid hU
 have c0 := b0.cell 0
 have c2 := b0.cell 2
 simp at c0 c2
 clear b0 hU
 go_upto_region 2 with fail
 by_cases y17 : k = 17
 ·subst y17
  go_wp2
  go_ret
  exact ⟨ret_str (a := ⟨#[124, 124]⟩) rfl, HU.out⟩
 have n17 : (k == 17) = false := bn y17
 go_upto_region 4 with fail
 by_cases y16 : k = 16
 ·subst y16
  go_wp2
  go_ret
  exact ⟨ret_str (a := ⟨#[38, 38]⟩) rfl, HU.out⟩
 have n16 : (k == 16) = false := bn y16
 go_wp2
 go_ret
 exact ⟨ret_str (a := T) (by unfold Wri.sgn; rw [if_neg y17, if_neg y16, HT.out]), HU.out⟩
end Go.Proofs.YtonjdlialejedaaGreatDoor
