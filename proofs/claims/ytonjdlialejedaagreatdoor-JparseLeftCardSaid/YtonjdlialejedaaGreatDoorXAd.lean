/-
  Texts that the law leans on: PmB, ParE, ParK. Conditions: as each says.
-/
import Derived.Test.YtonjdlialejedaaGreatDoorXAc
import Derived.BigQuiet
import Derived.Deep.RegionHeld3
import Derived.Deep.LoopGhost
import Derived.Deep.MidRow
import Derived.Test.YtonjdlialejedaaGreatDoorXAb
import Derived.Test.YtonjdlialejedaaGreatDoorXAa
set_option linter.unusedSimpArgs false
set_option linter.unusedVariables false
namespace Go.Proofs.YtonjdlialejedaaGreatDoor
open Go.Lib (hid)
open Go.RowKit
abbrev KT := Lexy.Tk × Int × Int
theorem info_tok : (Tryz.prog.info? 40).map (·.size) = some 5 := by kernel_rfl
theorem info_nod : (Tryz.prog.info? 24).map (·.size) = some 4 := by kernel_rfl
structure PSt (w : World) (b : Nat) (ts : List KT) (A : Option Addr) (c k : Nat) (fn lp : Bool) : Prop where
 box : Box w b 76 (pc (.slice A ts.length c) k fn lp)
 ks : KRd w ts (.slice A ts.length c)
 kle : k ≤ ts.length
 ne : ∀ g o, A = some ⟨g, o, none⟩ → g ≠ b
 len : ts.length ≤ 1000
theorem PSt.below {w w1 : World} {b : Nat} {ts : List KT} {A : Option Addr} {c k : Nat} {fn lp : Bool} (h : PSt w b ts A c k fn lp) (hb : Below w.heap.size w w1) : PSt w1 b ts A c k fn lp :=
 ⟨h.box.below hb h.box.lt, Rd.below h.ks hb, h.kle, h.ne, h.len⟩
theorem PSt.upd {w w1 : World} {b : Nat} {ts : List KT} {A : Option Addr} {c k k1 : Nat} {fn lp fn1 lp1 : Bool} (h : PSt w b ts A c k fn lp) (hx : Box w1 b 76 (pc (.slice A ts.length c) k1 fn1 lp1)) (hu : Upd w w1 b) (hk : k1 ≤ ts.length) : PSt w1 b ts A c k1 fn1 lp1 := by
 refine ⟨hx, ?_, hk, h.ne, h.len⟩
 obtain ⟨A', cap, e, h1, h2, h3⟩ := h.ks
 refine ⟨A', cap, e, h1, h2, fun hn => ?_⟩
 obtain ⟨g, o, rfl, hg, hr⟩ := h3 hn
 injection e with e _ _
 have hz := hu.size
 refine ⟨g, o, rfl, by omega, fun i u hi => ?_⟩
 rw [World.cell?_of_block (hu.block g hg (by intro x; injection x with x; exact h.ne g o e x))]
 exact hr i u hi
def left (ts : List KT) (k : Nat) : List Lexy.Tk := (toks ts).drop k
theorem left_cons {ts : List KT} {k : Nat} {t : KT} (h : ts[k]? = some t) : left ts k = t.1 :: left ts (k + 1) := by
 have h1 : (toks ts)[k]? = some t.1 := by unfold toks; rw [List.getElem?_map, h]; rfl
 have hlt := (List.getElem?_eq_some_iff.1 h1).1
 unfold left
 rw [List.drop_eq_getElem_cons hlt, (List.getElem?_eq_some_iff.1 h1).2]
theorem left_nil {ts : List KT} {k : Nat} (h : ts.length ≤ k) : left ts k = [] := by unfold left; exact List.drop_eq_nil_of_le (by simpa [toks] using h)
def here (ts : List KT) (k : Nat) : Array Value := match ts[k]? with
 | some t => kc t
 | none => #[.int .i64 0, .int .i64 0, .int .i64 0, .string ⟨#[]⟩, .int .i64 0]
theorem same_yes (A : ByteArray) : (A.toList == A.toList) = true ∧ decide (A.toList = A.toList) = true := by simp
theorem same_no {A B : ByteArray} (h : A ≠ B) : (A.toList == B.toList) = false ∧ decide (A.toList = B.toList) = false ∧ decide (A = B) = false := by
 have h1 : ¬ A.toList = B.toList := fun e => h (by cases A; cases B; simpa [ByteArray.toList_eq] using e)
 exact ⟨bn h1, decide_eq_false h1, decide_eq_false h⟩
theorem tz_one : (#[.int .i64 0, .int .i64 0, .int .i64 0, .string ⟨#[]⟩, .int .i64 0] : Array Value).all (·.oneCell') = true := by simp [Value.oneCell']
theorem ktok_one (ts : List KT) (k : Nat) : (here ts k).all (·.oneCell') = true := by
 unfold here
 split
 ·exact kc_one _
 ·simp [Value.oneCell']
theorem ktok_size (ts : List KT) (k : Nat) : (here ts k).size = 5 := by unfold here; split <;> rfl
set_option maxRecDepth 100000 in
set_option maxHeartbeats 4000000 in
theorem peek_any (w : World) (b : Nat) (ts : List KT) (A : Option Addr) (c k : Nat) (fn lp : Bool) (h : PSt w b ts A c k fn lp) :
  Calls Tryz.prog 59 #[.pointer (some ⟨b, 0, none⟩)] w fun e w' => e = .returned (.agg (here ts k)) ∧ Below w.heap.size w w' := by
 have hb := h.box
 have hkle := h.kle
 have HKS := hid h.ks
 have hlt := hb.lt
 obtain ⟨n, hn⟩ : ∃ n, ts.length = n := ⟨_, rfl⟩
 have HN := hid hn
 rw [hn] at hb hkle
 clear hn h
 go_enter Tryz.func59, Tryz.ntmps59
 go_upto_region 1 with fail
 have HR0 := hid (Box.new w 40 #[.int .i64 0, .int .i64 0, .int .i64 0, .string ⟨#[]⟩, .int .i64 0])
 have hU0 : Below w.heap.size w (w.alloc (.cells #[.int .i64 0, .int .i64 0, .int .i64 0, .string ⟨#[]⟩, .int .i64 0] 40)) := below1 w _
 have hb1 := hb.below hU0 hlt
 obtain ⟨W0, hW0⟩ : ∃ W0, (w.alloc (.cells #[.int .i64 0, .int .i64 0, .int .i64 0, .string ⟨#[]⟩, .int .i64 0] 40)) = W0 := ⟨_, rfl⟩
 rw [hW0] at HR0 hU0 hb1
 rw [hW0]
 clear hW0 hb
 have HU0 := hid hU0
 have c0 := hb1.cell 0
 have c1 := hb1.cell 1
 simp [pc] at c0 c1
 clear hb1 hU0
 by_cases y : k < n
 ·have d1 : decide ((k : Int) < (n : Int)) = true := decide_eq_true (by omega)
  have d2 : (k : Int) < (n : Int) := by omega
  obtain ⟨t, ht⟩ : ∃ t, ts[k]? = some t := ⟨_, List.getElem?_eq_getElem (by rw [HN.out]; exact y)⟩
  have HH : Hid (here ts k = kc t) := hid (by unfold here; rw [ht])
  obtain ⟨X, cx, e1, h1, h2, h3⟩ := HKS.out
  injection e1 with e1 _ e2
  subst e1 e2
  obtain ⟨g0, o0, rfl, hg0, hr0⟩ := h3 (by rw [HN.out]; omega)
  have hrow := RdL.elem (k := 5) (f := kc) (fun _ => rfl) hr0 ht
  have HROW : Hid (W0.rangeAt g0 (o0 + k * 5) (kc t).toList) := hid (fun i u hu => by rw [HU0.out.cell (p := ⟨g0, o0 + k * 5 + i, none⟩) hg0]; exact hrow i u hu)
  have hg0' := HU0.out.size
  clear y ht h1 h2 h3 hr0 hrow HKS
  go_quiet (fail)
  go_upto_region 2 with fail
  obtain ⟨W1, hW1⟩ : ∃ W1, W0.drewN nq = W1 := ⟨_, rfl⟩
  have hd1 : Below W0.heap.size W0 W1 := hW1 ▸ below_drewN (Below.refl _ W0) nq
  rw [hW1]
  have c0 := (hd1.cell (p := ⟨b, 0, none⟩) (block_lt_of_cell c0)).trans c0
  have c1 := (hd1.cell (p := ⟨b, 1, none⟩) (block_lt_of_cell c1)).trans c1
  have HROW : Hid (W1.rangeAt g0 (o0 + k * 5) (kc t).toList) := hid (fun i u hu => by rw [hd1.cell (p := ⟨g0, o0 + k * 5 + i, none⟩) (by show g0 < _; omega)]; exact HROW.out i u hu)
  have HR1 := bl HR0 hd1
  have HU1 := hid (HU0.out.trans (hd1.mono HU0.out.size))
  clear hW1 hd1
  refine wp_region_held_drew (S := fun w' => w'.cell? ⟨b, 0, none⟩ = some (.slice (some ⟨g0, o0, none⟩) n c) ∧ w'.cell? ⟨b, 1, none⟩ = some (.int .i64 (k : Int)) ∧ w'.rangeAt g0 (o0 + k * 5) (kc t).toList ∧ Below w.heap.size w w') (by kernel_rfl) ⟨c0, c1, HROW.out, HU1.out.drew⟩ (fun hHeld => ?_)
  refine tH (i := 0) (v := ?_) rfl ?_ (by assumption) ?_
  rotate_left
  ·intro w hSw
   obtain ⟨s1, s2, s3, s4⟩ := hSw
   go_simp
   try (with_reducible rfl)
  (try simp only [Act.put, sq])
  refine tH (i := 1) (v := ?_) rfl ?_ (by assumption) ?_
  rotate_left
  ·intro w hSw
   obtain ⟨s1, s2, s3, s4⟩ := hSw
   go_simp
   try (with_reducible rfl)
  (try simp only [Act.put, sq])
  refine tH (i := 2) (v := ?_) rfl ?_ (by assumption) ?_
  rotate_left
  ·intro w hSw
   obtain ⟨s1, s2, s3, s4⟩ := hSw
   go_simp
   try (with_reducible rfl)
  (try simp only [Act.put, sq])
  refine tH (i := 3) (v := ?_) rfl ?_ (by assumption) ?_
  rotate_left
  ·intro w hSw
   obtain ⟨s1, s2, s3, s4⟩ := hSw
   go_simp
   try (with_reducible rfl)
  (try simp only [Act.put, sq])
  refine tH (i := 4) (v := ?_) rfl ?_ (by assumption) ?_
  rotate_left
  ·intro w hSw
   obtain ⟨s1, s2, s3, s4⟩ := hSw
   go_simp
   try (with_reducible rfl)
  (try simp only [Act.put, sq])
  refine tH (i := 5) (v := ?_) rfl ?_ (by assumption) ?_
  rotate_left
  ·intro w hSw
   obtain ⟨s1, s2, s3, s4⟩ := hSw
   go_simp
   try (with_reducible rfl)
  (try simp only [Act.put, sq])
  refine tH (i := 6) (v := ?_) rfl ?_ (by assumption) ?_
  rotate_left
  ·intro w hSw
   obtain ⟨s1, s2, s3, s4⟩ := hSw
   go_simp
   try (with_reducible rfl)
  (try simp only [Act.put, sq])
  refine tH (i := 7) (v := ?_) rfl ?_ (by assumption) ?_
  rotate_left
  ·intro w hSw
   obtain ⟨s1, s2, s3, s4⟩ := hSw
   go_simp
   try (with_reducible rfl)
  (try simp only [Act.put, sq])
  refine tH (i := 8) (v := .pointer (some ⟨g0, o0 + k * 5, none⟩)) rfl ?_ (by assumption) ?_
  ·intro w hSw
   obtain ⟨s1, s2, s3, s4⟩ := hSw
   go_simp
  (try simp only [Act.put, sq])
  refine wpAnyH_take (i := 9) (v := _) rfl (by kernel_rfl) (by kernel_rfl) (by kernel_rfl) (fun _ _ _ h => h) (yieldsIf_load_mid (by kernel_rfl) 40 (.tmp 21) rfl (g0) (o0 + k * 5) rfl ((kc t).toList) _ (fun _ h => h.2.2.1) Tryz.underlying40 rfl info_tok) (by assumption) ?_
  (try simp only [Act.put, sq])
  have hzz1 := HR1.out.lt
  have hzz2 := HU1.out.size
  refine rdH 10 rfl fun K hK => ?_
  refine step_store_box rfl 40 (.tmp 2) (.tmp 22) rfl w.heap.size (kc t) rfl rfl 40 _ (Box.drew HR1.out) info_tok rfl (kc_one t) ?_
  intro wz hxz huz hzz
  refine hK.out _ _ ⟨(World.cell?_of_block (huz.block b (by show b < _; first | omega | (simp; omega)) (by simp; omega))).trans hHeld.1, (World.cell?_of_block (huz.block b (by show b < _; first | omega | (simp; omega)) (by simp; omega))).trans hHeld.2.1, fun i u hu => (World.cell?_of_block (huz.block g0 (by show g0 < _; first | omega | (simp; omega)) (by simp; omega))).trans (hHeld.2.2.1 i u hu), hHeld.2.2.2.trans (huz.own (Nat.le_refl _) hHeld.2.2.2.size)⟩ (fun hHeld => ?_)
  clear hK K
  (try simp only [Act.put, sq])
  refine wpAnyH_done (by kernel_rfl) ?_ _
  go_wp2
  refine bodyPost_ret (results_box rfl _ _ w.heap.size 40 _ _ rfl hxz Tryz.underlying40 rfl info_tok) rfl ?_
  exact ⟨by rw [HH.out], hHeld.2.2.2⟩
 ·have d1 : decide ((k : Int) < (n : Int)) = false := decide_eq_false (by omega)
  have d2 : ¬ (k : Int) < (n : Int) := by omega
  have HH : Hid (here ts k = #[.int .i64 0, .int .i64 0, .int .i64 0, .string ⟨#[]⟩, .int .i64 0]) := hid (by unfold here; rw [List.getElem?_eq_none (by rw [HN.out]; omega)])
  clear y
  go_quiet (fail)
  obtain ⟨W1, hW1⟩ : ∃ W1, W0.drewN nq = W1 := ⟨_, rfl⟩
  have hd1 : Below W0.heap.size W0 W1 := hW1 ▸ below_drewN (Below.refl _ W0) nq
  rw [hW1]
  have HR1 := bl HR0 hd1
  have HU1 := hid (HU0.out.trans (hd1.mono HU0.out.size))
  clear hW1 hd1 c0 c1
  go_wp2_with (refine wpList_store_box rfl 40 (.tmp 2) (.tmp 23) rfl w.heap.size #[.int .i64 0, .int .i64 0, .int .i64 0, .string ⟨#[]⟩, .int .i64 0] rfl rfl 40 _ HR1.out info_tok rfl tz_one ?_; intro wz hxz huz hzz; have HZZ := hid hzz; clear hzz)
  refine bodyPost_ret (results_box rfl _ _ w.heap.size 40 _ _ rfl hxz Tryz.underlying40 rfl info_tok) rfl ?_
  exact ⟨by rw [HH.out], HU1.out.trans (huz.own (Nat.le_refl _) HU1.out.size)⟩
def SL : Value := .iface 72 (.agg #[])
def IsOut (s : List UInt8) (w : World) (b : Nat) (ts : List KT) (A : Option Addr) (c k : Nat) (fn lp : Bool) (e : Ending) (w' : World) : Prop :=
 (Pars.is s (left ts k) = some (left ts (k + 1)) ∧ k < ts.length ∧ e = .returned (.bool true) ∧ Box w' b 76 (pc (.slice A ts.length c) (k + 1) fn lp) ∧ Upd w w' b) ∨
 (Pars.is s (left ts k) = none ∧ e = .returned (.bool false) ∧ Box w' b 76 (pc (.slice A ts.length c) k fn lp) ∧ Upd w w' b)
set_option maxRecDepth 100000 in
set_option maxHeartbeats 4000000 in
theorem is_any (s : List UInt8) (w : World) (b : Nat) (ts : List KT) (A : Option Addr) (c k : Nat) (fn lp : Bool) (h : PSt w b ts A c k fn lp) :
  Calls Tryz.prog 47 #[.pointer (some ⟨b, 0, none⟩), .string (byt s)] w (IsOut s w b ts A c k fn lp) := by
 have HP := hid (peek_any w b ts A c k fn lp h)
 have hlt := h.box.lt
 have HB := hid h.box
 have hlen := h.len
 have hkle := h.kle
 clear h
 by_cases y : k < ts.length
 ·obtain ⟨t, ht⟩ : ∃ t, ts[k]? = some t := ⟨_, List.getElem?_eq_getElem y⟩
  have HH : Hid (here ts k = kc t) := hid (by unfold here; rw [ht])
  have HL := hid (left_cons ht)
  rw [HH.out] at HP
  have HY := hid y
  obtain ⟨S, hS⟩ : ∃ S, byt s = S := ⟨_, rfl⟩
  rw [hS]
  have HS := hid hS
  obtain ⟨KD, hKD⟩ : ∃ K, t.1.kind = K := ⟨_, rfl⟩
  obtain ⟨TX, hTX⟩ : ∃ K, byt t.1.text = K := ⟨_, rfl⟩
  have HKD := hid hKD
  have HTX := hid hTX
  obtain ⟨tcs, htcs⟩ : ∃ K, kc t = K := ⟨_, rfl⟩
  have htc0 : tcs[0]? = some (.int .i64 (KD : Int)) := by rw [← htcs, ← hKD]; rfl
  have htc3 : tcs[3]? = some (.string TX) := by rw [← htcs, ← hTX]; rfl
  have htsz : (Tryz.prog.info? 40).map (·.size) = some tcs.size := by rw [← htcs]; exact info_tok
  have ht5 : (5 : Nat) = tcs.size := by rw [← htcs]; rfl
  have hto : tcs.all (·.oneCell') = true := by rw [← htcs]; exact kc_one t
  rw [htcs] at HP
  have HT0 := hid htc0
  have HT3 := hid htc3
  have HTS := hid htsz
  have HT5 := hid ht5
  have HTO := hid hto
  clear y ht hS hKD hTX htcs htc0 htc3 htsz ht5 hto
  go_enter Tryz.func47, Tryz.ntmps47
  go_wp2_with fail
  refine HP.out.mono ?_
  rintro e w1 ⟨rfl, hb1⟩
  go_upto_region 2 with (refine wpList_store_box rfl 40 (.tmp 5) (.tmp 7) rfl w1.heap.size tcs rfl rfl 40 _ (Box.new w1 _ _) HTS.out HT5.out HTO.out ?_; intro w2 hx2 hu2 hz2; have HZ2 := hid hz2; clear hz2)
  have hb2 : Below w1.heap.size w1 w2 := ((Below.refl _ w1).alloc (Nat.le_refl _) _).trans (hu2.own (Nat.le_refl _) (by simp))
  have HB2 := hid ((HB.out.below hb1 HB.out.lt).below hb2 (HB.out.below hb1 HB.out.lt).lt)
  have HU2 := hid (hb1.trans (hb2.mono hb1.size))
  have k0 := (hx2.cell 0).trans HT0.out
  have k3 := (hx2.cell 3).trans HT3.out
  have kb := HB2.out.cell 1
  simp [pc] at kb
  have kf : w2.frozen? ⟨b, 1, none⟩ = false := HB2.out.frozen 1
  have wk : IntKind.i64.wrap ((k : Int) + 1) = (k : Int) + 1 := by rw [IntKind.wrap_i64]; omega
  have hne : b ≠ w1.heap.size := by have := hb1.size; omega
  clear hb1 hb2 hu2 hx2
  by_cases y4 : KD = 4 ∨ KD = 5
  ·by_cases yt : TX = S
   ·subst yt
    have hst : Hid (Pars.is s (left ts k) = some (left ts (k + 1))) := hid (by
     rw [HL.out]
     simp only [Pars.is]
     rw [if_pos ⟨by rw [HKD.out]; exact y4, byt_inj (by rw [HTX.out, HS.out])⟩])
    obtain ⟨q1, q2⟩ := same_yes TX
    rcases y4 with rfl | rfl
    ·skip
     go_wp2
     go_ret
     have hB3 := HB2.out.set 1 (.int .i64 ((k : Int) + 1))
     exact .inl ⟨hst.out, HY.out, rfl, hB3, (Upd.below HU2.out b).set (.inl rfl) _⟩
    ·skip
     go_wp2
     go_ret
     have hB3 := HB2.out.set 1 (.int .i64 ((k : Int) + 1))
     exact .inl ⟨hst.out, HY.out, rfl, hB3, (Upd.below HU2.out b).set (.inl rfl) _⟩
   ·have hst : Hid (Pars.is s (left ts k) = none) := hid (by
     rw [HL.out]
     simp only [Pars.is]
     rw [if_neg (fun h => yt (by rw [← HTX.out, ← HS.out, h.2]))])
    obtain ⟨q1, q2, q3⟩ := same_no yt
    have q4 := of_decide_eq_false q2
    rcases y4 with rfl | rfl
    ·skip
     go_wp2
     go_ret
     exact .inr ⟨hst.out, rfl, HB2.out, Upd.below HU2.out b⟩
    ·skip
     go_wp2
     go_ret
     exact .inr ⟨hst.out, rfl, HB2.out, Upd.below HU2.out b⟩
  ·have hst : Hid (Pars.is s (left ts k) = none) := hid (by
    rw [HL.out]
    simp only [Pars.is]
    rw [if_neg (fun h => y4 (by rw [← HKD.out]; exact h.1))])
   have n4 : ((KD : Int) != 4) = true := by rw [bne_iff_ne]; omega
   have n5 : ((KD : Int) != 5) = true := by rw [bne_iff_ne]; omega
   clear y4
   skip
   go_wp2
   go_ret
   exact .inr ⟨hst.out, rfl, HB2.out, Upd.below HU2.out b⟩
 ·have HH : Hid (here ts k = #[.int .i64 0, .int .i64 0, .int .i64 0, .string ⟨#[]⟩, .int .i64 0]) := hid (by unfold here; rw [List.getElem?_eq_none (by omega)])
  have HL := hid (left_nil (ts := ts) (k := k) (by omega))
  rw [HH.out] at HP
  obtain ⟨S, hS⟩ : ∃ S, byt s = S := ⟨_, rfl⟩
  rw [hS]
  clear y hS
  go_enter Tryz.func47, Tryz.ntmps47
  go_wp2_with fail
  refine HP.out.mono ?_
  rintro e w1 ⟨rfl, hb1⟩
  go_upto_region 2 with (refine wpList_store_box rfl 40 (.tmp 5) (.tmp 7) rfl w1.heap.size #[.int .i64 0, .int .i64 0, .int .i64 0, .string ⟨#[]⟩, .int .i64 0] rfl rfl 40 _ (Box.new w1 _ _) info_tok rfl tz_one ?_; intro w2 hx2 hu2 hz2; have HZ2 := hid hz2; clear hz2)
  have hb2 : Below w1.heap.size w1 w2 := ((Below.refl _ w1).alloc (Nat.le_refl _) _).trans (hu2.own (Nat.le_refl _) (by simp))
  have HB2 := hid ((HB.out.below hb1 HB.out.lt).below hb2 (HB.out.below hb1 HB.out.lt).lt)
  have HU2 := hid (hb1.trans (hb2.mono hb1.size))
  have k0 := hx2.cell 0
  have k3 := hx2.cell 3
  simp at k0 k3
  clear hb1 hb2 hu2 hx2
  go_wp2
  go_ret
  exact .inr ⟨by rw [HL.out]; rfl, rfl, HB2.out, Upd.below HU2.out b⟩
def slipped : List PanicEntry := [{ v := SL, recovered := false }]
def MustOut (s : List UInt8) (w : World) (b : Nat) (ts : List KT) (A : Option Addr) (c k : Nat) (fn lp : Bool) (e : Ending) (w' : World) : Prop :=
 (Pars.is s (left ts k) = some (left ts (k + 1)) ∧ k < ts.length ∧ e = .returned (.tuple #[]) ∧ Box w' b 76 (pc (.slice A ts.length c) (k + 1) fn lp) ∧ Upd w w' b) ∨
 (Pars.is s (left ts k) = none ∧ e = .panicked slipped ∧ Upd w w' b)
set_option maxRecDepth 100000 in
set_option maxHeartbeats 4000000 in
theorem must_any (s : List UInt8) (w : World) (b : Nat) (ts : List KT) (A : Option Addr) (c k : Nat) (fn lp : Bool) (h : PSt w b ts A c k fn lp) :
  Calls Tryz.prog 49 #[.pointer (some ⟨b, 0, none⟩), .string (byt s)] w (MustOut s w b ts A c k fn lp) := by
 have HI := hid (is_any s w b ts A c k fn lp h)
 clear h
 go_enter Tryz.func49, Tryz.ntmps49
 go_wp2_with fail
 refine HI.out.mono ?_
 rintro e w1 (⟨h1, h2, rfl, h3, h4⟩ | ⟨h1, rfl, h3, h4⟩)
 ·have H1 := hid h1
  have H3 := hid h3
  have H4 := hid h4
  clear h1 h3 h4
  go_wp2
  go_end0
  exact .inl ⟨H1.out, h2, rfl, H3.out, H4.out⟩
 ·have H1 := hid h1
  have H4 := hid h4
  clear h1 h3 h4
  go_wp2
  exact ⟨rfl, .inr ⟨H1.out, rfl, H4.out⟩⟩
theorem within_any (is : Bool) (w : World) : Calls Tryz.prog 57 #[.bool is] w fun e w' => (e = if is = true then .returned (.tuple #[]) else .panicked slipped) ∧ w' = w := by
 cases is
 ·go_enter Tryz.func57, Tryz.ntmps57
  go_wp2
  exact ⟨rfl, rfl, rfl⟩
 ·go_enter Tryz.func57, Tryz.ntmps57
  go_wp2
  go_end0
  exact ⟨rfl, rfl⟩
def NameOut (w : World) (b : Nat) (ts : List KT) (A : Option Addr) (c k : Nat) (fn lp : Bool) (e : Ending) (w' : World) : Prop :=
 (∃ t : KT, ts[k]? = some t ∧ t.1.kind = 1 ∧ k < ts.length ∧ e = .returned (.string (byt t.1.text)) ∧ Box w' b 76 (pc (.slice A ts.length c) (k + 1) fn lp) ∧ Upd w w' b) ∨
 ((∀ t, ts[k]? = some t → t.1.kind ≠ 1) ∧ e = .panicked slipped ∧ Upd w w' b)
set_option maxRecDepth 100000 in
set_option maxHeartbeats 4000000 in
theorem name_any (w : World) (b : Nat) (ts : List KT) (A : Option Addr) (c k : Nat) (fn lp : Bool) (h : PSt w b ts A c k fn lp) :
  Calls Tryz.prog 48 #[.pointer (some ⟨b, 0, none⟩)] w (NameOut w b ts A c k fn lp) := by
 have HP := hid (peek_any w b ts A c k fn lp h)
 have hlt := h.box.lt
 have HB := hid h.box
 have hlen := h.len
 have hkle := h.kle
 clear h
 by_cases y : k < ts.length
 ·obtain ⟨t, ht⟩ : ∃ t, ts[k]? = some t := ⟨_, List.getElem?_eq_getElem y⟩
  have HH : Hid (here ts k = kc t) := hid (by unfold here; rw [ht])
  rw [HH.out] at HP
  have HY := hid y
  have HT := hid ht
  obtain ⟨KD, hKD⟩ : ∃ K, t.1.kind = K := ⟨_, rfl⟩
  obtain ⟨TX, hTX⟩ : ∃ K, byt t.1.text = K := ⟨_, rfl⟩
  have HKD := hid hKD
  have HTX := hid hTX
  obtain ⟨tcs, htcs⟩ : ∃ K, kc t = K := ⟨_, rfl⟩
  have htc0 : tcs[0]? = some (.int .i64 (KD : Int)) := by rw [← htcs, ← hKD]; rfl
  have htc3 : tcs[3]? = some (.string TX) := by rw [← htcs, ← hTX]; rfl
  have htsz : (Tryz.prog.info? 40).map (·.size) = some tcs.size := by rw [← htcs]; exact info_tok
  have ht5 : (5 : Nat) = tcs.size := by rw [← htcs]; rfl
  have hto : tcs.all (·.oneCell') = true := by rw [← htcs]; exact kc_one t
  rw [htcs] at HP
  have HT0 := hid htc0
  have HT3 := hid htc3
  have HTS := hid htsz
  have HT5 := hid ht5
  have HTO := hid hto
  clear y ht hKD hTX htcs htc0 htc3 htsz ht5 hto
  go_enter Tryz.func48, Tryz.ntmps48
  go_wp2_with fail
  refine HP.out.mono ?_
  rintro e w1 ⟨rfl, hb1⟩
  go_upto_region 2 with (refine wpList_store_box rfl 40 (.tmp 3) (.tmp 5) rfl w1.heap.size tcs rfl rfl 40 _ (Box.new w1 _ _) HTS.out HT5.out HTO.out ?_; intro w2 hx2 hu2 hz2; have HZ2 := hid hz2; clear hz2)
  have hb2 : Below w1.heap.size w1 w2 := ((Below.refl _ w1).alloc (Nat.le_refl _) _).trans (hu2.own (Nat.le_refl _) (by simp))
  have HB2 := hid ((HB.out.below hb1 HB.out.lt).below hb2 (HB.out.below hb1 HB.out.lt).lt)
  have HU2 := hid (hb1.trans (hb2.mono hb1.size))
  have k0 := (hx2.cell 0).trans HT0.out
  have k3 := (hx2.cell 3).trans HT3.out
  have kb := HB2.out.cell 1
  simp [pc] at kb
  have kf : w2.frozen? ⟨b, 1, none⟩ = false := HB2.out.frozen 1
  have wk : IntKind.i64.wrap ((k : Int) + 1) = (k : Int) + 1 := by rw [IntKind.wrap_i64]; omega
  have hne : b ≠ w1.heap.size := by have := hb1.size; omega
  have hne2 : w1.heap.size ≠ b := fun e => hne e.symm
  clear hb1 hb2 hu2 hx2
  by_cases y1 : KD = 1
  ·subst y1
   go_wp2
   go_ret
   have hB3 := HB2.out.set 1 (.int .i64 ((k : Int) + 1))
   exact .inl ⟨t, HT.out, HKD.out, HY.out, by rw [HTX.out] <;> rfl, hB3, (Upd.below HU2.out b).set (.inl rfl) _⟩
  ·have n1 : ((KD : Int) != 1) = true := by rw [bne_iff_ne]; omega
   have HY1 := hid y1
   clear y1
   go_wp2
   exact ⟨rfl, .inr ⟨fun t' ht' => by rw [HT.out] at ht'; injection ht' with ht'; rw [← ht', HKD.out]; exact HY1.out, rfl, Upd.below HU2.out b⟩⟩
 ·have HH : Hid (here ts k = #[.int .i64 0, .int .i64 0, .int .i64 0, .string ⟨#[]⟩, .int .i64 0]) := hid (by unfold here; rw [List.getElem?_eq_none (by omega)])
  have HN : Hid (ts[k]? = none) := hid (List.getElem?_eq_none (by omega))
  rw [HH.out] at HP
  clear y
  go_enter Tryz.func48, Tryz.ntmps48
  go_wp2_with fail
  refine HP.out.mono ?_
  rintro e w1 ⟨rfl, hb1⟩
  go_upto_region 2 with (refine wpList_store_box rfl 40 (.tmp 3) (.tmp 5) rfl w1.heap.size #[.int .i64 0, .int .i64 0, .int .i64 0, .string ⟨#[]⟩, .int .i64 0] rfl rfl 40 _ (Box.new w1 _ _) info_tok rfl tz_one ?_; intro w2 hx2 hu2 hz2; have HZ2 := hid hz2; clear hz2)
  have hb2 : Below w1.heap.size w1 w2 := ((Below.refl _ w1).alloc (Nat.le_refl _) _).trans (hu2.own (Nat.le_refl _) (by simp))
  have HU2 := hid (hb1.trans (hb2.mono hb1.size))
  have k0 := hx2.cell 0
  simp at k0
  clear hb1 hb2 hu2 hx2
  go_wp2
  exact ⟨rfl, .inr ⟨fun t' ht' => by rw [HN.out] at ht'; exact absurd ht' (by simp), rfl, Upd.below HU2.out b⟩⟩
end Go.Proofs.YtonjdlialejedaaGreatDoor
namespace Pars
open Lexy (Tk)
theorem is_some {s : Bs} {l r : List Tk} (h : is s l = some r) : (∃ t, l = t :: r ∧ (t.kind = 4 ∨ t.kind = 5) ∧ t.text = s) ∧ ∀ m, is s (l ++ m) = some (r ++ m) := by
 cases l with
 | nil => simp [is] at h
 | cons t l =>
  simp only [is] at h
  by_cases hc : (t.kind = 4 ∨ t.kind = 5) ∧ t.text = s
  ·rw [if_pos hc] at h
   injection h with h
   subst h
   exact ⟨⟨t, rfl, hc⟩, fun m => by simp only [List.cons_append, is]; rw [if_pos hc]⟩
  ·rw [if_neg hc] at h; cases h
theorem is_none {s : Bs} {l : List Tk} (h : is s l = none) (hl : l ≠ []) (m : List Tk) : is s (l ++ m) = none := by
 cases l with
 | nil => exact absurd rfl hl
 | cons t l =>
  simp only [is] at h
  by_cases hc : (t.kind = 4 ∨ t.kind = 5) ∧ t.text = s
  ·rw [if_pos hc] at h; cases h
  ·simp only [List.cons_append, is]
   rw [if_neg hc]
theorem any_some {ss : List Bs} {s : Bs} {l r : List Tk} (h : anyOf ss l = some (s, r)) : (∃ t, l = t :: r) ∧ ∀ m, anyOf ss (l ++ m) = some (s, r ++ m) := by
 induction ss with
 | nil => simp [anyOf] at h
 | cons a ss ih =>
  unfold anyOf at h
  cases hi : is a l with
  | none =>
   rw [hi] at h
   obtain ⟨h1, h2⟩ := ih h
   refine ⟨h1, fun m => ?_⟩
   unfold anyOf
   rw [is_none hi (by obtain ⟨t, rfl⟩ := h1; simp) m]
   exact h2 m
  | some r' =>
   rw [hi] at h
   injection h with h
   injection h with h1 h2
   subst h1 h2
   obtain ⟨⟨t, h3, _⟩, h4⟩ := is_some hi
   exact ⟨⟨t, h3⟩, fun m => by unfold anyOf; rw [h4 m]⟩
end Pars
namespace Pars
open Lexy (Tk)
def Short (s : Bool) (p : List Tk → R) : Prop := ∀ l x r, p l = some (x, r) → r.length ≤ l.length ∧ (s = true → r.length < l.length)
theorem Short.weak {s : Bool} {p : List Tk → R} (h : Short s p) : Short false p := fun l x r e => ⟨(h l x r e).1, fun h => by cases h⟩
theorem short_none (s : Bool) : Short s (fun _ => none) := fun l x r h => by cases h
theorem short_pure (x : Node) : Short false (fun l => some (x, l)) := fun l y r h => by
 injection h with h; injection h with h1 h2; subst h2; exact ⟨Nat.le_refl _, fun h => by cases h⟩
theorem short_alt {s : Bool} {w : Bs} {f g : List Tk → R} (hf : Short false f) (hg : Short s g) : Short s (fun l => alt w l f (g l)) := by
 intro l x r h
 cases hi : is w l with
 | none => simp only [alt, hi] at h; exact hg l x r h
 | some l' =>
  simp only [alt, hi] at h
  obtain ⟨⟨t, ht, _⟩, _⟩ := is_some hi
  have := (hf l' x r h).1
  subst ht
  exact ⟨by simp; omega, fun _ => by simp; omega⟩
theorem short_must {s : Bool} {w : Bs} {f : List Tk → R} (hf : Short false f) : Short s (fun l => must w l f) := short_alt hf (short_none _)
theorem short_tok {s : Bool} {k : Nat} {f : Tk → List Tk → R} {g : List Tk → R} (hf : ∀ t, Short false (f t)) (hg : Short s g) : Short s (fun l => tok k l f (g l)) := by
 intro l x r h
 cases l with
 | nil => exact hg [] x r h
 | cons t l =>
  simp only [tok] at h
  by_cases hk : t.kind = k
  ·rw [if_pos hk] at h
   have := (hf t l x r h).1
   exact ⟨by simp; omega, fun _ => by simp; omega⟩
  ·rw [if_neg hk] at h; exact hg _ x r h
theorem short_named {s : Bool} {f : Bs → List Tk → R} (hf : ∀ n, Short false (f n)) : Short s (fun l => named l f) := short_tok (fun t => hf t.text) (short_none _)
theorem short_and {s : Bool} {p : List Tk → R} {q : Node → List Tk → R} (hp : Short s p) (hq : ∀ x, Short false (q x)) : Short s (fun l => andThen (p l) q) := by
 intro l x r h
 cases hi : p l with
 | none => simp only [andThen, hi] at h; cases h
 | some y =>
  obtain ⟨y, l1⟩ := y
  simp only [andThen, hi] at h
  have h1 := hp l y l1 hi
  have h2 := (hq y l1 x r h).1
  exact ⟨by omega, fun hs => by have := h1.2 hs; omega⟩
theorem short_signs {s : Bool} {ss : List Bs} {f : Bs → List Tk → R} {g : List Tk → R} (hf : ∀ n, Short false (f n)) (hg : Short s g) : Short s (fun l => signs ss l f (g l)) := by
 intro l x r h
 cases hi : anyOf ss l with
 | none => simp only [signs, hi] at h; exact hg l x r h
 | some y =>
  obtain ⟨w, l'⟩ := y
  simp only [signs, hi] at h
  obtain ⟨⟨t, ht⟩, _⟩ := any_some hi
  have := (hf w l' x r h).1
  subst ht
  exact ⟨by simp; omega, fun _ => by simp; omega⟩
theorem short_peek {s : Bool} {w : Bs} {a b : List Tk → R} (ha : Short s a) (hb : Short s b) : Short s (fun l => peek w l (a l) (b l)) := by
 intro l x r h
 cases l with
 | nil => exact hb [] x r h
 | cons t l =>
  simp only [peek] at h
  by_cases hk : t.kind = 4 ∧ t.text = w
  ·rw [if_pos hk] at h; exact ha _ x r h
  ·rw [if_neg hk] at h; exact hb _ x r h
theorem short_sep {more : Bool} {f : List Tk → R} (hf : Short false f) : Short false (fun l => sep more l f) := by
 cases more
 ·exact hf
 ·exact (short_must (s := false) hf)
theorem short_ite {s : Bool} {c : Prop} [Decidable c] {p q : List Tk → R} (hp : Short s p) (hq : Short s q) : Short s (fun l => if c then p l else q l) := by
 by_cases h : c
 ·simpa [h] using hp
 ·simpa [h] using hq
def passes : Nt → Bool
 | .binGo _ _ => false
 | .post _ => false
 | .some _ _ _ _ => false
 | _ => true
theorem run_short : ∀ n nt fn lp, Short (passes nt) (fun l => run n nt fn lp l)
 | 0, nt, fn, lp => by simp only [run]; exact short_none _
 | n + 1, nt, fn, lp => by
  have ih : ∀ nt fn lp, passes nt = true → Short true (fun l => run n nt fn lp l) := fun nt fn lp h => by have := run_short n nt fn lp; rw [h] at this; exact this
  have iw : ∀ nt fn lp, Short false (fun l => run n nt fn lp l) := fun nt fn lp => (run_short n nt fn lp).weak
  cases nt <;> simp only [run, passes] <;>
  repeat' first
   | exact ih _ _ _ rfl
   | exact iw _ _ _
   | exact short_none _
   | exact short_pure _
   | (refine short_must ?_)
   | (refine short_named fun _ => ?_)
   | (refine short_alt ?_ ?_)
   | (refine short_and ?_ fun _ => ?_)
   | (refine short_tok (fun _ => ?_) ?_)
   | (refine short_signs (fun _ => ?_) ?_)
   | (refine short_peek ?_ ?_)
   | (refine short_sep ?_)
   | (refine short_ite ?_ ?_)
theorem run_passes {n : Nat} {nt : Nt} {fn lp : Bool} {l r : List Tk} {x : Node} (h : run n nt fn lp l = some (x, r)) (hp : passes nt = true) : r.length < l.length := (run_short n nt fn lp l x r h).2 hp
theorem must_some {s : Bs} {l r : List Tk} {f : List Tk → R} (h : is s l = some r) : must s l f = f r := by simp only [must, alt, h]
theorem must_no {s : Bs} {l : List Tk} {f : List Tk → R} (h : is s l = none) : must s l f = none := by simp only [must, alt, h]
theorem alt_some {s : Bs} {l r : List Tk} {f : List Tk → R} {g : R} (h : is s l = some r) : alt s l f g = f r := by simp only [alt, h]
theorem alt_no {s : Bs} {l : List Tk} {f : List Tk → R} {g : R} (h : is s l = none) : alt s l f g = g := by simp only [alt, h]
theorem and_some {p : R} {x : Node} {l : List Tk} {f : Node → List Tk → R} (h : p = some (x, l)) : andThen p f = f x l := by simp only [andThen, h]
theorem and_no {p : R} {f : Node → List Tk → R} (h : p = none) : andThen p f = none := by simp only [andThen, h]
end Pars
