/-
  Texts that the law leans on: PmE, PmG. Conditions: as each says.
-/
import Derived.Test.YtonjdlialejedaaGreatDoorXAf
import Derived.Test.YtonjdlialejedaaGreatDoorXAa
set_option linter.unusedSimpArgs false
set_option linter.unusedVariables false
namespace Go.Proofs.YtonjdlialejedaaGreatDoor
open Go.Lib (hid)
open Go.RowKit
structure KO (w : World) (B oa : Nat) (l : List Pars.Node) (v : Value) : Prop where
 ne : v.ownBlock ≠ some oa
 row : ∃ css, w.ownsRow B 24 4 v l.length (flatA css) ∧ NodesAt w (fun g => B ≤ g ∧ g ≠ oa ∧ v.ownBlock ≠ some g) l css
section
variable {w w1 : World} {B oa : Nat} {l : List Pars.Node} {v : Value}
theorem KO.nil (w : World) (B oa : Nat) : KO w B oa [] (.slice none 0 0) := ⟨by simp [Value.ownBlock], [], World.ownsRow_nil _ _ _ _, by unfold NodesAt; trivial⟩
theorem KO.below (h : KO w B oa l v) (hb : Below w.heap.size w w1) : KO w1 B oa l v := by
 obtain ⟨css, h1, h2⟩ := h.row
 exact ⟨h.ne, css, own_below h1 hb, NodesAt.keep (fun _ h _ => h) hb.size (fun g _ hg => hb.block g hg) h2⟩
theorem KO.upd {r : Nat} (h : KO w B oa l v) (hu : Upd w w1 r) (hr : r < B) : KO w1 B oa l v := by
 obtain ⟨css, h1, h2⟩ := h.row
 refine ⟨h.ne, css, own_far h1 hu hr, NodesAt.keep (fun _ h _ => h) hu.size (fun g hs hg => hu.block g hg (by intro e; injection e with e; omega)) h2⟩
theorem KO.self (h : KO w B oa l v) (hu : Upd w w1 oa) : KO w1 B oa l v := by
 obtain ⟨css, h1, h2⟩ := h.row
 refine ⟨h.ne, css, own_grown h1 hu (.inr h.ne), NodesAt.keep (fun _ h _ => h) hu.size (fun g hs hg => hu.block g hg (by intro e; injection e with e; exact hs.2.1 e)) h2⟩
theorem KO.node (h : KO w B oa l v) (k n : Int) (t : List UInt8) : NodeAt w (fun g => B ≤ g ∧ g ≠ oa) (.mk k n t l) (nc k n t v) := by
 obtain ⟨css, h1, h2⟩ := h.row
 have hlt := h1.lt
 obtain ⟨A, cap, e, h3, h4, h5⟩ := Rd.own h1
 have hne := h.ne
 subst e
 unfold NodeAt
 refine ⟨A, cap, css, rfl, h3, h4, fun hl => ?_, NodesAt.keep (fun g h _ => ⟨h.1, h.2.1⟩) (Nat.le_refl _) (fun _ _ _ => rfl) h2⟩
 obtain ⟨g, o, rfl, hg, hr⟩ := h5 hl
 exact ⟨g, o, rfl, ⟨(hlt g rfl).1, fun e => hne (by rw [← e]; rfl)⟩, hg, hr⟩
theorem KO.snoc {x : Pars.Node} {cs : Array Value} {g cap : Nat} (h : KO w B oa l v) (css : List (Array Value)) (hrow : w.ownsRow B 24 4 v l.length (flatA css)) (hk : NodesAt w (fun g => B ≤ g ∧ g ≠ oa ∧ v.ownBlock ≠ some g) l css)
    (hn : NodeAt w (fun g => B ≤ g ∧ g ≠ oa ∧ v.ownBlock ≠ some g) x cs) (hown : w1.ownsRow B 24 4 (.slice (some ⟨g, 0, none⟩) (l.length + 1) cap) (l.length + 1) (flatA css ++ cs.toList)) (hgr : w.grownBy w1 v.ownBlock) (hor : v.ownBlock = some g ∨ g = w.heap.size) (hoa : oa < w.heap.size) : KO w1 B oa (l ++ [x]) (.slice (some ⟨g, 0, none⟩) (l.length + 1) cap) := by
  have hne : g ≠ oa := by
    rcases hor with e | e
    · intro e2; exact h.ne (by rw [e, e2])
    · omega
  refine ⟨by simp only [Value.ownBlock]; intro e; injection e with e; exact hne e, css ++ [cs], ?_, ?_⟩
  · rw [flatA_append, List.length_append]
    simpa [flatA] using hown
  · refine NodesAt.snoc (NodeAt.keep ?_ hgr.size ?_ hn) (NodesAt.keep ?_ hgr.size ?_ hk)
    all_goals first
      | (intro g' hs hg; exact hgr.block g' hg (fun e => hs.2.2 e.symm))
      | (intro g' hs hg
         refine ⟨hs.1, hs.2.1, ?_⟩
         simp only [Value.ownBlock]
         intro e
         injection e with e
         rcases hor with e2 | e2
         · exact hs.2.2 (by rw [e2, e])
         · omega)
end
theorem PSt.belowB {w w1 : World} {B b : Nat} {ts : List KT} {A : Option Addr} {c k : Nat} {fn lp : Bool} (h : PSt w b ts A c k fn lp) (hb : Below B w w1) (hbB : b < B) (hA : 0 < ts.length → ∀ g o, A = some ⟨g, o, none⟩ → g < B) : PSt w1 b ts A c k fn lp := by
 refine ⟨(hb.block b hbB).trans h.box, ?_, h.kle, h.ne, h.len⟩
 obtain ⟨A', cap, e, h1, h2, h3⟩ := h.ks
 refine ⟨A', cap, e, h1, h2, fun hn => ?_⟩
 obtain ⟨g, o, rfl, hg, hr⟩ := h3 hn
 injection e with e _ _
 have hgB := hA hn g o e
 have hz := hb.size
 refine ⟨g, o, rfl, by omega, fun i u hi => ?_⟩
 rw [hb.cell (p := ⟨g, o + i, none⟩) hgB]
 exact hr i u hi
theorem PSt.old {w : World} {b : Nat} {ts : List KT} {A : Option Addr} {c k : Nat} {fn lp : Bool} (h : PSt w b ts A c k fn lp) : 0 < ts.length → ∀ g o, A = some ⟨g, o, none⟩ → g < w.heap.size := by
 intro hn g o e
 obtain ⟨A', cap, e1, h1, h2, h3⟩ := h.ks
 injection e1 with e1 _ _
 obtain ⟨g', o', e2, hg, hr⟩ := h3 hn
 rw [e] at e1
 rw [← e1] at e2
 injection e2 with e2
 injection e2 with e2
 omega
theorem Upd.belowB {w w1 w2 : World} {b B : Nat} (h : Upd w w1 b) (hb : Below B w1 w2) (hB : w.heap.size ≤ B) : Upd w w2 b :=
 ⟨hb.os.trans h.os, hb.tape.trans h.tape, hb.output.trans h.output, Nat.le_trans h.size hb.size, fun i hi hn => (hb.block i (by omega)).trans (h.block i hi hn)⟩
theorem parts_nod : (Tryz.prog.info? 24).map (fun i => (i.zero, i.size, i.bytes)) = some (some (.agg #[.int .i64 0, .int .i64 0, .string ⟨#[]⟩, .slice none 0 0]), 4, 56) := by kernel_rfl
end Go.Proofs.YtonjdlialejedaaGreatDoor
namespace Go.Proofs.YtonjdlialejedaaGreatDoor
open Go.Lib (hid)
open Go.RowKit
theorem nc_one (k n : Int) (t : List UInt8) {v : Value} (hv : v.oneCell' = true) : (nc k n t v).all (·.oneCell') = true := by
 rw [Array.all_eq_true']
 intro u hu
 simp only [nc, List.mem_toArray, List.mem_cons, List.not_mem_nil, or_false] at hu
 rcases hu with rfl | rfl | rfl | rfl
 ·rfl
 ·rfl
 ·rfl
 ·exact hv
theorem nc_own {w : World} {B oa : Nat} {l : List Pars.Node} {v : Value} (k n : Int) (t : List UInt8) (h : KO w B oa l v) : (nc k n t v).all (·.oneCell') = true := by
 obtain ⟨css, h1, _⟩ := h.row
 exact nc_one k n t (own_one h1)
set_option maxRecDepth 100000 in
set_option maxHeartbeats 4000000 in
theorem ifs_step {n : Nat} (h : All n) : ∀ {w : World} {b : Nat} {ts : List KT} {A : Option Addr} {c k : Nat} {fn lp : Bool}, PSt w b ts A c k fn lp → 20 * (ts.length - k) + 2 < n + 1 → Calls Tryz.prog 53 #[.pointer (some ⟨b, 0, none⟩)] w (Got w b ts A c k fn lp (Pars.run (n + 1) .ifs fn lp (left ts k))) := by
 intro w b ts A c k fn lp hP hm
 obtain ⟨i0, hi0, hi1, hi2, hi3⟩ := info_parts parts_nod
 have HAB := hid hP.old
 have HR : Hid (Pars.run (n + 1) .ifs fn lp (left ts k) = _) := hid (by rw [Pars.run])
 have hbl := hP.box.lt
 have hle := hP.kle
 go_enter Tryz.func53, Tryz.ntmps53
 go_upto_region 1 with fail
 refine gen_world (F := fun W => Box W w.heap.size 24 #[.int .i64 0, .int .i64 0, .string ⟨#[]⟩, .slice none 0 0] ∧ Below w.heap.size w W) ⟨Box.new w _ _, below1 w _⟩ ?_
 rintro W0 ⟨r0, hU⟩
 have RB := hid r0
 have HP := hid (hP.below hU)
 have HU : Hid (Upd w W0 b) := hid (Upd.below hU b)
 have HZ : Hid (w.heap.size < W0.heap.size) := hid r0.lt
 have hz0 := r0.lt
 have HZW : Hid (W0.heap.size ≤ W0.heap.size) := hid (Nat.le_refl _)
 clear r0 hU hP
 go_wp2_with fail
 refine (h.inner HP.out (by omega)).mono ?_
 rintro e w1 (⟨x1, k1, cs1, hr, hk1, hk2, rfl, hn, hx, hu⟩ | ⟨hr, rfl, hu⟩)
 rotate_left
 ·exact ⟨rfl, .inr ⟨HR.out.trans (Pars.and_no hr), rfl, HU.out.trans hu⟩⟩
 have hlt1 := got_lt hr rfl
 replace HR := hid (HR.out.trans (Pars.and_some hr))
 have HN1 : Hid (NodeAt _ (fun g => W0.heap.size ≤ g) x1 cs1) := hid (hn.weak (fun g hg => by have := HZW.out; omega))
 have hcs1 : (Tryz.prog.info? 24).map (·.size) = some cs1.size := by rw [NodeAt.size hn]; exact info_nod
 have h41 : (4 : Nat) = cs1.size := (NodeAt.size hn).symm
 have hone1 := NodeAt.one hn
 have HCS1 := hid hcs1
 have H41 := hid h41
 have HONE1 := hid hone1
 replace RB := bg RB hu
 replace HP := hid (HP.out.upd hx hu (by omega))
 replace HU := hid (HU.out.trans hu)
 replace HZW := hid (Nat.le_trans HZW.out hu.size)
 clear hr hn hx hu hcs1 h41 hone1
 have hle1 := HP.out.kle
 obtain ⟨v1, hlit, hvo⟩ := NodeAt.lit HN1.out
 rw [hlit] at HN1 HCS1 H41 HONE1 ⊢
 have HVO1 := hid hvo
 clear hlit hvo
 go_wp2_with fail
 refine (h.block HP.out (by omega)).mono ?_
 rintro e w2 (⟨x2, k2, cs2, hr, hk1, hk2, rfl, hn, hx, hu⟩ | ⟨hr, rfl, hu⟩)
 rotate_left
 ·exact ⟨rfl, .inr ⟨HR.out.trans (Pars.and_no hr), rfl, HU.out.trans hu⟩⟩
 have hlt2 := got_lt hr rfl
 replace HR := hid (HR.out.trans (Pars.and_some hr))
 have HN2 : Hid (NodeAt _ (fun g => W0.heap.size ≤ g) x2 cs2) := hid (hn.weak (fun g hg => by have := HZW.out; omega))
 have hcs2 : (Tryz.prog.info? 24).map (·.size) = some cs2.size := by rw [NodeAt.size hn]; exact info_nod
 have h42 : (4 : Nat) = cs2.size := (NodeAt.size hn).symm
 have hone2 := NodeAt.one hn
 have HCS2 := hid hcs2
 have H42 := hid h42
 have HONE2 := hid hone2
 replace RB := bg RB hu
 replace HN1 := hid (HN1.out.upd hu (fun g hg => by first | omega | (simp only at hg; omega)))
 replace HP := hid (HP.out.upd hx hu (by omega))
 replace HU := hid (HU.out.trans hu)
 replace HZW := hid (Nat.le_trans HZW.out hu.size)
 clear hr hn hx hu hcs2 h42 hone2
 have hle2 := HP.out.kle
 obtain ⟨v2, hlit, hvo⟩ := NodeAt.lit HN2.out
 rw [hlit] at HN2 HCS2 H42 HONE2 ⊢
 have HVO2 := hid hvo
 clear hlit hvo
 have hoz : W0.heap.size ≤ w2.heap.size := HZW.out
 have hb1 : Below w2.heap.size w2 (w2.alloc (.cells #[.int .i64 x1.kind, .int .i64 x1.num, .string (byt x1.text), v1, .int .i64 x2.kind, .int .i64 x2.num, .string (byt x2.text), v2] 24)) := below1 w2 _
 have HNB : Hid (Box ((w2.alloc (.cells #[.int .i64 x1.kind, .int .i64 x1.num, .string (byt x1.text), v1, .int .i64 x2.kind, .int .i64 x2.num, .string (byt x2.text), v2] 24)).alloc (.cells #[.int .i64 0, .int .i64 0, .string ⟨#[]⟩, .slice none 0 0] 24)) (w2.heap.size + 1) 24 #[.int .i64 0, .int .i64 0, .string ⟨#[]⟩, .slice none 0 0]) := hid (by have := Box.new (w2.alloc (.cells #[.int .i64 x1.kind, .int .i64 x1.num, .string (byt x1.text), v1, .int .i64 x2.kind, .int .i64 x2.num, .string (byt x2.text), v2] 24)) 24 #[.int .i64 0, .int .i64 0, .string ⟨#[]⟩, .slice none 0 0]; simpa using this)
 have HKB : Hid (Box ((w2.alloc (.cells #[.int .i64 x1.kind, .int .i64 x1.num, .string (byt x1.text), v1, .int .i64 x2.kind, .int .i64 x2.num, .string (byt x2.text), v2] 24)).alloc (.cells #[.int .i64 0, .int .i64 0, .string ⟨#[]⟩, .slice none 0 0] 24)) w2.heap.size 24 #[.int .i64 x1.kind, .int .i64 x1.num, .string (byt x1.text), v1, .int .i64 x2.kind, .int .i64 x2.num, .string (byt x2.text), v2]) := hid ((Box.new w2 _ _).alloc _)
 have HBB : Hid (Below w2.heap.size w2 ((w2.alloc (.cells #[.int .i64 x1.kind, .int .i64 x1.num, .string (byt x1.text), v1, .int .i64 x2.kind, .int .i64 x2.num, .string (byt x2.text), v2] 24)).alloc (.cells #[.int .i64 0, .int .i64 0, .string ⟨#[]⟩, .slice none 0 0] 24))) := hid (hb1.alloc (by simp) _)
 clear hb1
 go_upto_region 2 with (refine wpList_store_box rfl 24 (.tmp 3) (.tmp 9) rfl (w2.heap.size + 1) #[.int .i64 22, .int .i64 0, .string ⟨#[]⟩, .slice (some ⟨w2.heap.size, 0, none⟩) 2 2] rfl rfl 24 _ HNB.out info_nod rfl (nz_one _ _ _ _ _ _) ?_; intro w3 hx hv hz; have HZ3 := hid hz; clear hz)
 have hb : Below w2.heap.size w2 w3 := HBB.out.trans (hv.own (by omega) HBB.out.size)
 have hkb := Box.grown HKB.out hv (by intro h; injection h with h; omega)
 have OB := hid hx
 have hk1 : NodeAt w3 (fun g => W0.heap.size ≤ g ∧ g ≠ w2.heap.size + 1 ∧ (Value.slice (some ⟨w2.heap.size, 0, none⟩) 2 2).ownBlock ≠ some g) x1 #[.int .i64 x1.kind, .int .i64 x1.num, .string (byt x1.text), v1] := NodeAt.keep (fun g hs hg => ⟨hs, by omega, by simp only [Value.ownBlock]; intro e; injection e with e; omega⟩) hb.size (fun g _ hg => hb.block g hg) HN1.out
 have hk2 : NodeAt w3 (fun g => W0.heap.size ≤ g ∧ g ≠ w2.heap.size + 1 ∧ (Value.slice (some ⟨w2.heap.size, 0, none⟩) 2 2).ownBlock ≠ some g) x2 #[.int .i64 x2.kind, .int .i64 x2.num, .string (byt x2.text), v2] := NodeAt.keep (fun g hs hg => ⟨hs, by omega, by simp only [Value.ownBlock]; intro e; injection e with e; omega⟩) hb.size (fun g _ hg => hb.block g hg) HN2.out
 have KOF : Hid (KO w3 W0.heap.size (w2.heap.size + 1) [x1, x2] (Value.slice (some ⟨w2.heap.size, 0, none⟩) 2 2)) := hid ⟨by simp only [Value.ownBlock]; intro e; injection e with e; omega, [#[.int .i64 x1.kind, .int .i64 x1.num, .string (byt x1.text), v1], #[.int .i64 x2.kind, .int .i64 x2.num, .string (byt x2.text), v2]], box_own (cur := flatA [#[.int .i64 x1.kind, .int .i64 x1.num, .string (byt x1.text), v1], #[.int .i64 x2.kind, .int .i64 x2.num, .string (byt x2.text), v2]]) hoz hkb (Nat.le_refl _) (by decide) rfl rfl rfl, ⟨hk1, hk2, trivial⟩⟩
 replace RB := bl RB hb
 replace HP := hid (HP.out.below hb)
 replace HU := hid (HU.out.step hb)
 replace HZW := hid (Nat.le_trans HZW.out hb.size)
 clear hx hv hb hkb hk1 hk2 HNB HKB HBB
 go_wp2_with fail
 refine (is_any Pars.wElse _ b ts A c k2 fn lp HP.out).mono ?_
 rintro e w4 (⟨hi, hk, rfl, hx, hu⟩ | ⟨hi, rfl, hx, hu⟩)
 rotate_left
 ·replace HR := hid (HR.out.trans (Pars.alt_no hi))
  replace RB := bg RB hu
  replace OB := bg OB hu
  replace KOF := hid (KOF.out.upd hu (by omega))
  replace HP := hid (HP.out.upd hx hu (by omega))
  replace HU := hid (HU.out.trans hu)
  replace HZW := hid (Nat.le_trans HZW.out hu.size)
  clear hi hx hu
  have ob := OB.out
  go_wp2_with (first | (refine wpList_load_row rfl 24 (.tmp 3) rfl (w2.heap.size + 1) rfl _ (nc 22 0 [] (Value.slice (some ⟨w2.heap.size, 0, none⟩) 2 2)) (0, 0) _ ob Tryz.underlying24 rfl info_nod ?_) | (refine wpList_store_box rfl 24 (.tmp 2) (.tmp 28) rfl w.heap.size (nc 22 0 [] (Value.slice (some ⟨w2.heap.size, 0, none⟩) 2 2)) rfl rfl 24 _ RB.out info_nod rfl (nc_own _ _ _ KOF.out) ?_; intro wy hxz huz hzz; have HZZ := hid hzz; clear hzz))
  refine bodyPost_ret (results_box rfl _ _ w.heap.size 24 _ _ rfl hxz Tryz.underlying24 rfl info_nod) rfl ?_
  exact .inl ⟨.mk 22 0 [] ([x1, x2]), k2, _, HR.out, by omega, HP.out.kle, rfl, ((KOF.out.node 22 0 []).upd huz (fun g hg => by have := hg.1; omega)).weak (fun g hg => by have := hg.1; omega), Box.grown HP.out.box huz (by intro h; injection h with h; omega), Upd.fresh HU.out huz (Nat.le_refl _)⟩
 replace HR := hid (HR.out.trans (Pars.alt_some hi))
 replace RB := bg RB hu
 replace OB := bg OB hu
 replace KOF := hid (KOF.out.upd hu (by omega))
 replace HP := hid (HP.out.upd hx hu (by omega))
 replace HU := hid (HU.out.trans hu)
 replace HZW := hid (Nat.le_trans HZW.out hu.size)
 clear hi hx hu
 go_wp2_with fail
 refine (is_any Pars.wIf _ b ts A c (k2 + 1) fn lp HP.out).mono ?_
 rintro e w5 (⟨hi, hk', rfl, hx, hu⟩ | ⟨hi, rfl, hx, hu⟩)
 ·replace HR := hid (HR.out.trans (Pars.alt_some hi))
  replace RB := bg RB hu
  replace OB := bg OB hu
  replace KOF := hid (KOF.out.upd hu (by omega))
  replace HP := hid (HP.out.upd hx hu (by omega))
  replace HU := hid (HU.out.trans hu)
  replace HZW := hid (Nat.le_trans HZW.out hu.size)
  clear hi hx hu
  go_upto_region 4 with fail
  refine wp_region_until 5 (fun w' => Box w' (w2.heap.size + 1) 24 #[.int .i64 22, .int .i64 0, .string ⟨#[]⟩, Value.slice (some ⟨w2.heap.size, 0, none⟩) 2 2]) (by kernel_rfl) OB.out.drew (fun hHeld => ?_)
  obtain ⟨wd_3, hwd⟩ : ∃ wd_3, w5.drew = wd_3 := ⟨_, rfl⟩
  have hb : Below w5.heap.size w5 wd_3 := hwd ▸ (Below.refl _ w5).drew
  (try rw [hwd] at hHeld)
  (try rw [hwd])
  clear hwd hHeld
  replace RB := bl RB hb
  replace OB := bl OB hb
  replace KOF := hid (KOF.out.below hb)
  replace HP := hid (HP.out.below hb)
  replace HU := hid (HU.out.step hb)
  replace HZW := hid (Nat.le_trans HZW.out hb.size)
  clear hb
  refine tU (i := 0) (v := ?_) rfl ?_ (.inr OB.out) ?_
  rotate_left
  ·intro w hSw
   go_simp
   try (with_reducible rfl)
  (try simp only [Act.put, sq])
  refine tU (i := 2) (v := ?_) rfl ?_ (.inr OB.out) ?_
  rotate_left
  ·intro w hSw
   go_simp
   try (with_reducible rfl)
  (try simp only [Act.put, sq])
  refine tV (i := 1) (v := Value.slice (some ⟨w2.heap.size, 0, none⟩) 2 2) rfl ?_ OB.out ?_
  ·intro w hSw
   have c3 := hSw.cell 3
   simp at c3
   go_simp
  (try simp only [Act.put, sq])
  refine rdU 3 rfl fun K hK => ?_
  go_simp
  refine (h.ifs HP.out (by omega)).mono ?_
  rintro e wc_3 (⟨x3, k3, cs3, hr, hk1, hk2, rfl, hn, hx, hu⟩ | ⟨hr, rfl, hu⟩)
  rotate_left
  ·exact ⟨rfl, .inr ⟨HR.out.trans (Pars.and_no hr), rfl, HU.out.trans hu⟩⟩
  have hlt3 := got_lt hr rfl
  replace HR := hid (HR.out.trans (Pars.and_some hr))
  have hrl := KOF.out.row
  have HN3 : Hid (NodeAt wc_3 (fun g => W0.heap.size ≤ g ∧ g ≠ w2.heap.size + 1 ∧ (Value.slice (some ⟨w2.heap.size, 0, none⟩) 2 2).ownBlock ≠ some g) x3 cs3) := hid (hn.weak (fun g hg => ⟨by have := HZW.out; omega, by have := OB.out.lt; omega, fun e => by obtain ⟨_, ho, _⟩ := hrl; have := (ho.lt g e).2; omega⟩))
  clear hrl
  replace RB := bg RB hu
  replace OB := bg OB hu
  replace KOF := hid (KOF.out.upd hu (by omega))
  replace HP := hid (HP.out.upd hx hu (by omega))
  replace HU := hid (HU.out.trans hu)
  replace HZW := hid (Nat.le_trans HZW.out hu.size)
  clear hr hn hx hu
  obtain ⟨v3, hlit, hvo⟩ := NodeAt.lit HN3.out
  rw [hlit] at HN3 ⊢
  have HVO3 := hid hvo
  clear hlit hvo
  go_wp2_with fail
  refine hK.out _ _ (.inr OB.out) (fun hHeld => ?_)
  clear hK hHeld K
  (try simp only [Act.put, sq])
  refine rdU 4 rfl fun K hK => ?_
  go_simp
  have bxB := Box.new wc_3 24 #[.int .i64 x3.kind, .int .i64 x3.num, .string (byt x3.text), v3]
  have hb : Below wc_3.heap.size wc_3 (wc_3.alloc (.cells #[.int .i64 x3.kind, .int .i64 x3.num, .string (byt x3.text), v3] 24)) := below1 wc_3 _
  obtain ⟨wb_3, hwb⟩ : ∃ wb_3, (wc_3.alloc (.cells #[.int .i64 x3.kind, .int .i64 x3.num, .string (byt x3.text), v3] 24)) = wb_3 := ⟨_, rfl⟩
  rw [hwb] at bxB hb
  rw [hwb]
  clear hwb
  have BXB := hid bxB
  have HBA : Hid (wc_3.heap.size < wb_3.heap.size) := hid bxB.lt
  replace RB := bl RB hb
  replace OB := bl OB hb
  replace KOF := hid (KOF.out.below hb)
  replace HP := hid (HP.out.below hb)
  replace HU := hid (HU.out.step hb)
  replace HZW := hid (Nat.le_trans HZW.out hb.size)
  replace HN3 := hid (HN3.out.below hb)
  refine hK.out _ _ (.inr OB.out) (fun hHeld => ?_)
  clear hK hHeld K
  (try simp only [Act.put, sq])
  clear hb bxB
  refine rdU 5 rfl fun K hK => ?_
  obtain ⟨css, hrow, hkn⟩ := KOF.out.row
  have hll : 2 ≤ 1000 := by simp
  refine step_append_lies _ rfl (.tmp 15) (.tmp 18) 22 rfl W0.heap.size 24 i0 _ 4 56 Tryz.underlying22 hi0 hi1 hi2 hi3 rfl (by decide) (Value.slice (some ⟨w2.heap.size, 0, none⟩) 2 2) 2 (flatA css) (by simp [Act.eval, Act.put]) hrow ⟨wc_3.heap.size, 0, none⟩ 1 1 [.int .i64 x3.kind, .int .i64 x3.num, .string (byt x3.text), v3] (by simp [Act.eval, Act.put]) rfl (by exact World.news_of_block BXB.out) (by have hv := HVO3.out; intro u hu; simp only [List.mem_cons, List.not_mem_nil, or_false] at hu; rcases hu with rfl | rfl | rfl | rfl; rfl; rfl; rfl; exact hv) (by omega) (by unfold maxLen; omega) (by omega) HZW.out wb_3.heap.size rfl ?_
  intro g7_3 cap7_3 w7_3 hown7 hgr7 hor7 hlt7
  have hbB : Below W0.heap.size wb_3 w7_3 := below_grown hgr7 HZW.out (fun q hq => (hrow.lt q hq).1)
  have hob := OB.out.lt
  have KO7 : KO w7_3 W0.heap.size (w2.heap.size + 1) ([x1, x2] ++ [x3]) (Value.slice (some ⟨g7_3, 0, none⟩) 3 cap7_3) := KOF.out.snoc css hrow hkn HN3.out hown7 hgr7 hor7 hob
  replace OB := hid (Box.grown OB.out hgr7 (fun e => KOF.out.ne e.symm))
  replace RB := hid ((hbB.block _ (by omega)).trans RB.out)
  replace HP := hid (HP.out.belowB hbB (by omega) (fun hn g o e => by have := HAB.out hn g o e; omega))
  replace HU := hid (HU.out.belowB hbB (by omega))
  replace HZW := hid (Nat.le_trans HZW.out hbB.size)
  have KOG := hid KO7
  refine hK.out _ _ (.inl rfl) (fun hHeld => ?_)
  clear hK hHeld K
  (try simp only [Act.put, sq])
  clear hown7 hgr7 hor7 hlt7 hbB hrow hkn KO7 hob
  refine rdU 6 rfl fun K hK => ?_
  go_simp
  refine hK.out _ _ (.inl rfl) (fun hHeld => ?_)
  clear hK hHeld K
  (try simp only [Act.put, sq])
  refine rdU 7 rfl fun K hK => ?_
  have c3 := OB.out.cell 3
  have f3 : w7_3.frozen? ⟨w2.heap.size + 1, 3, none⟩ = false := OB.out.frozen 3
  simp at c3
  go_simp
  have hu8 : Upd w7_3 (w7_3.setCell ⟨w2.heap.size + 1, 3, none⟩ (Value.slice (some ⟨g7_3, 0, none⟩) 3 cap7_3)) (w2.heap.size + 1) := (Upd.refl _ _).set (.inl rfl) _
  have OB8 := OB.out.set 3 (Value.slice (some ⟨g7_3, 0, none⟩) 3 cap7_3)
  obtain ⟨wz_3, hwz⟩ : ∃ wz_3, (w7_3.setCell ⟨w2.heap.size + 1, 3, none⟩ (Value.slice (some ⟨g7_3, 0, none⟩) 3 cap7_3)) = wz_3 := ⟨_, rfl⟩
  rw [hwz] at hu8 OB8
  rw [hwz]
  clear hwz
  simp at OB8
  replace OB := hid OB8
  replace KOF := hid (KOG.out.self hu8)
  replace RB := bg RB hu8
  have hbo : Below w.heap.size w7_3 wz_3 := hu8.own (by omega) (by have := HU.out.size; omega)
  replace HP := hid (HP.out.belowB hbo (by omega) (fun hn g o e => HAB.out hn g o e))
  replace HU := hid (HU.out.belowB hbo (Nat.le_refl _))
  replace HZW := hid (Nat.le_trans HZW.out hu8.size)
  refine hK.out _ _ (.inl rfl) (fun hHeld => ?_)
  clear hK hHeld K
  (try simp only [Act.put, sq])
  clear hu8 OB8 hbo KOG BXB HBA c3 f3
  refine wpAnyU_done (by kernel_rfl) ?_ _
  have hle3 := HP.out.kle
  have ob := OB.out
  go_wp2_with (first | (refine wpList_load_row rfl 24 (.tmp 3) rfl (w2.heap.size + 1) rfl _ (nc 22 0 [] (Value.slice (some ⟨g7_3, 0, none⟩) 3 cap7_3)) (0, 0) _ ob Tryz.underlying24 rfl info_nod ?_) | (refine wpList_store_box rfl 24 (.tmp 2) (.tmp 28) rfl w.heap.size (nc 22 0 [] (Value.slice (some ⟨g7_3, 0, none⟩) 3 cap7_3)) rfl rfl 24 _ RB.out info_nod rfl (nc_own _ _ _ KOF.out) ?_; intro wy hxz huz hzz; have HZZ := hid hzz; clear hzz))
  refine bodyPost_ret (results_box rfl _ _ w.heap.size 24 _ _ rfl hxz Tryz.underlying24 rfl info_nod) rfl ?_
  exact .inl ⟨.mk 22 0 [] ([x1, x2] ++ [x3]), k3, _, HR.out, by omega, HP.out.kle, rfl, ((KOF.out.node 22 0 []).upd huz (fun g hg => by have := hg.1; omega)).weak (fun g hg => by have := hg.1; omega), Box.grown HP.out.box huz (by intro h; injection h with h; omega), Upd.fresh HU.out huz (Nat.le_refl _)⟩
 ·replace HR := hid (HR.out.trans (Pars.alt_no hi))
  replace RB := bg RB hu
  replace OB := bg OB hu
  replace KOF := hid (KOF.out.upd hu (by omega))
  replace HP := hid (HP.out.upd hx hu (by omega))
  replace HU := hid (HU.out.trans hu)
  replace HZW := hid (Nat.le_trans HZW.out hu.size)
  clear hi hx hu
  go_upto_region 5 with fail
  refine wp_region_until 5 (fun w' => Box w' (w2.heap.size + 1) 24 #[.int .i64 22, .int .i64 0, .string ⟨#[]⟩, Value.slice (some ⟨w2.heap.size, 0, none⟩) 2 2]) (by kernel_rfl) OB.out.drew (fun hHeld => ?_)
  obtain ⟨wd_3, hwd⟩ : ∃ wd_3, w5.drew = wd_3 := ⟨_, rfl⟩
  have hb : Below w5.heap.size w5 wd_3 := hwd ▸ (Below.refl _ w5).drew
  (try rw [hwd] at hHeld)
  (try rw [hwd])
  clear hwd hHeld
  replace RB := bl RB hb
  replace OB := bl OB hb
  replace KOF := hid (KOF.out.below hb)
  replace HP := hid (HP.out.below hb)
  replace HU := hid (HU.out.step hb)
  replace HZW := hid (Nat.le_trans HZW.out hb.size)
  clear hb
  refine tU (i := 0) (v := ?_) rfl ?_ (.inr OB.out) ?_
  rotate_left
  ·intro w hSw
   go_simp
   try (with_reducible rfl)
  (try simp only [Act.put, sq])
  refine tU (i := 2) (v := ?_) rfl ?_ (.inr OB.out) ?_
  rotate_left
  ·intro w hSw
   go_simp
   try (with_reducible rfl)
  (try simp only [Act.put, sq])
  refine tV (i := 1) (v := Value.slice (some ⟨w2.heap.size, 0, none⟩) 2 2) rfl ?_ OB.out ?_
  ·intro w hSw
   have c3 := hSw.cell 3
   simp at c3
   go_simp
  (try simp only [Act.put, sq])
  refine rdU 3 rfl fun K hK => ?_
  go_simp
  refine (h.block HP.out (by omega)).mono ?_
  rintro e wc_3 (⟨x3, k3, cs3, hr, hk1, hk2, rfl, hn, hx, hu⟩ | ⟨hr, rfl, hu⟩)
  rotate_left
  ·exact ⟨rfl, .inr ⟨HR.out.trans (Pars.and_no hr), rfl, HU.out.trans hu⟩⟩
  have hlt3 := got_lt hr rfl
  replace HR := hid (HR.out.trans (Pars.and_some hr))
  have hrl := KOF.out.row
  have HN3 : Hid (NodeAt wc_3 (fun g => W0.heap.size ≤ g ∧ g ≠ w2.heap.size + 1 ∧ (Value.slice (some ⟨w2.heap.size, 0, none⟩) 2 2).ownBlock ≠ some g) x3 cs3) := hid (hn.weak (fun g hg => ⟨by have := HZW.out; omega, by have := OB.out.lt; omega, fun e => by obtain ⟨_, ho, _⟩ := hrl; have := (ho.lt g e).2; omega⟩))
  clear hrl
  replace RB := bg RB hu
  replace OB := bg OB hu
  replace KOF := hid (KOF.out.upd hu (by omega))
  replace HP := hid (HP.out.upd hx hu (by omega))
  replace HU := hid (HU.out.trans hu)
  replace HZW := hid (Nat.le_trans HZW.out hu.size)
  clear hr hn hx hu
  obtain ⟨v3, hlit, hvo⟩ := NodeAt.lit HN3.out
  rw [hlit] at HN3 ⊢
  have HVO3 := hid hvo
  clear hlit hvo
  go_wp2_with fail
  refine hK.out _ _ (.inr OB.out) (fun hHeld => ?_)
  clear hK hHeld K
  (try simp only [Act.put, sq])
  refine rdU 4 rfl fun K hK => ?_
  go_simp
  have bxB := Box.new wc_3 24 #[.int .i64 x3.kind, .int .i64 x3.num, .string (byt x3.text), v3]
  have hb : Below wc_3.heap.size wc_3 (wc_3.alloc (.cells #[.int .i64 x3.kind, .int .i64 x3.num, .string (byt x3.text), v3] 24)) := below1 wc_3 _
  obtain ⟨wb_3, hwb⟩ : ∃ wb_3, (wc_3.alloc (.cells #[.int .i64 x3.kind, .int .i64 x3.num, .string (byt x3.text), v3] 24)) = wb_3 := ⟨_, rfl⟩
  rw [hwb] at bxB hb
  rw [hwb]
  clear hwb
  have BXB := hid bxB
  have HBA : Hid (wc_3.heap.size < wb_3.heap.size) := hid bxB.lt
  replace RB := bl RB hb
  replace OB := bl OB hb
  replace KOF := hid (KOF.out.below hb)
  replace HP := hid (HP.out.below hb)
  replace HU := hid (HU.out.step hb)
  replace HZW := hid (Nat.le_trans HZW.out hb.size)
  replace HN3 := hid (HN3.out.below hb)
  refine hK.out _ _ (.inr OB.out) (fun hHeld => ?_)
  clear hK hHeld K
  (try simp only [Act.put, sq])
  clear hb bxB
  refine rdU 5 rfl fun K hK => ?_
  obtain ⟨css, hrow, hkn⟩ := KOF.out.row
  have hll : 2 ≤ 1000 := by simp
  refine step_append_lies _ rfl (.tmp 22) (.tmp 25) 22 rfl W0.heap.size 24 i0 _ 4 56 Tryz.underlying22 hi0 hi1 hi2 hi3 rfl (by decide) (Value.slice (some ⟨w2.heap.size, 0, none⟩) 2 2) 2 (flatA css) (by simp [Act.eval, Act.put]) hrow ⟨wc_3.heap.size, 0, none⟩ 1 1 [.int .i64 x3.kind, .int .i64 x3.num, .string (byt x3.text), v3] (by simp [Act.eval, Act.put]) rfl (by exact World.news_of_block BXB.out) (by have hv := HVO3.out; intro u hu; simp only [List.mem_cons, List.not_mem_nil, or_false] at hu; rcases hu with rfl | rfl | rfl | rfl; rfl; rfl; rfl; exact hv) (by omega) (by unfold maxLen; omega) (by omega) HZW.out wb_3.heap.size rfl ?_
  intro g7_3 cap7_3 w7_3 hown7 hgr7 hor7 hlt7
  have hbB : Below W0.heap.size wb_3 w7_3 := below_grown hgr7 HZW.out (fun q hq => (hrow.lt q hq).1)
  have hob := OB.out.lt
  have KO7 : KO w7_3 W0.heap.size (w2.heap.size + 1) ([x1, x2] ++ [x3]) (Value.slice (some ⟨g7_3, 0, none⟩) 3 cap7_3) := KOF.out.snoc css hrow hkn HN3.out hown7 hgr7 hor7 hob
  replace OB := hid (Box.grown OB.out hgr7 (fun e => KOF.out.ne e.symm))
  replace RB := hid ((hbB.block _ (by omega)).trans RB.out)
  replace HP := hid (HP.out.belowB hbB (by omega) (fun hn g o e => by have := HAB.out hn g o e; omega))
  replace HU := hid (HU.out.belowB hbB (by omega))
  replace HZW := hid (Nat.le_trans HZW.out hbB.size)
  have KOG := hid KO7
  refine hK.out _ _ (.inl rfl) (fun hHeld => ?_)
  clear hK hHeld K
  (try simp only [Act.put, sq])
  clear hown7 hgr7 hor7 hlt7 hbB hrow hkn KO7 hob
  refine rdU 6 rfl fun K hK => ?_
  go_simp
  refine hK.out _ _ (.inl rfl) (fun hHeld => ?_)
  clear hK hHeld K
  (try simp only [Act.put, sq])
  refine rdU 7 rfl fun K hK => ?_
  have c3 := OB.out.cell 3
  have f3 : w7_3.frozen? ⟨w2.heap.size + 1, 3, none⟩ = false := OB.out.frozen 3
  simp at c3
  go_simp
  have hu8 : Upd w7_3 (w7_3.setCell ⟨w2.heap.size + 1, 3, none⟩ (Value.slice (some ⟨g7_3, 0, none⟩) 3 cap7_3)) (w2.heap.size + 1) := (Upd.refl _ _).set (.inl rfl) _
  have OB8 := OB.out.set 3 (Value.slice (some ⟨g7_3, 0, none⟩) 3 cap7_3)
  obtain ⟨wz_3, hwz⟩ : ∃ wz_3, (w7_3.setCell ⟨w2.heap.size + 1, 3, none⟩ (Value.slice (some ⟨g7_3, 0, none⟩) 3 cap7_3)) = wz_3 := ⟨_, rfl⟩
  rw [hwz] at hu8 OB8
  rw [hwz]
  clear hwz
  simp at OB8
  replace OB := hid OB8
  replace KOF := hid (KOG.out.self hu8)
  replace RB := bg RB hu8
  have hbo : Below w.heap.size w7_3 wz_3 := hu8.own (by omega) (by have := HU.out.size; omega)
  replace HP := hid (HP.out.belowB hbo (by omega) (fun hn g o e => HAB.out hn g o e))
  replace HU := hid (HU.out.belowB hbo (Nat.le_refl _))
  replace HZW := hid (Nat.le_trans HZW.out hu8.size)
  refine hK.out _ _ (.inl rfl) (fun hHeld => ?_)
  clear hK hHeld K
  (try simp only [Act.put, sq])
  clear hu8 OB8 hbo KOG BXB HBA c3 f3
  refine wpAnyU_done (by kernel_rfl) ?_ _
  have hle3 := HP.out.kle
  have ob := OB.out
  go_wp2_with (first | (refine wpList_load_row rfl 24 (.tmp 3) rfl (w2.heap.size + 1) rfl _ (nc 22 0 [] (Value.slice (some ⟨g7_3, 0, none⟩) 3 cap7_3)) (0, 0) _ ob Tryz.underlying24 rfl info_nod ?_) | (refine wpList_store_box rfl 24 (.tmp 2) (.tmp 28) rfl w.heap.size (nc 22 0 [] (Value.slice (some ⟨g7_3, 0, none⟩) 3 cap7_3)) rfl rfl 24 _ RB.out info_nod rfl (nc_own _ _ _ KOF.out) ?_; intro wy hxz huz hzz; have HZZ := hid hzz; clear hzz))
  refine bodyPost_ret (results_box rfl _ _ w.heap.size 24 _ _ rfl hxz Tryz.underlying24 rfl info_nod) rfl ?_
  exact .inl ⟨.mk 22 0 [] ([x1, x2] ++ [x3]), k3, _, HR.out, by omega, HP.out.kle, rfl, ((KOF.out.node 22 0 []).upd huz (fun g hg => by have := hg.1; omega)).weak (fun g hg => by have := hg.1; omega), Box.grown HP.out.box huz (by intro h; injection h with h; omega), Upd.fresh HU.out huz (Nat.le_refl _)⟩
end Go.Proofs.YtonjdlialejedaaGreatDoor
