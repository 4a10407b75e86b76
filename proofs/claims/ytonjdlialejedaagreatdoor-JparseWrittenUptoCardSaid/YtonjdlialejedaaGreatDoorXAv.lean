/-
  Texts that the law leans on: PmW, ParS, ParJ. Conditions: as each says.
-/
import Derived.Test.YtonjdlialejedaaGreatDoorXAu
import Derived.Test.YtonjdlialejedaaGreatDoorXAd
import Derived.Test.YtonjdlialejedaaGreatDoorXAa
set_option linter.unusedSimpArgs false
set_option linter.unusedVariables false
namespace Go.Proofs.YtonjdlialejedaaGreatDoor
open Go.Lib (hid)
open Go.RowKit
theorem PSt.far {w w1 : World} {b r : Nat} {ts : List KT} {A : Option Addr} {c k : Nat} {fn lp : Bool} (h : PSt w b ts A c k fn lp) (hu : Upd w w1 r) (hb : b ≠ r) (hA : 0 < ts.length → ∀ g o, A = some ⟨g, o, none⟩ → g ≠ r) : PSt w1 b ts A c k fn lp := by
 refine ⟨Box.grown h.box hu (by intro e; injection e with e; exact hb e), ?_, h.kle, h.ne, h.len⟩
 obtain ⟨A', cap, e, h1, h2, h3⟩ := h.ks
 refine ⟨A', cap, e, h1, h2, fun hn => ?_⟩
 obtain ⟨g, o, rfl, hg, hr⟩ := h3 hn
 injection e with e _ _
 have hz := hu.size
 refine ⟨g, o, rfl, by omega, fun i u hi => ?_⟩
 rw [World.cell?_of_block (hu.block g hg (by intro x; injection x with x; exact hA hn g o e x))]
 exact hr i u hi
structure Cello (P : Program) (w : World) (tmps : Array Value) (p : Tmp) (ty : TypeId) (v : Value) : Prop where
 out : ∃ a, tmps.getD p undef = .pointer (some a) ∧ (loadVar ty a).run P w = .ok v w
theorem Cello.mk' {w : World} {tmps : Array Value} {p : Tmp} (g : Nat) (t : Bool) (hp : tmps.getD p undef = .pointer (some ⟨g, 0, none⟩)) (hg : Box w g 4 #[.bool t]) : Cello Tryz.prog w tmps p 4 (.bool t) := ⟨⟨_, hp, by
 have := hg.cell 0
 simp at this
 simp [go_sem, this]⟩⟩
theorem results_bc {P : Program} {fn : Func} {tmps : Array Value} {w : World} {p1 p2 : Tmp} {ty1 ty2 : TypeId} {c1 : Array Value} {v2 : Value} (h : fn.results = #[.cell p1 ty1, .cell p2 ty2]) (h1 : Back P w tmps p1 ty1 c1) (h2 : Cello P w tmps p2 ty2 v2) : (results fn tmps).run P w = .ok (.tuple #[.agg c1, v2]) w := by
 obtain ⟨a1, e1, r1⟩ := h1.out
 obtain ⟨a2, e2, r2⟩ := h2.out
 simp only [Array.getD_eq_getD_getElem?] at e1 e2
 simp only [results, h]
 simp [Sem.run_bind, Result.andThen, e1, e2, asAddr, r1, r2]
theorem leaves_same {P : Program} {fn : Func} {t1 t2 : Array Value} {R : Ending → World → Prop} (he : ∀ w, (results fn t1).run P w = (results fn t2).run P w) : ∀ (ds : List Deferred) (u : FrameMode) (w : World), Leaves P fn t1 R ds u w → Leaves P fn t2 R ds u w
 | [], .returning, w, h => by obtain ⟨v, h1, h2⟩ := h; exact ⟨v, (he w).symm.trans h1, h2⟩
 | [], .panicking _, w, h => h
 | [], .run, _, h => h
 | d :: ds, u, w, h => by
  obtain ⟨h1, fv, cap, f, args, h2, h3, h4⟩ := h
  refine ⟨h1, fv, cap, f, args, h2, h3, h4.mono ?_⟩
  intro e u' w' h5
  cases e with
  | returned v => exact leaves_same he ds _ _ h5
  | panicked c => exact leaves_same he ds _ _ h5
  | outgrown => exact h5
theorem keep_door {R : Ending → World → Prop} {c : List PanicEntry} {a : Act} {w : World} {i : Nat} {v : Value} (h2 : i ≠ 2) (h3 : i ≠ 3) (h : bodyPostD Tryz.prog Tryz.f16 R (.panic c) (a.put (some i) v) w) : bodyPostD Tryz.prog Tryz.f16 R (.panic c) a w := by
 refine leaves_same (fun w => ?_) _ _ _ h
 have e2 : (a.tmps.setIfInBounds i v)[2]? = a.tmps[2]? := Array.getElem?_setIfInBounds_ne h2
 have e3 : (a.tmps.setIfInBounds i v)[3]? = a.tmps[3]? := Array.getElem?_setIfInBounds_ne h3
 simp [results, Tryz.results16, Act.put, e2, e3]
theorem fuel_left (ts : List KT) (k : Nat) : Pars.fuel (left ts k) = 20 * (ts.length - k) + 20 := by unfold Pars.fuel; rw [left_len]
theorem top_bad {ts : List KT} {k m : Nat} {acc : List Pars.Node} (hk : k < ts.length) (h : Pars.run (Pars.fuel (left ts k)) .statement false false (left ts k) = none) : Pars.top (m + 1) acc (left ts k) = none := by
 rw [left_cons (List.getElem?_eq_getElem hk)] at h ⊢
 simp only [Pars.top, h]
theorem top_good {ts : List KT} {k k2 m : Nat} {acc : List Pars.Node} {x : Pars.Node} (hk : k < ts.length) (h : Pars.run (Pars.fuel (left ts k)) .statement false false (left ts k) = some (x, left ts k2)) : Pars.top (m + 1) acc (left ts k) = Pars.top m (acc ++ [x]) (left ts k2) := by
 rw [left_cons (List.getElem?_eq_getElem hk)] at h ⊢
 simp only [Pars.top, h]
theorem tree_none {ts : List KT} (h : Pars.top ts.length [] (toks ts) = none) : Pars.tree (toks ts) = none := by unfold Pars.tree; rw [show (toks ts).length = ts.length by simp [toks], h]; rfl
def ReadOut (w : World) (ts : List KT) (e : Ending) (w' : World) : Prop :=
 (∃ l cs, Pars.tree (toks ts) = some (.mk 30 0 [] l) ∧ e = .returned (.tuple #[.agg cs, .bool true]) ∧ NodeAt w' (fun g => w.heap.size ≤ g) (.mk 30 0 [] l) cs ∧ l.length ≤ ts.length ∧ Below w.heap.size w w') ∨
 (Pars.tree (toks ts) = none ∧ e = .returned (.tuple #[.agg #[.int .i64 0, .int .i64 0, .string ⟨#[]⟩, .slice none 0 0], .bool false]) ∧ Below w.heap.size w w')
set_option maxRecDepth 100000 in
set_option maxHeartbeats 4000000 in
theorem read_any (w : World) (ts : List KT) (A : Option Addr) (c : Nat) (hks : KRd w ts (.slice A ts.length c)) (hlen : ts.length ≤ 1000) (hA : ∀ g o, A = some ⟨g, o, none⟩ → g < w.heap.size) :
  Calls Tryz.prog 16 #[.slice A ts.length c] w (ReadOut w ts) := by
 have hmf : ∀ (fn : Fn) (first cap : Array Value) (w : World), (Instr.makeFunc fn first cap).run Tryz.prog w = .ok (.func fn first cap) w := fun _ _ _ _ => rfl
 have HKS := hid hks
 have HA0 := hid hA
 clear hks hA
 go_enter_defers Tryz.func16, Tryz.ntmps16
 go_upto_region 3 with fail
 refine gen_world (F := fun W => Box W w.heap.size 24 #[.int .i64 0, .int .i64 0, .string ⟨#[]⟩, .slice none 0 0] ∧ Box W (w.heap.size + 1) 4 #[.bool false] ∧ Box W (w.heap.size + 1 + 1) 76 (pc (.slice A ts.length c) 0 false false) ∧ Below w.heap.size w W) ⟨((Box.new w _ _).alloc _).alloc _, (new2 w _ _ _).alloc _, new3 w _ _ _ _, ((below1 w _).alloc (by simp) _).alloc (by simp; omega) _⟩ ?_
 rintro W0 ⟨n0, k0, p0, hU⟩
 obtain ⟨i0, hi0, hi1, hi2, hi3⟩ := info_parts parts_nod
 obtain ⟨oa, hnb⟩ : ∃ q, w.heap.size = q := ⟨_, rfl⟩
 obtain ⟨B, hBe⟩ : ∃ q, W0.heap.size = q := ⟨_, rfl⟩
 have hwB : w.heap.size ≤ B := by have := hU.size; omega
 have HNB := hid hnb
 rw [hnb] at n0 k0 p0 ⊢
 have hpB : oa + 1 + 1 < B := by have := p0.lt; omega
 have hP : PSt W0 (oa + 1 + 1) ts A c 0 false false := ⟨p0, Rd.below HKS.out hU, Nat.zero_le _, fun g o e => by have := HA0.out g o e; omega, hlen⟩
 have HA : Hid (0 < ts.length → ∀ g o, A = some ⟨g, o, none⟩ → g < w.heap.size) := hid (fun _ => HA0.out)
 have hBw : B ≤ W0.heap.size := Nat.le_of_eq hBe.symm
 have hwoa : w.heap.size ≤ oa := by omega
 obtain ⟨b, hb⟩ : ∃ q, oa + 1 + 1 = q := ⟨_, rfl⟩
 have hbB : b < B := by omega
 have hkB : oa + 1 < B := by omega
 have hoab : oa < b := by omega
 have hkab : oa + 1 < b := by omega
 rw [hb] at hP p0 ⊢
 have OB := hid n0
 have KB := hid k0
 have HP := hid hP
 have HU := hid hU
 have HT : Hid (Pars.top ts.length [] (toks ts) = Pars.top ts.length [] (left ts 0)) := hid rfl
 clear hnb hBe hb hpB hP p0 n0 k0 hU HKS HA0
 have c0 := OB.out.cell 0
 have f0 : W0.frozen? ⟨oa, 0, none⟩ = false := OB.out.frozen 0
 simp at c0
 go_wp2
 refine gen_world (F := fun W => Box W oa 24 (nc 30 0 [] (.slice none 0 0)) ∧ Upd W0 W oa) ⟨OB.out.set 0 (.int .i64 30), (Upd.refl _ _).set (.inl rfl) _⟩ ?_
 rintro W1 ⟨hx, hu⟩
 have hb9 : Below w.heap.size W0 W1 := hu.own hwoa (by have := HU.out.size; omega)
 replace OB := hid hx
 replace KB := bg KB hu
 replace HP := hid (HP.out.far hu (by omega) (fun hn g o e => by have := HA.out hn g o e; omega))
 replace HU := hid (HU.out.trans hb9)
 replace hBw : B ≤ W1.heap.size := Nat.le_trans hBw hu.size
 have KOF := hid (KO.nil W1 B oa)
 clear hx hu hb9 c0 f0
 go_loopg [13] (ts.length) (fun gg s13 wr => ∃ (k' m : Nat) (acc : List Pars.Node) (kv : Value), ts.length - k' ≤ gg ∧ k' ≤ ts.length ∧ acc.length ≤ k' ∧ ts.length - k' ≤ m ∧ B ≤ wr.heap.size ∧ Hid (Box wr oa 24 (nc 30 0 [] kv)) ∧ Hid (Box wr (oa + 1) 4 #[.bool false]) ∧ Hid (KO wr B oa acc kv) ∧ Hid (PSt wr b ts A c k' false false) ∧ Hid (Below w.heap.size w wr) ∧ Hid (Pars.top ts.length [] (toks ts) = Pars.top m acc (left ts k')))
 case atStart => exact ⟨0, ts.length, [], _, by omega, Nat.zero_le _, Nat.le_refl _, by omega, hBw, OB, KB, KOF, HP, HU, HT⟩
 case round =>
  clear OB KB KOF HP HU HT hBw
  obtain ⟨k', m, acc, kv, hg, hkl, hal, hmm, hBw, OB, KB, KOF, HP, HU, HT⟩ := hrel
  obtain ⟨KA, kc, rfl⟩ := kv_slice KOF.out
  have kb := HP.out.box.cell 1
  simp [pc] at kb
  by_cases hkt : k' < ts.length
  ·have hkz : (k' : Int) < (ts.length : Int) := by omega
   have hkd : decide ((k' : Int) < (ts.length : Int)) = true := decide_eq_true hkz
   obtain ⟨m', rfl⟩ : ∃ m', m = m' + 1 := ⟨m - 1, by omega⟩
   go_upto_region 5 with fail
   clear kb hkz hkd
   refine wp_region_until 6 (fun w' => Box w' oa 24 (nc 30 0 [] (Value.slice KA acc.length kc))) (by kernel_rfl) OB.out.drew (fun hHeld => ?_)
   obtain ⟨wd, hwd⟩ : ∃ wd, wr.drew = wd := ⟨_, rfl⟩
   have hb : Below wr.heap.size wr wd := hwd ▸ (Below.refl _ wr).drew
   (try rw [hwd] at hHeld)
   (try rw [hwd])
   clear hwd hHeld
   replace OB := bl OB hb
   replace KOF := hid (KOF.out.below hb)
   replace HP := hid (HP.out.below hb)
   replace HU := hid (HU.out.trans (hb.mono (by have := HU.out.size; omega)))
   replace KB := bl KB hb
   replace hBw := Nat.le_trans hBw hb.size
   clear hb
   refine wpAnyU_takeY (i := 0) (v := ?_) (by decide) rfl (by kernel_rfl) (by intro _ _ _ h; exact keep_door (i := 17) (by decide) (by decide) h) (by kernel_rfl) (by kernel_rfl) (Or.inl ⟨by kernel_rfl, ?_⟩) (.inr OB.out) ?_
   rotate_left
   ·intro w hSw
    go_simp
    try (with_reducible rfl)
   (try simp only [Act.put, sq])
   refine wpAnyU_take (i := 1) (v := (Value.slice KA acc.length kc)) rfl (by kernel_rfl) (by kernel_rfl) (by kernel_rfl) (by kernel_rfl) (by kernel_rfl) (by intro _ _ _ h; exact keep_door (i := 18) (by decide) (by decide) h) (Or.inl ⟨by kernel_rfl, ?_⟩) OB.out ?_
   ·intro w hSw
    have c3 := hSw.cell 3
    simp [nc] at c3
    go_simp
   (try simp only [Act.put, sq])
   refine wpAnyU_takeY (i := 2) (v := ?_) (by decide) rfl (by kernel_rfl) (by intro _ _ _ h; exact keep_door (i := 19) (by decide) (by decide) h) (by kernel_rfl) (by kernel_rfl) (Or.inl ⟨by kernel_rfl, ?_⟩) (.inr OB.out) ?_
   rotate_left
   ·intro w hSw
    go_simp
    try (with_reducible rfl)
   (try simp only [Act.put, sq])
   refine wpAnyU_takeY (i := 4) (v := ?_) (by decide) rfl (by kernel_rfl) (by intro _ _ _ h; exact keep_door (i := 21) (by decide) (by decide) h) (by kernel_rfl) (by kernel_rfl) (Or.inl ⟨by kernel_rfl, ?_⟩) (.inr OB.out) ?_
   rotate_left
   ·intro w hSw
    go_simp
    try (with_reducible rfl)
   (try simp only [Act.put, sq])
   refine wpAnyU_ready (rs := [3, 5]) (by kernel_rfl) (by simp) ?_
   refine AllReadyU.cons rfl (fun K hK => ?_) (AllReadyU.cons rfl (fun K hK => ?_) AllReadyU.nil)
   focus
    go_simp
    refine ((all_any (Pars.fuel (left ts k'))).stmt HP.out (by rw [fuel_left]; omega)).mono ?_
    rintro e w5 (⟨x1, k2, cs1, hr, hk1, hk2, rfl, hn, hx, hu⟩ | ⟨hr, rfl, hu⟩)
    rotate_left
    ·have hnb := bg OB hu
     have hkb := bg KB hu
     have hbel := hid (HU.out.trans (hu.own (by omega) (by have := HU.out.size; omega)))
     have HN0 : Hid (Pars.tree (toks ts) = none) := hid (tree_none (HT.out.trans (top_bad hkt hr)))
     clear hr hu HT
     refine leaves_cons (f := 27) (args := #[.pointer (some ⟨oa, 0, none⟩), .pointer (some ⟨oa + 1, 0, none⟩)]) (by simp) (by simp [go_sem]) ?_
     refine (catch_slip oa (oa + 1) _ _ rfl false hnb.out hkb.out (by omega)).mono ?_
     rintro e u' w'' ⟨rfl, rfl, hx2, hk2, hb2⟩
     exact ⟨_, results_bc rfl (Back.mk' oa 24 _ rfl hx2 Tryz.underlying24 rfl info_nod) (.mk' (oa + 1) false rfl hk2), .inr ⟨HN0.out, rfl, hbel.out.trans (hb2 _ (by omega) (by omega))⟩⟩
    have hlt1 := got_lt hr rfl
    replace HT := hid (HT.out.trans (top_good hkt hr))
    have hrl := KOF.out.row
    have HN1 : Hid (NodeAt w5 (fun g => B ≤ g ∧ g ≠ oa ∧ (Value.slice KA acc.length kc).ownBlock ≠ some g) x1 cs1) := hid (hn.weak (fun g hg => ⟨by omega, by omega, fun e => by obtain ⟨_, ho, _⟩ := hrl; have := (ho.lt g e).2; omega⟩))
    clear hrl
    replace OB := bg OB hu
    replace KB := bg KB hu
    replace KOF := hid (KOF.out.upd hu hbB)
    replace HP := hid (HP.out.upd hx hu (by omega))
    replace HU := hid (HU.out.trans (hu.own (by omega) (by have := HU.out.size; omega)))
    replace hBw := Nat.le_trans hBw hu.size
    clear hr hn hx hu
    obtain ⟨v1, hlit, hvo⟩ := NodeAt.lit HN1.out
    rw [hlit] at HN1 ⊢
    have HVO1 := hid hvo
    clear hlit hvo
    go_wp2_with fail
    refine hK.out _ _ (.inr OB.out) (fun hHeld => ?_)
    clear hK hHeld K
    (try simp only [Act.put, sq])
    refine rdU 5 rfl fun K hK => ?_
    go_simp
    have bxB := Box.new w5 24 #[.int .i64 0, .int .i64 0, .string ⟨#[]⟩, .slice none 0 0]
    have hb : Below w5.heap.size w5 (w5.alloc (.cells #[.int .i64 0, .int .i64 0, .string ⟨#[]⟩, .slice none 0 0] 24)) := below1 w5 _
    obtain ⟨wc, hwb⟩ : ∃ wb, (w5.alloc (.cells #[.int .i64 0, .int .i64 0, .string ⟨#[]⟩, .slice none 0 0] 24)) = wb := ⟨_, rfl⟩
    rw [hwb] at bxB hb
    rw [hwb]
    clear hwb
    have BXB := hid bxB
    obtain ⟨zb, hzb⟩ : ∃ zb, w5.heap.size = zb := ⟨_, rfl⟩
    rw [hzb] at BXB ⊢
    have hzbB : B ≤ zb := hzb ▸ hBw
    replace OB := bl OB hb
    replace KOF := hid (KOF.out.below hb)
    replace HP := hid (HP.out.below hb)
    replace HN1 := hid (HN1.out.below hb)
    replace HU := hid (HU.out.trans (hb.mono (by have := HU.out.size; omega)))
    replace KB := bl KB hb
    replace hBw := Nat.le_trans hBw hb.size
    refine hK.out _ _ (.inr OB.out) (fun hHeld => ?_)
    clear hK hHeld K
    (try simp only [Act.put, sq])
    clear hb bxB hzb
   rotate_left
   focus
    go_simp
    have bxB := Box.new wd 24 #[.int .i64 0, .int .i64 0, .string ⟨#[]⟩, .slice none 0 0]
    have hb : Below wd.heap.size wd (wd.alloc (.cells #[.int .i64 0, .int .i64 0, .string ⟨#[]⟩, .slice none 0 0] 24)) := below1 wd _
    obtain ⟨w5, hwb⟩ : ∃ wb, (wd.alloc (.cells #[.int .i64 0, .int .i64 0, .string ⟨#[]⟩, .slice none 0 0] 24)) = wb := ⟨_, rfl⟩
    rw [hwb] at bxB hb
    rw [hwb]
    clear hwb
    have BXB := hid bxB
    obtain ⟨zb, hzb⟩ : ∃ zb, wd.heap.size = zb := ⟨_, rfl⟩
    rw [hzb] at BXB ⊢
    have hzbB : B ≤ zb := hzb ▸ hBw
    replace OB := bl OB hb
    replace KOF := hid (KOF.out.below hb)
    replace HP := hid (HP.out.below hb)
    replace HU := hid (HU.out.trans (hb.mono (by have := HU.out.size; omega)))
    replace KB := bl KB hb
    replace hBw := Nat.le_trans hBw hb.size
    refine hK.out _ _ (.inr OB.out) (fun hHeld => ?_)
    clear hK hHeld K
    (try simp only [Act.put, sq])
    clear hb bxB hzb
    refine rdU 3 rfl fun K hK => ?_
    go_simp
    refine ((all_any (Pars.fuel (left ts k'))).stmt HP.out (by rw [fuel_left]; omega)).mono ?_
    rintro e wc (⟨x1, k2, cs1, hr, hk1, hk2, rfl, hn, hx, hu⟩ | ⟨hr, rfl, hu⟩)
    rotate_left
    ·have hnb := bg OB hu
     have hkb := bg KB hu
     have hbel := hid (HU.out.trans (hu.own (by omega) (by have := HU.out.size; omega)))
     have HN0 : Hid (Pars.tree (toks ts) = none) := hid (tree_none (HT.out.trans (top_bad hkt hr)))
     clear hr hu HT
     refine leaves_cons (f := 27) (args := #[.pointer (some ⟨oa, 0, none⟩), .pointer (some ⟨oa + 1, 0, none⟩)]) (by simp) (by simp [go_sem]) ?_
     refine (catch_slip oa (oa + 1) _ _ rfl false hnb.out hkb.out (by omega)).mono ?_
     rintro e u' w'' ⟨rfl, rfl, hx2, hk2, hb2⟩
     exact ⟨_, results_bc rfl (Back.mk' oa 24 _ rfl hx2 Tryz.underlying24 rfl info_nod) (.mk' (oa + 1) false rfl hk2), .inr ⟨HN0.out, rfl, hbel.out.trans (hb2 _ (by omega) (by omega))⟩⟩
    have hlt1 := got_lt hr rfl
    replace HT := hid (HT.out.trans (top_good hkt hr))
    have hrl := KOF.out.row
    have HN1 : Hid (NodeAt wc (fun g => B ≤ g ∧ g ≠ oa ∧ (Value.slice KA acc.length kc).ownBlock ≠ some g) x1 cs1) := hid (hn.weak (fun g hg => ⟨by omega, by omega, fun e => by obtain ⟨_, ho, _⟩ := hrl; have := (ho.lt g e).2; omega⟩))
    clear hrl
    replace OB := bg OB hu
    replace KB := bg KB hu
    replace KOF := hid (KOF.out.upd hu hbB)
    replace HP := hid (HP.out.upd hx hu (by omega))
    replace BXB := bg BXB hu
    replace HU := hid (HU.out.trans (hu.own (by omega) (by have := HU.out.size; omega)))
    replace hBw := Nat.le_trans hBw hu.size
    clear hr hn hx hu
    obtain ⟨v1, hlit, hvo⟩ := NodeAt.lit HN1.out
    rw [hlit] at HN1 ⊢
    have HVO1 := hid hvo
    clear hlit hvo
    go_wp2_with fail
    refine hK.out _ _ (.inr OB.out) (fun hHeld => ?_)
    clear hK hHeld K
    (try simp only [Act.put, sq])
   all_goals
    refine rdU 6 rfl fun K hK => ?_
    obtain ⟨css, hrow, hkn⟩ := KOF.out.row
    refine step_append_lies _ rfl (.tmp 18) (.tmp 22) 22 rfl B 24 i0 _ 4 56 Tryz.underlying22 hi0 hi1 hi2 hi3 rfl (by decide) (Value.slice KA acc.length kc) acc.length (flatA css) (by simp [Act.eval, Act.put]) hrow ⟨zb, 0, none⟩ 1 1 [.int .i64 0, .int .i64 0, .string ⟨#[]⟩, .slice none 0 0] (by simp [Act.eval, Act.put]) rfl (by exact World.news_of_block BXB.out) zrow_one (by omega) (by unfold maxLen; omega) (by omega) hBw wc.heap.size rfl ?_
    intro g7 cap7 w7 hown7 hgr7 hor7 hlt7
    have hbB7 : Below B wc w7 := below_grown hgr7 hBw (fun q hq => (hrow.lt q hq).1)
    have hob := OB.out.lt
    have KO7 := KOF.out.snoc (x := .mk 0 0 [] []) (cs := #[.int .i64 0, .int .i64 0, .string ⟨#[]⟩, .slice none 0 0]) css hrow hkn (NodeAt.leaf _ _ 0 0 []) hown7 hgr7 hor7 hob
    replace HN1 := hid (NodeAt.room HN1.out hgr7 hor7)
    have hoa7 : g7 ≠ oa := by
     rcases hor7 with e | e
     ·intro e2; exact KOF.out.ne (by rw [e, e2])
     ·omega
    have hg7B : B ≤ g7 := by
     rcases hor7 with e | e
     ·exact (hrow.lt _ e).1
     ·omega
    replace OB := hid (Box.grown OB.out hgr7 (fun e => KOF.out.ne e.symm))
    replace HP := hid (HP.out.belowB hbB7 hbB (fun hn g o e => by have := HA.out hn g o e; omega))
    replace HU := hid (HU.out.trans (hbB7.mono hwB))
    replace KB := hid ((hbB7.block _ hkB).trans KB.out)
    replace hBw := Nat.le_trans hBw hbB7.size
    replace KOF := hid KO7
    refine hK.out _ _ (.inl rfl) (fun hHeld => ?_)
    clear hK hHeld K
    (try simp only [Act.put, sq])
    clear hown7 hgr7 hor7 hlt7 hbB7 hrow hkn hob KO7
    have n1 : (acc.length : Int) < ((acc.length + 1 : Nat) : Int) := by omega
    have n2 : decide ((acc.length : Int) < ((acc.length + 1 : Nat) : Int)) = true := decide_eq_true n1
    have n3 : acc.length < acc.length + 1 := by omega
    refine wpAnyU_takeY (i := 7) (v := .pointer (some ⟨g7, acc.length * 4, none⟩)) (by decide) rfl (by kernel_rfl) (by intro _ _ _ h; exact keep_door (i := 24) (by decide) (by decide) h) (by kernel_rfl) (by kernel_rfl) (Or.inl ⟨by kernel_rfl, ?_⟩) (.inl rfl) ?_
    ·intro w hSw
     go_simp
     try (intro hx; exfalso; omega)
    (try simp only [Act.put, sq])
    clear n1 n2 n3
    refine wpAnyU_takeY (i := 9) (v := ?_) (by decide) rfl (by kernel_rfl) (by intro _ _ _ h; exact keep_door (i := 25) (by decide) (by decide) h) (by kernel_rfl) (by kernel_rfl) (Or.inl ⟨by kernel_rfl, ?_⟩) (.inl rfl) ?_
    rotate_left
    ·intro w hSw
     go_simp
     try (with_reducible rfl)
    (try simp only [Act.put, sq])
    refine wpAnyU_ready (rs := [8, 10]) (by kernel_rfl) (by simp) ?_
    refine AllReadyU.cons rfl (fun K hK => ?_) (AllReadyU.cons rfl (fun K hK => ?_) AllReadyU.nil)
    focus
     obtain ⟨cur, hcur, hcl, hKO⟩ := KOF.out.last HN1.out
     have HKO := hid hKO
     refine step_store_midbox rfl 24 (.tmp 24) (.tmp 20) rfl g7 (acc.length * 4) #[.int .i64 x1.kind, .int .i64 x1.num, .string (byt x1.text), v1] (by simp [Act.eval, Act.put]) (by simp [Act.eval, Act.put]) cur 24 hcur hcl info_nod (nc_one _ _ _ HVO1.out) ?_
     intro w8 hx8 hu8 hz8
     have hb8 : Below B w7 w8 := hu8.own hg7B hBw
     replace OB := hid (Box.grown OB.out hu8 (by intro h; injection h with h; exact hoa7 h.symm))
     have KOF := hid (HKO.out w8 hx8 hu8)
     replace HP := hid (HP.out.belowB hb8 hbB (fun hn g o e => by have := HA.out hn g o e; omega))
     replace HU := hid (HU.out.trans (hb8.mono hwB))
     replace KB := hid ((hb8.block _ hkB).trans KB.out)
     replace hBw := Nat.le_trans hBw hb8.size
     refine hK.out _ _ (.inl rfl) (fun hHeld => ?_)
     clear hK hHeld K
     (try simp only [Act.put, sq])
     clear hx8 hu8 hz8 hb8 hcur hcl hKO HKO
     refine rdU 10 rfl fun K hK => ?_
     have c3 := OB.out.cell 3
     have f3 : w8.frozen? ⟨oa, 3, none⟩ = false := OB.out.frozen 3
     simp [nc] at c3
     go_simp
     have hu9 : Upd w8 (w8.setCell ⟨oa, 3, none⟩ (Value.slice (some ⟨g7, 0, none⟩) (acc.length + 1) cap7)) oa := (Upd.refl _ _).set (.inl rfl) _
     have OB9 := OB.out.set 3 (Value.slice (some ⟨g7, 0, none⟩) (acc.length + 1) cap7)
     obtain ⟨wz, hwz⟩ : ∃ wz, (w8.setCell ⟨oa, 3, none⟩ (Value.slice (some ⟨g7, 0, none⟩) (acc.length + 1) cap7)) = wz := ⟨_, rfl⟩
     rw [hwz] at hu9 OB9
     rw [hwz]
     clear hwz
     replace OB9 : Box wz oa 24 (nc 30 0 [] (Value.slice (some ⟨g7, 0, none⟩) (acc.length + 1) cap7)) := by simpa [nc] using OB9
     replace OB := hid OB9
     replace KOF := hid (KOF.out.self hu9)
     have hb9 : Below w.heap.size w8 wz := hu9.own (by omega) (by have := HU.out.size; omega)
     replace HP := hid (HP.out.far hu9 (by omega) (fun hn g o e => by have := HA.out hn g o e; omega))
     replace KB := bg KB hu9
     replace HU := hid (HU.out.trans hb9)
     replace hBw := Nat.le_trans hBw hb9.size
     refine hK.out _ _ (.inl rfl) (fun hHeld => ?_)
     clear hK hHeld K
     (try simp only [Act.put, sq])
     clear hu9 OB9 hb9 c3 f3
    rotate_left
    focus
     have c3 := OB.out.cell 3
     have f3 : w7.frozen? ⟨oa, 3, none⟩ = false := OB.out.frozen 3
     simp [nc] at c3
     go_simp
     have hu9 : Upd w7 (w7.setCell ⟨oa, 3, none⟩ (Value.slice (some ⟨g7, 0, none⟩) (acc.length + 1) cap7)) oa := (Upd.refl _ _).set (.inl rfl) _
     have OB9 := OB.out.set 3 (Value.slice (some ⟨g7, 0, none⟩) (acc.length + 1) cap7)
     obtain ⟨w8, hwz⟩ : ∃ wz, (w7.setCell ⟨oa, 3, none⟩ (Value.slice (some ⟨g7, 0, none⟩) (acc.length + 1) cap7)) = wz := ⟨_, rfl⟩
     rw [hwz] at hu9 OB9
     rw [hwz]
     clear hwz
     replace OB9 : Box w8 oa 24 (nc 30 0 [] (Value.slice (some ⟨g7, 0, none⟩) (acc.length + 1) cap7)) := by simpa [nc] using OB9
     replace OB := hid OB9
     replace KOF := hid (KOF.out.self hu9)
     replace HN1 := hid (HN1.out.upd hu9 (fun q hq => hq.2.1))
     have hb9 : Below w.heap.size w7 w8 := hu9.own (by omega) (by have := HU.out.size; omega)
     replace HP := hid (HP.out.far hu9 (by omega) (fun hn g o e => by have := HA.out hn g o e; omega))
     replace KB := bg KB hu9
     replace HU := hid (HU.out.trans hb9)
     replace hBw := Nat.le_trans hBw hb9.size
     refine hK.out _ _ (.inl rfl) (fun hHeld => ?_)
     clear hK hHeld K
     (try simp only [Act.put, sq])
     clear hu9 OB9 hb9 c3 f3
     refine rdU 8 rfl fun K hK => ?_
     obtain ⟨cur, hcur, hcl, hKO⟩ := KOF.out.last HN1.out
     have HKO := hid hKO
     refine step_store_midbox rfl 24 (.tmp 24) (.tmp 20) rfl g7 (acc.length * 4) #[.int .i64 x1.kind, .int .i64 x1.num, .string (byt x1.text), v1] (by simp [Act.eval, Act.put]) (by simp [Act.eval, Act.put]) cur 24 hcur hcl info_nod (nc_one _ _ _ HVO1.out) ?_
     intro wz hx8 hu8 hz8
     have hb8 : Below B w8 wz := hu8.own hg7B hBw
     replace OB := hid (Box.grown OB.out hu8 (by intro h; injection h with h; exact hoa7 h.symm))
     have KOF := hid (HKO.out wz hx8 hu8)
     replace HP := hid (HP.out.belowB hb8 hbB (fun hn g o e => by have := HA.out hn g o e; omega))
     replace HU := hid (HU.out.trans (hb8.mono hwB))
     replace KB := hid ((hb8.block _ hkB).trans KB.out)
     replace hBw := Nat.le_trans hBw hb8.size
     refine hK.out _ _ (.inl rfl) (fun hHeld => ?_)
     clear hK hHeld K
     (try simp only [Act.put, sq])
     clear hx8 hu8 hz8 hb8 hcur hcl hKO HKO
    all_goals
     refine wpAnyU_done (by kernel_rfl) ?_ _
     have hle9 := HP.out.kle
     go_wp2
     go_roundg (ts.length - (k2))
     case measure => omega
     case rel => exact ⟨k2, m', acc ++ [x1], (Value.slice (some ⟨g7, 0, none⟩) (acc.length + 1) cap7), by omega, hle9, by simp only [ln]; omega, by omega, hBw, OB, KB, KOF, HP, HU, HT⟩
  ·have hkz : ¬ (k' : Int) < (ts.length : Int) := by omega
   have hkd : decide ((k' : Int) < (ts.length : Int)) = false := decide_eq_false hkz
   have HN0 : Hid (Pars.tree (toks ts) = some (.mk 30 0 [] acc)) := hid (by unfold Pars.tree; rw [show (toks ts).length = ts.length by simp [toks], HT.out, left_nil (by omega), show Pars.top m acc [] = some acc by cases m <;> rfl]; rfl)
   have ob := OB.out
   have kc0 := KB.out.cell 0
   have kf0 : wr.frozen? ⟨oa + 1, 0, none⟩ = false := KB.out.frozen 0
   simp at kc0
   go_wp2_with (first | (refine wpList_load_row rfl 24 (.tmp 2) rfl oa rfl _ (nc 30 0 [] (Value.slice KA acc.length kc)) (0, 0) _ ob Tryz.underlying24 rfl info_nod ?_) | (refine wpList_store_box rfl 24 (.tmp 2) (.tmp 26) rfl oa (nc 30 0 [] (Value.slice KA acc.length kc)) rfl rfl 24 _ ob info_nod rfl (nc_own _ _ _ KOF.out) ?_; intro wy hxz huz hzz; have HZZ := hid hzz; have KB2 := bg KB huz; have kc1 := KB2.out.cell 0; have kf1 : wy.frozen? ⟨oa + 1, 0, none⟩ = false := KB2.out.frozen 0; simp at kc1; clear hzz kc0 kf0))
   refine leaves_cons (f := 27) (args := #[.pointer (some ⟨oa, 0, none⟩), .pointer (some ⟨oa + 1, 0, none⟩)]) (by simp) (by simp [go_sem]) ?_
   refine (catch_none oa (oa + 1) _).mono ?_
   rintro e u' w'' ⟨rfl, rfl, rfl⟩
   have hu8 : Upd wy (wy.setCell ⟨oa + 1, 0, none⟩ (.bool true)) (oa + 1) := (Upd.refl _ _).set (.inl rfl) _
   refine ⟨_, results_bc rfl (Back.mk' oa 24 _ rfl (hxz.far (p := ⟨oa + 1, 0, none⟩) (by simp) _) Tryz.underlying24 rfl info_nod) (.mk' (oa + 1) true rfl (KB2.out.set 0 (.bool true))), .inl ⟨acc, _, HN0.out, rfl, ?_, by omega, ?_⟩⟩
   ·exact (((KOF.out.self huz).node 30 0 []).upd hu8 (fun g hg => by have := hg.1; omega)).weak (fun g hg => by have := hg.1; omega)
   ·have hz := HU.out.size
    have hz2 := huz.size
    exact (HU.out.trans (huz.own hwoa hz)).trans (hu8.own (by omega) (by omega))
end Go.Proofs.YtonjdlialejedaaGreatDoor
namespace Pars
open Lexy (Tk)
mutual
def size : Node → Nat
 | .mk _ _ _ l => sizes l + 1
def sizes : List Node → Nat
 | [] => 0
 | n :: l => size n + sizes l
end
theorem sizes_append : ∀ a b : List Node, sizes (a ++ b) = sizes a + sizes b
 | [], b => by simp [sizes]
 | n :: a, b => by simp only [List.cons_append, sizes, sizes_append a b]; omega
theorem sizes_kids (n : Node) : sizes n.kids + 1 = size n := by cases n; rfl
mutual
theorem deep_size : ∀ n : Node, deep n ≤ size n
 | .mk _ _ _ l => by simp only [deep, size]; have := deeps_size l; omega
theorem deeps_size : ∀ l : List Node, deeps l ≤ sizes l
 | [] => by simp [deeps]
 | n :: l => by simp only [deeps, sizes]; have := deep_size n; have := deeps_size l; omega
end
def Cost (d : Int) (p : List Tk → R) : Prop := ∀ l x r, p l = some (x, r) → (size x : Int) + r.length ≤ d + l.length
theorem cost_weak {d e : Int} {p : List Tk → R} (h : Cost d p) (hd : d ≤ e) : Cost e p := fun l x r q => by have := h l x r q; omega
theorem cost_none (d : Int) : Cost d (fun _ => none) := fun l x r h => by cases h
theorem cost_pure {d : Int} (x : Node) (hx : (size x : Int) ≤ d) : Cost d (fun l => some (x, l)) := fun l y r h => by
 injection h with h; injection h with h1 h2; subst h1 h2; omega
theorem cost_alt {d : Int} {w : Bs} {f g : List Tk → R} (hf : Cost (d + 1) f) (hg : Cost d g) : Cost d (fun l => alt w l f (g l)) := by
 intro l x r h
 cases hi : is w l with
 | none => simp only [alt, hi] at h; exact hg l x r h
 | some l' =>
  simp only [alt, hi] at h
  obtain ⟨⟨t, ht, _⟩, _⟩ := is_some hi
  have := hf l' x r h
  subst ht
  simp only [List.length_cons]; omega
theorem cost_must {d : Int} {w : Bs} {f : List Tk → R} (hf : Cost (d + 1) f) : Cost d (fun l => must w l f) := cost_alt hf (cost_none _)
theorem cost_tok {d : Int} {k : Nat} {f : Tk → List Tk → R} {g : List Tk → R} (hf : ∀ t, Cost (d + 1) (f t)) (hg : Cost d g) : Cost d (fun l => tok k l f (g l)) := by
 intro l x r h
 cases l with
 | nil => exact hg [] x r h
 | cons t l =>
  simp only [tok] at h
  by_cases hk : t.kind = k
  ·rw [if_pos hk] at h
   have := hf t l x r h
   simp only [List.length_cons]; omega
  ·rw [if_neg hk] at h; exact hg _ x r h
theorem cost_named {d : Int} {f : Bs → List Tk → R} (hf : ∀ n, Cost (d + 1) (f n)) : Cost d (fun l => named l f) := cost_tok (fun t => hf t.text) (cost_none _)
theorem cost_and {a d : Int} {p : List Tk → R} {q : Node → List Tk → R} (hp : Cost a p) (hq : ∀ x, Cost (d - a + size x) (q x)) : Cost d (fun l => andThen (p l) q) := by
 intro l x r h
 cases hi : p l with
 | none => simp only [andThen, hi] at h; cases h
 | some y =>
  obtain ⟨y, l1⟩ := y
  simp only [andThen, hi] at h
  have h1 := hp l y l1 hi
  have h2 := hq y l1 x r h
  omega
theorem cost_signs {d : Int} {ss : List Bs} {f : Bs → List Tk → R} {g : List Tk → R} (hf : ∀ n, Cost (d + 1) (f n)) (hg : Cost d g) : Cost d (fun l => signs ss l f (g l)) := by
 intro l x r h
 cases hi : anyOf ss l with
 | none => simp only [signs, hi] at h; exact hg l x r h
 | some y =>
  obtain ⟨w, l'⟩ := y
  simp only [signs, hi] at h
  obtain ⟨⟨t, ht⟩, _⟩ := any_some hi
  have := hf w l' x r h
  subst ht
  simp only [List.length_cons]; omega
theorem cost_peek {d : Int} {w : Bs} {a b : List Tk → R} (ha : Cost d a) (hb : Cost d b) : Cost d (fun l => peek w l (a l) (b l)) := by
 intro l x r h
 cases l with
 | nil => exact hb [] x r h
 | cons t l =>
  simp only [peek] at h
  by_cases hk : t.kind = 4 ∧ t.text = w
  ·rw [if_pos hk] at h; exact ha _ x r h
  ·rw [if_neg hk] at h; exact hb _ x r h
theorem cost_sep {d : Int} {more : Bool} {f : List Tk → R} (hf : Cost d f) : Cost d (fun l => sep more l f) := by
 cases more
 ·exact hf
 ·exact cost_must (cost_weak hf (by omega))
theorem cost_ite {d : Int} {c : Prop} [Decidable c] {p q : List Tk → R} (hp : Cost d p) (hq : Cost d q) : Cost d (fun l => if c then p l else q l) := by
 by_cases h : c
 ·simpa [h] using hp
 ·simpa [h] using hq
def owed : Nt → Int
 | .block => -1
 | .body _ => -1
 | .inner => -2
 | .blockGo acc => sizes acc
 | .binGo _ e => size e
 | .post e => size e
 | .some _ _ _ acc => sizes acc
 | _ => 0
theorem size_joined (s : Bs) (a b : Node) : size (joined s a b) = size a + size b + 1 := by unfold joined; split <;> (try split) <;> simp [size, sizes]
def good : Nt → Bool
 | .some _ .param _ _ => true
 | .some _ .expression _ _ => true
 | .some _ .pair _ _ => true
 | .some _ _ _ _ => false
 | _ => true
theorem good_some {f : Bs} {one : Nt} {m : Bool} {acc : List Node} (h : good (.some f one m acc) = true) : owed one = 0 ∧ good one = true ∧ ∀ m acc, good (.some f one m acc) = true := by
 cases one <;> first | (simp [good] at h; done) | exact ⟨rfl, rfl, fun _ _ => rfl⟩
theorem run_cost : ∀ n nt fn lp, good nt = true → Cost (owed nt) (fun l => run n nt fn lp l)
 | 0, nt, fn, lp, _ => by simp only [run]; exact cost_none _
 | n + 1, nt, fn, lp, hg => by
  have ih := run_cost n
  cases nt
  case some fin one more acc =>
   obtain ⟨h1, h2, h3⟩ := good_some hg
   simp only [run]
   refine cost_alt (cost_pure _ ?_) (cost_sep (cost_and (ih _ _ _ h2) fun x => cost_weak (ih _ _ _ (h3 _ _)) ?_))
   ·simp only [owed, size]; omega
   ·rw [h1]; simp only [owed, sizes_append, sizes]; omega
  all_goals
   simp only [run]
   repeat' first
    | exact cost_none _
    | (refine cost_must ?_)
    | (refine cost_named fun _ => ?_)
    | (refine cost_alt ?_ ?_)
    | (refine cost_and (ih _ _ _ rfl) fun _ => ?_)
    | (refine cost_tok (fun _ => ?_) ?_)
    | (refine cost_signs (fun _ => ?_) ?_)
    | (refine cost_peek ?_ ?_)
    | (refine cost_ite ?_ ?_)
    | (refine cost_weak (ih _ _ _ rfl) ?_; simp only [owed, size, sizes, sizes_append, size_joined]; omega)
    | (refine cost_pure _ ?_; simp only [owed, size, sizes, sizes_append, size_joined]; omega)
    | (rename_i y; have hy := sizes_kids y; refine cost_weak (ih _ _ _ rfl) ?_; simp only [owed, size, sizes, sizes_append, size_joined]; omega)
    | (rename_i y; have hy := sizes_kids y; refine cost_pure _ ?_; simp only [owed, size, sizes, sizes_append, size_joined]; omega)
    | (rename_i y z; have hy := sizes_kids y; refine cost_pure _ ?_; simp only [owed, size, sizes, sizes_append, size_joined]; omega)
theorem top_size : ∀ n acc l k, top n acc l = some k → sizes k ≤ sizes acc + l.length
 | _, acc, [], k, h => by
  have : k = acc := by cases ‹Nat› <;> simp [top] at h <;> exact h.symm
  subst this; simp
 | 0, _, _ :: _, k, h => by simp [top] at h
 | n + 1, acc, t :: l, k, h => by
  simp only [top] at h
  cases hr : run (fuel (t :: l)) .statement false false (t :: l) with
  | none => rw [hr] at h; cases h
  | some y =>
   obtain ⟨x, r⟩ := y
   rw [hr] at h
   have h1 := top_size n _ _ _ h
   have h2 := run_cost _ .statement false false rfl (t :: l) x r hr
   simp only [owed] at h2
   rw [sizes_append] at h1
   simp only [sizes] at h1
   omega
theorem tree_size {l : List Tk} {n : Node} (h : tree l = some n) : size n ≤ l.length + 1 := by
 unfold tree at h
 cases ht : top l.length [] l with
 | none => rw [ht] at h; cases h
 | some k =>
  rw [ht] at h
  injection h with h
  subst h
  have := top_size _ _ _ _ ht
  simp only [sizes] at this
  simp only [size]; omega
end Pars
namespace Pars
open Lexy (Tk)
def NoF (m : List Tk) : Prop := is wElse m = none ∧ is wFinally m = none ∧ is wCatch m = none
def eater : Nt → Bool
 | .binGo _ _ => false
 | .post _ => false
 | .some _ _ _ _ => false
 | _ => true
theorem eats : ∀ n nt fn lp, eater nt = true → run n nt fn lp [] = none
 | 0, _, _, _, _ => rfl
 | n + 1, nt, fn, lp, h => by
  have ih := eats n
  have i1 := fun fn lp => ih .statement fn lp rfl
  have i2 := fun fn lp => ih .expression fn lp rfl
  have i3 := fun fn lp => ih .cond fn lp rfl
  have i4 := fun k fn lp => ih (.binary k) fn lp rfl
  have i5 := fun fn lp => ih .unary fn lp rfl
  have i6 := fun fn lp => ih .first fn lp rfl
  have i7 := fun fn lp => ih .inner fn lp rfl
  have i8 := fun fn lp => ih .block fn lp rfl
  cases nt <;> simp only [eater, Bool.false_eq_true] at h <;>
   simp [run, alt, must, named, tok, peek, signs, anyOf, is, andThen, i1, i2, i3, i4, i5, i6, i7, i8]
theorem deeps_append : ∀ a b : List Node, deeps (a ++ b) = max (deeps a) (deeps b)
 | [], b => by simp [deeps]
 | n :: a, b => by rw [List.cons_append]; simp only [deeps]; rw [deeps_append a b]; omega
end Pars
