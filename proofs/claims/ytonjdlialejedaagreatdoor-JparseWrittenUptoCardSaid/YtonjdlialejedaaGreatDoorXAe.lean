/-
  Texts that the law leans on: PmC, PwC. Conditions: as each says.
-/
import Derived.Test.YtonjdlialejedaaGreatDoorXAd
import Derived.Test.YtonjdlialejedaaGreatDoorXAc
import Derived.Test.YtonjdlialejedaaGreatDoorShelfW
import Derived.Test.YtonjdlialejedaaGreatDoorXAa
set_option linter.unusedSimpArgs false
set_option linter.unusedVariables false
namespace Go.Proofs.YtonjdlialejedaaGreatDoor
open Go.Lib (hid)
open Go.RowKit
theorem gen_world {P : Program} {c : Code} {Q : Exit → Act → World → Prop} {a : Act} {w0 : World} {F : World → Prop} (hf : F w0) (h : ∀ W, F W → Code.wp P c Q a W) : Code.wp P c Q a w0 := h w0 hf
theorem NodeAt.weak {w : World} {S S1 : Nat → Prop} {n : Pars.Node} {cs : Array Value} (h : NodeAt w S n cs) (hs : ∀ g, S g → S1 g) : NodeAt w S1 n cs := NodeAt.keep (fun g h _ => hs g h) (Nat.le_refl _) (fun _ _ _ => rfl) h
theorem NodeAt.below {w w1 : World} {S : Nat → Prop} {n : Pars.Node} {cs : Array Value} (h : NodeAt w S n cs) (hb : Below w.heap.size w w1) : NodeAt w1 S n cs := NodeAt.keep (fun _ h _ => h) hb.size (fun g _ hg => hb.block g hg) h
theorem NodeAt.upd {w w1 : World} {S : Nat → Prop} {n : Pars.Node} {cs : Array Value} {r : Nat} (h : NodeAt w S n cs) (hu : Upd w w1 r) (hr : ∀ g, S g → g ≠ r) : NodeAt w1 S n cs := NodeAt.keep (fun _ h _ => h) hu.size (fun g hs hg => hu.block g hg (by intro e; injection e with e; exact hr g hs e)) h
theorem Upd.fresh {w w1 w2 : World} {b r : Nat} (h : Upd w w1 b) (hu : Upd w1 w2 r) (hr : w.heap.size ≤ r) : Upd w w2 b := by
 have hz := h.size
 refine ⟨hu.os.trans h.os, hu.tape.trans h.tape, hu.output.trans h.output, Nat.le_trans h.size hu.size, fun i hi hn => ?_⟩
 rw [hu.block i (by omega) (by intro e; injection e with e; omega), h.block i hi hn]
theorem left_len (ts : List KT) (k : Nat) : (left ts k).length = ts.length - k := by unfold left toks; simp
def Got (w : World) (b : Nat) (ts : List KT) (A : Option Addr) (c k : Nat) (fn lp : Bool) (r : Pars.R) (e : Ending) (w' : World) : Prop :=
 (∃ x k' cs, r = some (x, left ts k') ∧ k ≤ k' ∧ k' ≤ ts.length ∧ e = .returned (.agg cs) ∧ NodeAt w' (fun g => w.heap.size ≤ g) x cs ∧ Box w' b 76 (pc (.slice A ts.length c) k' fn lp) ∧ Upd w w' b) ∨
 (r = none ∧ e = .panicked slipped ∧ Upd w w' b)
theorem got_lt {n : Nat} {nt : Pars.Nt} {fn lp : Bool} {ts : List KT} {k k' : Nat} {x : Pars.Node} (h : Pars.run n nt fn lp (left ts k) = some (x, left ts k')) (hp : Pars.passes nt = true) : k < k' := by
 have := Pars.run_passes h hp
 rw [left_len, left_len] at this
 omega
structure All (n : Nat) : Prop where
 block : ∀ {w : World} {b : Nat} {ts : List KT} {A : Option Addr} {c k : Nat} {fn lp : Bool}, PSt w b ts A c k fn lp → 20 * (ts.length - k) + 1 < n → Calls Tryz.prog 60 #[.pointer (some ⟨b, 0, none⟩)] w (Got w b ts A c k fn lp (Pars.run n .block fn lp (left ts k)))
 stmt : ∀ {w : World} {b : Nat} {ts : List KT} {A : Option Addr} {c k : Nat} {fn lp : Bool}, PSt w b ts A c k fn lp → 20 * (ts.length - k) + 14 < n → Calls Tryz.prog 28 #[.pointer (some ⟨b, 0, none⟩)] w (Got w b ts A c k fn lp (Pars.run n .statement fn lp (left ts k)))
 expr : ∀ {w : World} {b : Nat} {ts : List KT} {A : Option Addr} {c k : Nat} {fn lp : Bool}, PSt w b ts A c k fn lp → 20 * (ts.length - k) + 12 < n → Calls Tryz.prog 50 #[.pointer (some ⟨b, 0, none⟩)] w (Got w b ts A c k fn lp (Pars.run n .expression fn lp (left ts k)))
 cond : ∀ {w : World} {b : Nat} {ts : List KT} {A : Option Addr} {c k : Nat} {fn lp : Bool}, PSt w b ts A c k fn lp → 20 * (ts.length - k) + 11 < n → Calls Tryz.prog 79 #[.pointer (some ⟨b, 0, none⟩)] w (Got w b ts A c k fn lp (Pars.run n .cond fn lp (left ts k)))
 un : ∀ {w : World} {b : Nat} {ts : List KT} {A : Option Addr} {c k : Nat} {fn lp : Bool}, PSt w b ts A c k fn lp → 20 * (ts.length - k) + 3 < n → Calls Tryz.prog 97 #[.pointer (some ⟨b, 0, none⟩)] w (Got w b ts A c k fn lp (Pars.run n .unary fn lp (left ts k)))
 first : ∀ {w : World} {b : Nat} {ts : List KT} {A : Option Addr} {c k : Nat} {fn lp : Bool}, PSt w b ts A c k fn lp → 20 * (ts.length - k) + 2 < n → Calls Tryz.prog 106 #[.pointer (some ⟨b, 0, none⟩)] w (Got w b ts A c k fn lp (Pars.run n .first fn lp (left ts k)))
 inner : ∀ {w : World} {b : Nat} {ts : List KT} {A : Option Addr} {c k : Nat} {fn lp : Bool}, PSt w b ts A c k fn lp → 20 * (ts.length - k) + 1 < n → Calls Tryz.prog 54 #[.pointer (some ⟨b, 0, none⟩)] w (Got w b ts A c k fn lp (Pars.run n .inner fn lp (left ts k)))
 ifs : ∀ {w : World} {b : Nat} {ts : List KT} {A : Option Addr} {c k : Nat} {fn lp : Bool}, PSt w b ts A c k fn lp → 20 * (ts.length - k) + 2 < n → Calls Tryz.prog 53 #[.pointer (some ⟨b, 0, none⟩)] w (Got w b ts A c k fn lp (Pars.run n .ifs fn lp (left ts k)))
 loops : ∀ {w : World} {b : Nat} {ts : List KT} {A : Option Addr} {c k : Nat} {fn lp : Bool}, PSt w b ts A c k fn lp → 20 * (ts.length - k) + 1 < n → Calls Tryz.prog 56 #[.pointer (some ⟨b, 0, none⟩)] w (Got w b ts A c k fn lp (Pars.run n .loops fn lp (left ts k)))
 tries : ∀ {w : World} {b : Nat} {ts : List KT} {A : Option Addr} {c k : Nat} {fn lp : Bool}, PSt w b ts A c k fn lp → 20 * (ts.length - k) + 2 < n → Calls Tryz.prog 58 #[.pointer (some ⟨b, 0, none⟩)] w (Got w b ts A c k fn lp (Pars.run n .tries fn lp (left ts k)))
 bin : ∀ (r : Nat), r ≤ 6 → ∀ {w : World} {b : Nat} {ts : List KT} {A : Option Addr} {c k : Nat} {fn lp : Bool}, PSt w b ts A c k fn lp → 20 * (ts.length - k) + (10 - r) < n → Calls Tryz.prog 92 #[.pointer (some ⟨b, 0, none⟩), .int .i64 (r : Int)] w (Got w b ts A c k fn lp (Pars.run n (.binary r) fn lp (left ts k)))
 body : ∀ (f : Bool), ∀ {w : World} {b : Nat} {ts : List KT} {A : Option Addr} {c k : Nat} {fn lp : Bool}, PSt w b ts A c k fn lp → 20 * (ts.length - k) + 2 < n → Calls Tryz.prog 55 #[.pointer (some ⟨b, 0, none⟩), .bool f] w (Got w b ts A c k fn lp (Pars.run n (.body f) fn lp (left ts k)))
 func : ∀ (nm : List UInt8), ∀ {w : World} {b : Nat} {ts : List KT} {A : Option Addr} {c k : Nat} {fn lp : Bool}, PSt w b ts A c k fn lp → 20 * (ts.length - k) + 1 < n → Calls Tryz.prog 52 #[.pointer (some ⟨b, 0, none⟩), .string (byt nm)] w (Got w b ts A c k fn lp (Pars.run n (.function nm) fn lp (left ts k)))
set_option maxRecDepth 100000 in
set_option maxHeartbeats 4000000 in
theorem inner_step {n : Nat} (h : All n) : ∀ {w : World} {b : Nat} {ts : List KT} {A : Option Addr} {c k : Nat} {fn lp : Bool}, PSt w b ts A c k fn lp → 20 * (ts.length - k) + 1 < n + 1 → Calls Tryz.prog 54 #[.pointer (some ⟨b, 0, none⟩)] w (Got w b ts A c k fn lp (Pars.run (n + 1) .inner fn lp (left ts k))) := by
 intro w b ts A c k fn lp hP hm
 have HR : Hid (Pars.run (n + 1) .inner fn lp (left ts k) = _) := hid (by rw [Pars.run])
 have hbl := hP.box.lt
 have hle := hP.kle
 go_enter Tryz.func54, Tryz.ntmps54
 go_upto_region 1 with fail
 refine gen_world (F := fun W => Box W w.heap.size 24 #[.int .i64 0, .int .i64 0, .string ⟨#[]⟩, .slice none 0 0] ∧ Below w.heap.size w W) ⟨Box.new w _ _, below1 w _⟩ ?_
 rintro W0 ⟨r0, hU⟩
 have RB := hid r0
 have HP := hid (hP.below hU)
 have HU : Hid (Upd w W0 b) := hid (Upd.below hU b)
 have HZ : Hid (w.heap.size < W0.heap.size) := hid r0.lt
 have hz0 := r0.lt
 have HZW : Hid (W0.heap.size ≤ W0.heap.size) := hid (Nat.le_refl _)
 clear r0 hU hP
 go_wp2_with fail
 refine (must_any [40] _ b ts A c (k) fn lp HP.out).mono ?_
 rintro e w1 (⟨hi, hk, rfl, hx, hu⟩ | ⟨hi, rfl, hu⟩)
 rotate_left
 ·exact ⟨rfl, .inr ⟨HR.out.trans (Pars.must_no hi), rfl, HU.out.trans hu⟩⟩
 replace HR := hid (HR.out.trans (Pars.must_some hi))
 replace RB := bg RB hu
 replace HP := hid (HP.out.upd hx hu (by omega))
 replace HU := hid (HU.out.trans hu)
 replace HZW := hid (Nat.le_trans HZW.out hu.size)
 clear hi hx hu
 have hle1 := HP.out.kle
 go_wp2_with fail
 refine (h.expr HP.out (by omega)).mono ?_
 rintro e w2 (⟨x1, k1, cs1, hr, hk1, hk2, rfl, hn, hx, hu⟩ | ⟨hr, rfl, hu⟩)
 rotate_left
 ·exact ⟨rfl, .inr ⟨HR.out.trans (Pars.and_no hr), rfl, HU.out.trans hu⟩⟩
 have hlt1 := got_lt hr rfl
 replace HR := hid (HR.out.trans (Pars.and_some hr))
 have HN1 : Hid (NodeAt _ (fun g => W0.heap.size ≤ g) x1 cs1) := hid (hn.weak (fun g hg => by have := HZW.out; omega))
 have hcs1 : (Tryz.prog.info? 24).map (·.size) = some cs1.size := by rw [NodeAt.size hn]; exact info_nod
 have h41 : (4 : Nat) = cs1.size := (NodeAt.size hn).symm
 have hone1 := NodeAt.one hn
 have HCS1 := hid hcs1
 have H41 := hid h41
 have HONE1 := hid hone1
 replace RB := bg RB hu
 replace HP := hid (HP.out.upd hx hu (by omega))
 replace HU := hid (HU.out.trans hu)
 replace HZW := hid (Nat.le_trans HZW.out hu.size)
 clear hr hn hx hu hcs1 h41 hone1
 have hle2 := HP.out.kle
 go_upto_region 3 with (refine wpList_store_box rfl 24 (.tmp 3) (.tmp 7) rfl w2.heap.size cs1 rfl rfl 24 _ (Box.new w2 _ _) HCS1.out H41.out HONE1.out ?_; intro w3 hx hv hz; have HZ1 := hid hz; clear hz)
 have hb : Below w2.heap.size w2 w3 := ((Below.refl _ w2).alloc (Nat.le_refl _) _).trans (hv.own (Nat.le_refl _) (by simp))
 have EB1 := hid hx
 have hzE1 := Nat.lt_of_lt_of_le HZ.out HZW.out
 replace RB := bl RB hb
 replace HN1 := hid (HN1.out.below hb)
 replace HP := hid (HP.out.below hb)
 replace HU := hid (HU.out.step hb)
 replace HZW := hid (Nat.le_trans HZW.out hb.size)
 clear hx hv hb
 go_wp2_with fail
 refine (must_any [41] _ b ts A c (k1) fn lp HP.out).mono ?_
 rintro e w4 (⟨hi, hk, rfl, hx, hu⟩ | ⟨hi, rfl, hu⟩)
 rotate_left
 ·exact ⟨rfl, .inr ⟨HR.out.trans (Pars.must_no hi), rfl, HU.out.trans hu⟩⟩
 replace HR := hid (HR.out.trans (Pars.must_some hi))
 replace RB := bg RB hu
 replace EB1 := bg EB1 hu
 replace HN1 := hid (HN1.out.upd hu (fun g hg => by first | omega | (simp only at hg; omega)))
 replace HP := hid (HP.out.upd hx hu (by omega))
 replace HU := hid (HU.out.trans hu)
 replace HZW := hid (Nat.le_trans HZW.out hu.size)
 clear hi hx hu
 have eb1 := EB1.out
 go_wp2_with (first | (refine wpList_load_row rfl 24 (.tmp 3) rfl w2.heap.size rfl _ cs1 (0, 0) _ eb1 Tryz.underlying24 rfl HCS1.out ?_) | (refine wpList_store_box rfl 24 (.tmp 2) (.tmp 10) rfl w.heap.size cs1 rfl rfl 24 _ RB.out HCS1.out H41.out HONE1.out ?_; intro wz hxz huz hzz; have HZZ := hid hzz; clear hzz))
 refine bodyPost_ret (results_box rfl _ _ w.heap.size 24 _ _ rfl hxz Tryz.underlying24 rfl HCS1.out) rfl ?_
 exact .inl ⟨x1, k1 + 1, cs1, HR.out, by omega, HP.out.kle, rfl, (HN1.out.upd huz (fun g hg => by first | omega | (simp only at hg; omega))).weak (fun g hg => by first | omega | (simp only at hg; omega)), Box.grown HP.out.box huz (by intro h; injection h with h; omega), Upd.fresh HU.out huz (Nat.le_refl _)⟩
end Go.Proofs.YtonjdlialejedaaGreatDoor
namespace Go.Proofs.YtonjdlialejedaaGreatDoor
open Go.Lib (hid)
open Go.RowKit
theorem plain_fn (n : Nat) : Ending.returned (.tuple #[.string ((⟨(Lib.repeatL [113] (n - 1)).toArray⟩ : ByteArray) ++ ⟨#[103]⟩), .bool true]) = .returned (.tuple #[.string (byt (Wri.plain 9 n).1), .bool (Wri.plain 9 n).2]) := by
 have e : ∀ q, Lib.repeatL [113] q = List.replicate q 113 := by
  intro q
  induction q with
  | zero => rfl
  | succ q ih => simp only [Lib.repeatL, ih]; rfl
 have h1 : (⟨(Lib.repeatL [113] (n - 1)).toArray⟩ : ByteArray) = byt (List.replicate (n - 1) 113) := by
  show (⟨(Lib.repeatL [113] (n - 1)).toArray⟩ : ByteArray) = _
  rw [e]; rfl
 have h2 : (⟨#[103]⟩ : ByteArray) = byt [103] := rfl
 rw [h1, h2, byt_append]
 rfl
set_option maxRecDepth 100000 in
set_option maxHeartbeats 4000000 in
theorem plain_nine (nu : Int) (t : List UInt8) (A : Option Addr) (n c : Nat) (hn : n ≤ 70368744177664) (w : World) : Calls Tryz.prog 82 #[.agg (nc 9 nu t (.slice A n c))] w fun e w' => e = .returned (.tuple #[.string (byt (Wri.plain 9 n).1), .bool (Wri.plain 9 n).2]) ∧ Below w.heap.size w w' := by
 have hz : IntKind.i64.wrap ((n : Int) - 1) = (n : Int) - 1 := by rw [IntKind.wrap_i64]; omega
 obtain ⟨q, hq⟩ : ∃ q : Nat, q = n - 1 := ⟨_, rfl⟩
 have HQ := hid hq
 have HM : Hid (max ((n : Int) - 1) 0 = (q : Int)) := hid (by omega)
 have hqn : q ≤ 70368744177664 := by omega
 clear hq
 have HRP : Hid (∀ W, Calls Tryz.prog 93 #[.string ⟨#[113]⟩, .int .i64 (q : Int)] W fun e w' => e = .returned (.string ⟨(Lib.repeatL [113] q).toArray⟩) ∧ Below W.heap.size W w') := hid (fun W => Tryz.strings_Repeat ⟨#[113]⟩ q W (by omega) (by rw [show (⟨#[113]⟩ : ByteArray).size = 1 from rfl]; omega))
 go_enter Tryz.func82, Tryz.ntmps82
 go_upto_region 1 with fail
 refine gen_world (F := fun W => Box W w.heap.size 24 (nc 9 nu t (.slice A n c)) ∧ Below w.heap.size w W) ⟨Box.new w _ _, below1 w _⟩ ?_
 rintro W0 ⟨b0, hU⟩
 have NB := hid b0
 have HU := hid hU
 have c0 := b0.cell 0
 have c3 := b0.cell 3
 simp [nc] at c0 c3
 clear b0 hU
 go_wp2_with (refine wpList_max2 rfl (.tmp 54) (.const (.int .i64 0)) _ rfl _ _ _ rfl rfl HM.out ?_)
 refine (HRP.out _).mono ?_
 rintro e w1 ⟨rfl, hb⟩
 have HU1 := hid (HU.out.trans (hb.mono HU.out.size))
 clear hb
 obtain ⟨RS, hRS⟩ : ∃ RS : ByteArray, (⟨(Lib.repeatL [113] q).toArray⟩ : ByteArray) = RS := ⟨_, rfl⟩
 have hsz : RS.size = q := by rw [← hRS]; show (Lib.repeatL _ q).toArray.size = q; rw [List.size_toArray, Lib.repeatL_length]; simp
 rw [hRS]
 have HRS := hid hRS
 clear hRS
 have hz0 : RS.size ≤ 70368744177664 := by omega
 clear hsz
 have hg1 : (⟨#[103]⟩ : ByteArray).size = 1 := rfl
 go_wp2
 go_ret2
 refine ⟨?_, HU1.out⟩
 rw [← HRS.out, HQ.out]
 exact plain_fn n
set_option maxRecDepth 100000 in
set_option maxHeartbeats 4000000 in
theorem plain_any (k nu : Int) (t : List UInt8) (A : Option Addr) (n c : Nat) (hn : n ≤ 70368744177664) (w : World) : Calls Tryz.prog 82 #[.agg (nc k nu t (.slice A n c))] w fun e w' => e = .returned (.tuple #[.string (byt (Wri.plain k n).1), .bool (Wri.plain k n).2]) ∧ Below w.heap.size w w' := by
 by_cases y : k = 9
 ·subst y
  exact plain_nine nu t A n c hn w
 have n9 : (k == 9) = false := by rw [beq_eq_false_iff_ne]; omega
 have m9 : ¬ k = 9 := by omega
 clear y
 go_enter Tryz.func82, Tryz.ntmps82
 go_upto_region 1 with fail
 refine gen_world (F := fun W => Box W w.heap.size 24 (nc k nu t (.slice A n c)) ∧ Below w.heap.size w W) ⟨Box.new w _ _, below1 w _⟩ ?_
 rintro W0 ⟨b0, hU⟩
 have NB := hid b0
 have HU := hid hU
 have c0 := b0.cell 0
 have c3 := b0.cell 3
 simp [nc] at c0 c3
 clear b0 hU
 go_upto_region 2 with fail
 by_cases y : k = 1
 ·subst y
  go_wp2
  go_ret2
  exact ⟨by first | rfl | simp [Wri.plain, byt], HU.out⟩
 have n1 : (k == 1) = false := by rw [beq_eq_false_iff_ne]; omega
 have m1 : ¬ k = 1 := by omega
 clear y
 go_upto_region 3 with fail
 by_cases y : k = 2
 ·subst y
  go_wp2
  go_ret2
  exact ⟨by first | rfl | simp [Wri.plain, byt], HU.out⟩
 have n2 : (k == 2) = false := by rw [beq_eq_false_iff_ne]; omega
 have m2 : ¬ k = 2 := by omega
 clear y
 go_upto_region 4 with fail
 by_cases y : k = 3
 ·subst y
  go_wp2
  go_ret2
  exact ⟨by first | rfl | simp [Wri.plain, byt], HU.out⟩
 have n3 : (k == 3) = false := by rw [beq_eq_false_iff_ne]; omega
 have m3 : ¬ k = 3 := by omega
 clear y
 go_upto_region 5 with fail
 by_cases y : k = 4
 ·subst y
  go_wp2
  go_ret2
  exact ⟨by first | rfl | simp [Wri.plain, byt], HU.out⟩
 have n4 : (k == 4) = false := by rw [beq_eq_false_iff_ne]; omega
 have m4 : ¬ k = 4 := by omega
 clear y
 go_upto_region 6 with fail
 by_cases y : k = 5
 ·subst y
  go_wp2
  go_ret2
  exact ⟨by first | rfl | simp [Wri.plain, byt], HU.out⟩
 have n5 : (k == 5) = false := by rw [beq_eq_false_iff_ne]; omega
 have m5 : ¬ k = 5 := by omega
 clear y
 go_upto_region 7 with fail
 by_cases y : k = 10
 ·subst y
  go_wp2
  go_ret2
  exact ⟨by first | rfl | simp [Wri.plain, byt], HU.out⟩
 have n10 : (k == 10) = false := by rw [beq_eq_false_iff_ne]; omega
 have m10 : ¬ k = 10 := by omega
 clear y
 go_upto_region 8 with fail
 by_cases y : k = 25
 ·subst y
  go_wp2
  go_ret2
  exact ⟨by first | rfl | simp [Wri.plain, byt], HU.out⟩
 have n25 : (k == 25) = false := by rw [beq_eq_false_iff_ne]; omega
 have m25 : ¬ k = 25 := by omega
 clear y
 go_upto_region 9 with fail
 by_cases y : k = 26
 ·subst y
  go_wp2
  go_ret2
  exact ⟨by first | rfl | simp [Wri.plain, byt], HU.out⟩
 have n26 : (k == 26) = false := by rw [beq_eq_false_iff_ne]; omega
 have m26 : ¬ k = 26 := by omega
 clear y
 go_upto_region 10 with fail
 by_cases y : k = 27
 ·subst y
  go_wp2
  go_ret2
  exact ⟨by first | rfl | simp [Wri.plain, byt], HU.out⟩
 have n27 : (k == 27) = false := by rw [beq_eq_false_iff_ne]; omega
 have m27 : ¬ k = 27 := by omega
 clear y
 go_upto_region 12 with fail
 by_cases y : k = 6
 ·subst y
  go_wp2
  go_ret2
  exact ⟨by first | rfl | simp [Wri.plain, byt], HU.out⟩
 have n6 : (k == 6) = false := by rw [beq_eq_false_iff_ne]; omega
 have m6 : ¬ k = 6 := by omega
 clear y
 go_upto_region 14 with fail
 by_cases y : k = 7
 ·subst y
  go_wp2
  go_ret2
  exact ⟨by first | rfl | simp [Wri.plain, byt], HU.out⟩
 have n7 : (k == 7) = false := by rw [beq_eq_false_iff_ne]; omega
 have m7 : ¬ k = 7 := by omega
 clear y
 go_upto_region 16 with fail
 by_cases y : k = 8
 ·subst y
  go_wp2
  go_ret2
  exact ⟨by first | rfl | simp [Wri.plain, byt], HU.out⟩
 have n8 : (k == 8) = false := by rw [beq_eq_false_iff_ne]; omega
 have m8 : ¬ k = 8 := by omega
 clear y
 go_upto_region 17 with fail
 by_cases y : k = 13
 ·subst y
  go_wp2
  go_ret2
  exact ⟨by first | rfl | simp [Wri.plain, byt], HU.out⟩
 have n13 : (k == 13) = false := by rw [beq_eq_false_iff_ne]; omega
 have m13 : ¬ k = 13 := by omega
 clear y
 go_upto_region 18 with fail
 by_cases y : k = 14
 ·subst y
  go_wp2
  go_ret2
  exact ⟨by first | rfl | simp [Wri.plain, byt], HU.out⟩
 have n14 : (k == 14) = false := by rw [beq_eq_false_iff_ne]; omega
 have m14 : ¬ k = 14 := by omega
 clear y
 go_upto_region 19 with fail
 by_cases y : k = 20
 ·subst y
  go_wp2
  go_ret2
  exact ⟨by first | rfl | simp [Wri.plain, byt], HU.out⟩
 have n20 : (k == 20) = false := by rw [beq_eq_false_iff_ne]; omega
 have m20 : ¬ k = 20 := by omega
 clear y
 go_upto_region 20 with fail
 by_cases y : k = 28
 ·subst y
  go_wp2
  go_ret2
  exact ⟨by first | rfl | simp [Wri.plain, byt], HU.out⟩
 have n28 : (k == 28) = false := by rw [beq_eq_false_iff_ne]; omega
 have m28 : ¬ k = 28 := by omega
 clear y
 go_upto_region 21 with fail
 by_cases y : k = 31
 ·subst y
  go_wp2
  go_ret2
  exact ⟨by first | rfl | simp [Wri.plain, byt], HU.out⟩
 have n31 : (k == 31) = false := by rw [beq_eq_false_iff_ne]; omega
 have m31 : ¬ k = 31 := by omega
 clear y
 go_upto_region 23 with fail
 by_cases y : k = 11
 ·subst y
  go_wp2
  go_ret2
  exact ⟨by first | rfl | simp [Wri.plain, byt], HU.out⟩
 have n11 : (k == 11) = false := by rw [beq_eq_false_iff_ne]; omega
 have m11 : ¬ k = 11 := by omega
 clear y
 go_upto_region 25 with fail
 by_cases y : k = 12
 ·subst y
  go_wp2
  go_ret2
  exact ⟨by first | rfl | simp [Wri.plain, byt], HU.out⟩
 have n12 : (k == 12) = false := by rw [beq_eq_false_iff_ne]; omega
 have m12 : ¬ k = 12 := by omega
 clear y
 go_upto_region 26 with fail
 by_cases y : k = 15
 ·subst y
  go_wp2
  go_ret2
  exact ⟨by first | rfl | simp [Wri.plain, byt], HU.out⟩
 have n15 : (k == 15) = false := by rw [beq_eq_false_iff_ne]; omega
 have m15 : ¬ k = 15 := by omega
 clear y
 go_upto_region 27 with fail
 by_cases y : k = 16
 ·subst y
  go_wp2
  go_ret2
  exact ⟨by first | rfl | simp [Wri.plain, byt], HU.out⟩
 have n16 : (k == 16) = false := by rw [beq_eq_false_iff_ne]; omega
 have m16 : ¬ k = 16 := by omega
 clear y
 go_upto_region 28 with fail
 by_cases y : k = 17
 ·subst y
  go_wp2
  go_ret2
  exact ⟨by first | rfl | simp [Wri.plain, byt], HU.out⟩
 have n17 : (k == 17) = false := by rw [beq_eq_false_iff_ne]; omega
 have m17 : ¬ k = 17 := by omega
 clear y
 go_upto_region 30 with fail
 by_cases y : k = 18
 ·subst y
  go_wp2
  go_ret2
  exact ⟨by first | rfl | simp [Wri.plain, byt], HU.out⟩
 have n18 : (k == 18) = false := by rw [beq_eq_false_iff_ne]; omega
 have m18 : ¬ k = 18 := by omega
 clear y
 go_upto_region 32 with fail
 by_cases y : k = 19
 ·subst y
  go_wp2
  go_ret2
  exact ⟨by first | rfl | simp [Wri.plain, byt], HU.out⟩
 have n19 : (k == 19) = false := by rw [beq_eq_false_iff_ne]; omega
 have m19 : ¬ k = 19 := by omega
 clear y
 go_upto_region 34 with fail
 by_cases y : k = 21
 ·subst y
  go_wp2
  go_ret2
  exact ⟨by first | rfl | simp [Wri.plain, byt], HU.out⟩
 have n21 : (k == 21) = false := by rw [beq_eq_false_iff_ne]; omega
 have m21 : ¬ k = 21 := by omega
 clear y
 go_upto_region 36 with fail
 by_cases y : k = 22
 ·subst y
  go_wp2
  go_ret2
  exact ⟨by first | rfl | simp [Wri.plain, byt], HU.out⟩
 have n22 : (k == 22) = false := by rw [beq_eq_false_iff_ne]; omega
 have m22 : ¬ k = 22 := by omega
 clear y
 go_upto_region 38 with fail
 by_cases y : k = 23
 ·subst y
  go_wp2
  go_ret2
  exact ⟨by first | rfl | simp [Wri.plain, byt], HU.out⟩
 have n23 : (k == 23) = false := by rw [beq_eq_false_iff_ne]; omega
 have m23 : ¬ k = 23 := by omega
 clear y
 go_upto_region 39 with fail
 by_cases y : k = 24
 ·subst y
  go_wp2
  go_ret2
  exact ⟨by first | rfl | simp [Wri.plain, byt], HU.out⟩
 have n24 : (k == 24) = false := by rw [beq_eq_false_iff_ne]; omega
 have m24 : ¬ k = 24 := by omega
 clear y
 go_upto_region 41 with fail
 by_cases y : k = 29
 ·subst y
  go_wp2
  go_ret2
  exact ⟨by first | rfl | simp [Wri.plain, byt], HU.out⟩
 have n29 : (k == 29) = false := by rw [beq_eq_false_iff_ne]; omega
 have m29 : ¬ k = 29 := by omega
 clear y
 go_upto_region 43 with fail
 by_cases y : k = 30
 ·subst y
  go_wp2
  go_ret2
  exact ⟨by first | rfl | simp [Wri.plain, byt], HU.out⟩
 have n30 : (k == 30) = false := by rw [beq_eq_false_iff_ne]; omega
 have m30 : ¬ k = 30 := by omega
 clear y
 go_wp2
 go_ret2
 refine ⟨?_, HU.out⟩
 have e : Wri.plain k n = ([], false) := by unfold Wri.plain; simp only [m1, m2, m3, m4, m5, m6, m7, m8, m9, m10, m11, m12, m13, m14, m15, m16, m17, m18, m19, m20, m21, m22, m23, m24, m25, m26, m27, m28, m29, m30, m31, or_self, if_false]
 rw [e]
 rfl
end Go.Proofs.YtonjdlialejedaaGreatDoor
