/-
  Texts that the law leans on: PmM, Mid. Conditions: as each says.
-/
import Derived.Test.YtonjdlialejedaaGreatDoorXAk
import Derived.Test.YtonjdlialejedaaGreatDoorXAc
import Derived.Test.YtonjdlialejedaaGreatDoorXAa
set_option linter.unusedSimpArgs false
set_option linter.unusedVariables false
namespace Go.Proofs.YtonjdlialejedaaGreatDoor
open Go.Lib (hid)
open Go.RowKit
structure UpdB (B : Nat) (w w' : World) (b : Nat) : Prop where
 os : w'.os = w.os
 tape : w'.tape = w.tape
 output : w'.output = w.output
 size : w.heap.size ≤ w'.heap.size
 block : ∀ i, i < B → i ≠ b → w'.heap[i]? = w.heap[i]?
section
variable {B b : Nat} {a w w1 w2 : World}
theorem UpdB.refl (B : Nat) (w : World) (b : Nat) : UpdB B w w b := ⟨rfl, rfl, rfl, Nat.le_refl _, fun _ _ _ => rfl⟩
theorem UpdB.trans (h : UpdB B a w b) (k : UpdB B w w1 b) : UpdB B a w1 b := ⟨k.os.trans h.os, k.tape.trans h.tape, k.output.trans h.output, Nat.le_trans h.size k.size, fun i hi hn => (k.block i hi hn).trans (h.block i hi hn)⟩
theorem UpdB.of_upd (h : Upd w w1 b) (hB : B ≤ w.heap.size) : UpdB B w w1 b := ⟨h.os, h.tape, h.output, h.size, fun i hi hn => h.block i (by omega) (by intro e; injection e with e; exact hn e)⟩
theorem UpdB.of_below {B' : Nat} (h : Below B' w w1) (hB : B ≤ B') : UpdB B w w1 b := ⟨h.os, h.tape, h.output, h.size, fun i hi _ => h.block i (by omega)⟩
theorem UpdB.of_far {r : Nat} (h : Upd w w1 r) (hr : B ≤ r) (hB : B ≤ w.heap.size) : UpdB B w w1 b := ⟨h.os, h.tape, h.output, h.size, fun i hi _ => h.block i (by omega) (by intro e; injection e with e; omega)⟩
theorem Upd.updB (h : Upd a w b) (k : UpdB B w w1 b) (hB : a.heap.size ≤ B) : Upd a w1 b :=
 ⟨k.os.trans h.os, k.tape.trans h.tape, k.output.trans h.output, Nat.le_trans h.size k.size, fun i hi hn => (k.block i (by omega) (by intro e; exact hn (by rw [e]))).trans (h.block i hi hn)⟩
theorem Box.updB {g : Nat} {t : TypeId} {cs : Array Value} (h : Box w g t cs) (k : UpdB B w w1 b) (hg : g < B) (hn : g ≠ b) : Box w1 g t cs := (k.block g hg hn).trans h
theorem PSt.updB {ts : List KT} {A : Option Addr} {c k k1 : Nat} {fn lp : Bool} (h : PSt w b ts A c k fn lp) (hx : Box w1 b 76 (pc (.slice A ts.length c) k1 fn lp)) (hu : UpdB B w w1 b) (hk : k1 ≤ ts.length) (hA : 0 < ts.length → ∀ g o, A = some ⟨g, o, none⟩ → g < B) : PSt w1 b ts A c k1 fn lp := by
 refine ⟨hx, ?_, hk, h.ne, h.len⟩
 obtain ⟨A', cap, e, h1, h2, h3⟩ := h.ks
 refine ⟨A', cap, e, h1, h2, fun hn => ?_⟩
 obtain ⟨g, o, rfl, hg, hr⟩ := h3 hn
 injection e with e _ _
 have hz := hu.size
 refine ⟨g, o, rfl, by omega, fun i u hi => ?_⟩
 rw [World.cell?_of_block (hu.block g (hA hn g o e) (h.ne g o e))]
 exact hr i u hi
end
def KOut (B : Nat) (w : World) (b oa : Nat) (ts : List KT) (A : Option Addr) (c k : Nat) (fn lp : Bool) (kd nu : Int) (tx : List UInt8) (r : Option (List Pars.Node × List Lexy.Tk)) (e : Ending) (w' : World) : Prop :=
 (∃ l k' kv', r = some (l, left ts k') ∧ k ≤ k' ∧ k' ≤ ts.length ∧ l.length ≤ k' ∧ e = .returned (.tuple #[]) ∧ Box w' oa 24 (nc kd nu tx kv') ∧ KO w' B oa l kv' ∧ Box w' b 76 (pc (.slice A ts.length c) k' fn lp) ∧ UpdB B w w' b) ∨
 (r = none ∧ e = .panicked slipped ∧ UpdB B w w' b)
def One (m : Nat) (nt : Pars.Nt) (g : Nat) (lb : Array Value) (B b oa pb : Nat) (ts : List KT) (A : Option Addr) (c : Nat) (fn lp : Bool) (kd nu : Int) (tx : List UInt8) : Prop :=
 ∀ (w : World) (k : Nat) (acc : List Pars.Node) (kv : Value), PSt w b ts A c k fn lp → Box w pb 74 #[.pointer (some ⟨b, 0, none⟩)] → Box w oa 24 (nc kd nu tx kv) → KO w B oa acc kv → B ≤ w.heap.size → acc.length ≤ k → 20 * (ts.length - k) + 13 < m →
  Calls Tryz.prog g lb w (KOut B w b oa ts A c k fn lp kd nu tx ((Pars.run m nt fn lp (left ts k)).map fun y => (acc ++ [y.1], y.2)))
theorem sep_no {l : List Lexy.Tk} {f : List Lexy.Tk → Pars.R} : Pars.sep false l f = f l := rfl
theorem sep_yes {l : List Lexy.Tk} {f : List Lexy.Tk → Pars.R} : Pars.sep true l f = Pars.must [44] l f := rfl
theorem step_some {m : Nat} {fin : List UInt8} {nt : Pars.Nt} {more fn lp : Bool} {acc : List Pars.Node} {l : List Lexy.Tk} : Pars.run (m + 1) (.some fin nt more acc) fn lp l = Pars.alt fin l (fun r => some (.mk 0 0 [] acc, r)) (Pars.sep more l fun l => Pars.andThen (Pars.run m nt fn lp l) fun x r => Pars.run m (.some fin nt true (acc ++ [x])) fn lp r) := by rw [Pars.run]
set_option maxRecDepth 100000 in
set_option maxHeartbeats 4000000 in
theorem some_any (fin : List UInt8) (nt : Pars.Nt) (hnp : Pars.passes nt = true) (g : Nat) (lb : Array Value) (eg : ∀ args w, (callFunc g args).run Tryz.prog w = .ok (.enter g args) w) (N : Nat) (B b oa pb : Nat) (ts : List KT) (A : Option Addr) (c : Nat) (fn lp : Bool) (kd nu : Int) (tx : List UInt8)
  (hone : ∀ m, m < N → One m nt g lb B b oa pb ts A c fn lp kd nu tx) (hbB : b < B) (hpB : pb < B) (hpb : pb ≠ b) (hoB : B ≤ oa) (hA : 0 < ts.length → ∀ g o, A = some ⟨g, o, none⟩ → g < B)
  (w : World) (k : Nat) (kv : Value) (pre : List Pars.Node) (hpre : pre.length ≤ k) (hP : PSt w b ts A c k fn lp) (hpx : Box w pb 74 #[.pointer (some ⟨b, 0, none⟩)]) (hox : Box w oa 24 (nc kd nu tx kv)) (hko : KO w B oa pre kv) (hBw : B ≤ w.heap.size) (hm : 20 * (ts.length - k) + 15 < N) :
  Calls Tryz.prog 80 #[.pointer (some ⟨b, 0, none⟩), .string (byt fin), .func (.func g) #[] lb] w (KOut B w b oa ts A c k fn lp kd nu tx ((Pars.run N (.some fin nt false []) fn lp (left ts k)).map fun y => (pre ++ y.1.kids, y.2))) := by
 have HONE := hid hone
 have HA := hid hA
 have HP := hid hP
 have PX := hid hpx
 have OB := hid hox
 have KOF := hid hko
 have hkl := hP.kle
 have hlen := hP.len
 clear hone hA hP hpx hox hko
 go_enter Tryz.func80, Tryz.ntmps80
 go_wp2
 go_loopg [6] (ts.length) (fun gg s6 wr => ∃ (k' m : Nat) (acc : List Pars.Node) (kv : Value), ts.length - k' ≤ gg ∧ s6 = .int .i64 (acc.length : Int) ∧ k ≤ k' ∧ k' ≤ ts.length ∧ acc.length + k ≤ k' ∧ (pre ++ acc).length ≤ k' ∧ m ≤ N ∧ 20 * (ts.length - k') + 15 < m ∧ B ≤ wr.heap.size ∧ Hid (Box wr pb 74 #[.pointer (some ⟨b, 0, none⟩)]) ∧ Hid (Box wr oa 24 (nc kd nu tx kv)) ∧ Hid (KO wr B oa (pre ++ acc) kv) ∧ Hid (PSt wr b ts A c k' fn lp) ∧ Hid (UpdB B w wr b) ∧ Hid (Pars.run N (.some fin nt false []) fn lp (left ts k) = Pars.run m (.some fin nt (decide (0 < acc.length)) acc) fn lp (left ts k')))
 case atStart => exact ⟨k, N, [], kv, by omega, rfl, Nat.le_refl _, hkl, by simp, by simpa using hpre, Nat.le_refl _, hm, hBw, PX, OB, by simpa using KOF, HP, hid (UpdB.refl _ _ _), hid rfl⟩
 case round =>
  clear PX OB KOF HP hkl hm hBw
  obtain ⟨k', m, acc, kv, hg, rfl, hkk, hkl, hal, hpl, hmn, hmm, hBw, PX, OB, KOF, HP, HU, HRR⟩ := hrel
  obtain ⟨m', rfl⟩ : ∃ m', m = m' + 1 := ⟨m - 1, by omega⟩
  have HR : Hid (Pars.run N (.some fin nt false []) fn lp (left ts k) = _) := hid (HRR.out.trans step_some)
  have hacc : acc.length ≤ 1000 := by omega
  clear HRR
  go_wp2_with fail
  refine (is_any fin _ b ts A c k' fn lp HP.out).mono ?_
  rintro e w1 (⟨hi, hk, rfl, hx, hu⟩ | ⟨hi, rfl, hx, hu⟩)
  ·replace HR := hid (HR.out.trans (Pars.alt_some hi))
   have hub := UpdB.of_upd hu hBw
   replace OB := bg OB hu
   replace KOF := hid (KOF.out.upd hu hbB)
   have HX := hid hx
   replace HU := hid (HU.out.trans hub)
   clear hi hx hu hub
   go_wp2
   go_end0
   exact .inl ⟨pre ++ acc, k' + 1, kv, by rw [HR.out]; rfl, by omega, by omega, by omega, rfl, OB.out, KOF.out, HX.out, HU.out⟩
  replace HR := hid (HR.out.trans (Pars.alt_no hi))
  have hub := UpdB.of_upd hu hBw
  replace OB := bg OB hu
  replace PX := bg PX hu
  replace KOF := hid (KOF.out.upd hu hbB)
  replace HP := hid (HP.out.upd hx hu (by omega))
  replace HU := hid (HU.out.trans hub)
  replace hBw : B ≤ w1.heap.size := Nat.le_trans hBw hu.size
  clear hi hx hu hub
  by_cases y0 : acc.length = 0
  ·have d0 : decide (0 < acc.length) = false := decide_eq_false (by omega)
   have d1 : decide ((0 : Int) < (acc.length : Int)) = false := decide_eq_false (by omega)
   have d2 : ¬ (0 : Int) < (acc.length : Int) := by omega
   have d3 : ¬ 0 < acc.length := by omega
   replace HR : Hid (Pars.run N (.some fin nt false []) fn lp (left ts k) = _) := hid (HR.out.trans (by rw [d0, sep_no]))
   go_wp2_with fail
   refine (HONE.out m' (by omega) w1 (k') (pre ++ acc) kv HP.out PX.out OB.out KOF.out hBw (by omega) (by omega)).mono ?_
   rintro e w2 (⟨l2, k2, kv2, hr, hk2, hkl2, hll2, rfl, hox, hko, hx, hu⟩ | ⟨hr, rfl, hu⟩)
   rotate_left
   ·refine ⟨rfl, .inr ⟨?_, rfl, HU.out.trans hu⟩⟩
    rw [HR.out]
    cases hq : Pars.run m' nt fn lp (left ts (k')) with
    | none => rfl
    | some y => rw [hq] at hr; cases hr
   obtain ⟨y, hy, hyl, hyk⟩ : ∃ y, Pars.run m' nt fn lp (left ts (k')) = some (y, left ts k2) ∧ pre ++ acc ++ [y] = l2 ∧ k' < k2 := by
    cases hq : Pars.run m' nt fn lp (left ts (k')) with
    | none => rw [hq] at hr; cases hr
    | some y =>
     obtain ⟨y1, y2⟩ := y
     rw [hq] at hr
     injection hr with hr
     injection hr with h1 h2
     subst h2
     exact ⟨y1, rfl, h1, got_lt hq hnp⟩
   subst hyl
   replace HR := hid (HR.out.trans (Pars.and_some hy))
   have hln : (acc ++ [y]).length = acc.length + 1 := by simp
   have HLN := hid hln
   have wk : IntKind.i64.wrap ((acc.length : Int) + 1) = (acc.length : Int) + 1 := by rw [IntKind.wrap_i64]; omega
   clear KOF
   replace OB := hid hox
   have KOA : Hid (KO _ B oa (pre ++ (acc ++ [y])) kv2) := hid (by rw [← List.append_assoc]; exact hko)
   replace PX := hid (PX.out.updB hu hpB hpb)
   replace HP := hid (HP.out.updB hx hu hkl2 HA.out)
   replace HU := hid (HU.out.trans hu)
   replace hBw : B ≤ w2.heap.size := Nat.le_trans hBw hu.size
   clear hr hox hko hx hu hy hln
   go_wp2
   go_roundg (ts.length - k2)
   case measure => omega
   case rel => exact ⟨k2, m', acc ++ [y], kv2, by omega, by rw [HLN.out]; first | rfl | (rw [y0]; rfl), by omega, hkl2, by rw [HLN.out]; omega, by rw [← List.append_assoc]; exact hll2, by omega, by omega, hBw, PX, OB, KOA, HP, HU, hid (HR.out.trans (by rw [HLN.out, decide_eq_true (show 0 < acc.length + 1 by omega)]))⟩
  ·have d0 : decide (0 < acc.length) = true := decide_eq_true (by omega)
   have d1 : decide ((0 : Int) < (acc.length : Int)) = true := decide_eq_true (by omega)
   have d2 : (0 : Int) < (acc.length : Int) := by omega
   have d3 : 0 < acc.length := by omega
   replace HR : Hid (Pars.run N (.some fin nt false []) fn lp (left ts k) = _) := hid (HR.out.trans (by rw [d0, sep_yes]))
   go_wp2_with fail
   refine (must_any [44] _ b ts A c k' fn lp HP.out).mono ?_
   rintro e w2 (⟨hi, hk, rfl, hx, hu⟩ | ⟨hi, rfl, hu⟩)
   rotate_left
   ·exact ⟨rfl, .inr ⟨by rw [HR.out, Pars.must_no hi]; rfl, rfl, HU.out.trans (UpdB.of_upd hu hBw)⟩⟩
   replace HR := hid (HR.out.trans (Pars.must_some hi))
   have hub := UpdB.of_upd hu hBw
   replace OB := bg OB hu
   replace PX := bg PX hu
   replace KOF := hid (KOF.out.upd hu hbB)
   replace HP := hid (HP.out.upd hx hu (by omega))
   replace HU := hid (HU.out.trans hub)
   replace hBw : B ≤ w2.heap.size := Nat.le_trans hBw hu.size
   clear hi hx hu hub
   go_wp2_with fail
   refine (HONE.out m' (by omega) w2 (k' + 1) (pre ++ acc) kv HP.out PX.out OB.out KOF.out hBw (by omega) (by omega)).mono ?_
   rintro e w3 (⟨l2, k2, kv2, hr, hk2, hkl2, hll2, rfl, hox, hko, hx, hu⟩ | ⟨hr, rfl, hu⟩)
   rotate_left
   ·refine ⟨rfl, .inr ⟨?_, rfl, HU.out.trans hu⟩⟩
    rw [HR.out]
    cases hq : Pars.run m' nt fn lp (left ts (k' + 1)) with
    | none => rfl
    | some y => rw [hq] at hr; cases hr
   obtain ⟨y, hy, hyl, hyk⟩ : ∃ y, Pars.run m' nt fn lp (left ts (k' + 1)) = some (y, left ts k2) ∧ pre ++ acc ++ [y] = l2 ∧ k' + 1 < k2 := by
    cases hq : Pars.run m' nt fn lp (left ts (k' + 1)) with
    | none => rw [hq] at hr; cases hr
    | some y =>
     obtain ⟨y1, y2⟩ := y
     rw [hq] at hr
     injection hr with hr
     injection hr with h1 h2
     subst h2
     exact ⟨y1, rfl, h1, got_lt hq hnp⟩
   subst hyl
   replace HR := hid (HR.out.trans (Pars.and_some hy))
   have hln : (acc ++ [y]).length = acc.length + 1 := by simp
   have HLN := hid hln
   have wk : IntKind.i64.wrap ((acc.length : Int) + 1) = (acc.length : Int) + 1 := by rw [IntKind.wrap_i64]; omega
   clear KOF
   replace OB := hid hox
   have KOA : Hid (KO _ B oa (pre ++ (acc ++ [y])) kv2) := hid (by rw [← List.append_assoc]; exact hko)
   replace PX := hid (PX.out.updB hu hpB hpb)
   replace HP := hid (HP.out.updB hx hu hkl2 HA.out)
   replace HU := hid (HU.out.trans hu)
   replace hBw : B ≤ w3.heap.size := Nat.le_trans hBw hu.size
   clear hr hox hko hx hu hy hln
   go_wp2
   go_roundg (ts.length - k2)
   case measure => omega
   case rel => exact ⟨k2, m', acc ++ [y], kv2, by omega, by rw [HLN.out]; first | rfl | (rw [y0]; rfl), by omega, hkl2, by rw [HLN.out]; omega, by rw [← List.append_assoc]; exact hll2, by omega, by omega, hBw, PX, OB, KOA, HP, HU, hid (HR.out.trans (by rw [HLN.out, decide_eq_true (show 0 < acc.length + 1 by omega)]))⟩
end Go.Proofs.YtonjdlialejedaaGreatDoor
namespace Go.Proofs.YtonjdlialejedaaGreatDoor
open Go.Lib (hid)
open Go.RowKit
theorem box_cells {w : World} {b : Nat} {t : TypeId} : ∀ (vs : List Value) (o : Nat) (L : List Value) (w : World), Box w b t L.toArray → o + vs.length ≤ L.length →
  Box (w.setCells b o vs) b t (L.take o ++ (vs ++ L.drop (o + vs.length))).toArray
 | [], o, L, w, h, _ => by simpa [World.setCells] using h
 | v :: vs, o, L, w, h, hl => by
  simp only [List.length_cons] at hl
  have h1 := h.set o v
  rw [List.setIfInBounds_toArray] at h1
  have h2 := box_cells (w := w) vs (o + 1) (L.set o v) _ h1 (by simp; omega)
  have e1 : (L.set o v).take (o + 1) = L.take o ++ [v] := by
   rw [List.take_add_one, List.getElem?_set_self (by omega), List.take_set_of_le (Nat.le_refl _)]
   rfl
  have e2 : (L.set o v).drop (o + 1 + vs.length) = L.drop (o + (vs.length + 1)) := by
   rw [List.drop_set_of_lt (by omega), show o + 1 + vs.length = o + (vs.length + 1) by omega]
  rw [e1, e2] at h2
  simpa [World.setCells] using h2
theorem upd_cells {b : Nat} : ∀ (vs : List Value) (o : Nat) (w : World), Upd w (w.setCells b o vs) b
 | [], _, w => Upd.refl w b
 | v :: vs, o, w => by
  have h := upd_cells (b := b) vs (o + 1) (w.setCell ⟨b, o, none⟩ v)
  exact ((Upd.refl w b).set (p := ⟨b, o, none⟩) (.inl rfl) v).trans h
theorem Box.there {w : World} {b o n : Nat} {t : TypeId} {cur : List Value} (h : Box w b t cur.toArray) (hn : o + n ≤ cur.length) : w.there b o n := fun j hj => by
 rw [h.cell, h.frozen, List.getElem?_toArray, List.getElem?_eq_getElem (by omega)]
 exact ⟨rfl, rfl⟩
theorem size_cells {b : Nat} : ∀ (vs : List Value) (o : Nat) (w : World), (w.setCells b o vs).heap.size = w.heap.size
 | [], _, _ => rfl
 | v :: vs, o, w => (size_cells vs (o + 1) (w.setCell ⟨b, o, none⟩ v)).trans (by simp [World.setCell])
end Go.Proofs.YtonjdlialejedaaGreatDoor
