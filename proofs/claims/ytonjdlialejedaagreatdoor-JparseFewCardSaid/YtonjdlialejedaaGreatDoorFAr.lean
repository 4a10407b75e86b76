/-
  Texts that the law leans on: PxC, PxB, PxG, PlF, PlG, PlK. Conditions: as each says.
-/
import Derived.Test.YtonjdlialejedaaGreatDoorFAq
import Derived.Test.YtonjdlialejedaaGreatDoorFAk
import Derived.Test.YtonjdlialejedaaGreatDoorFAo
import Derived.Test.YtonjdlialejedaaGreatDoorFAl
import Derived.Test.YtonjdlialejedaaGreatDoorFAb
import Derived.Test.YtonjdlialejedaaGreatDoorFAj
import Derived.Test.YtonjdlialejedaaGreatDoorFAa
set_option linter.unusedSimpArgs false
set_option linter.unusedVariables false
namespace Wri
open Pars
def livesIn : Bs := [120, 61, 49, 43, 50, 42, 40, 51, 45, 121, 41, 59]
def livesOut : Bs := [120, 32, 61, 32, 49, 32, 43, 32, 50, 32, 42, 32, 40, 51, 32, 45, 32, 121, 41, 59]
def livesOk : Bool := match parse livesIn with
 | .ok n => (match write n with | .ok s => decide (s = livesOut) | _ => false) && decide (Pars.deep n = 7)
 | _ => false
theorem lives_ok : livesOk = true := by decide +kernel
theorem lives_is : ∃ n, parse livesIn = .ok n ∧ write n = .ok livesOut ∧ Pars.deep n = 7 := by
 have h := lives_ok
 unfold livesOk at h
 cases hp : parse livesIn with
 | error e => rw [hp] at h; cases h
 | ok n =>
  rw [hp] at h
  simp only [Bool.and_eq_true, decide_eq_true_eq] at h
  refine ⟨n, rfl, ?_, h.2⟩
  have h1 := h.1
  cases hw : write n with
  | error e => rw [hw] at h1; cases h1
  | ok s => rw [hw] at h1; simp only [decide_eq_true_eq] at h1; rw [h1]
end Wri
namespace Go.Proofs.YtonjdlialejedaaGreatDoor
open Go.Lib (hid)
open Go.RowKit
theorem all_hit {α : Type} {p : α → Bool} {l : List α} {k : Nat} {x : α} (h : l[k]? = some x) (hp : p x = false) : l.all p = false := by
 rw [List.all_eq_false]
 exact ⟨x, List.mem_of_getElem? h, by rw [hp]; simp⟩
theorem all_yes {α : Type} {p : α → Bool} {l : List α} (h : ∀ (j : Nat) (y : α), l[j]? = some y → p y = true) : l.all p = true := by
 rw [List.all_eq_true]
 intro x hx
 obtain ⟨j, hj⟩ := List.getElem?_of_mem hx
 exact h j x hj
def errs (l : List Int) : Array Value := (l.map (Value.int .i64)).toArray
set_option maxHeartbeats 2000000 in
theorem ok_any (l : List Int) (b : Nat) (w : World) (hb : Box w b 25 (errs l)) (hl : l.length ≤ 100) :
  Calls Tryz.prog 12 #[.slice (some ⟨b, 0, none⟩) l.length l.length] w fun e w' => e = .returned (.bool (l.all fun n => decide (n = 0))) ∧ w' = w := by
 have HB := hid hb
 obtain ⟨n, hn⟩ : ∃ n, l.length = n := ⟨_, rfl⟩
 have HN := hid hn
 rw [hn] at hl ⊢
 clear hb hn
 go_enter Tryz.func12, Tryz.ntmps12
 go_upto_region 2 with fail
 go_loopg [4, 7] n (fun gg _ s7 wr => ∃ j : Nat, j ≤ n ∧ n - j ≤ gg ∧ s7 = .int .i64 (j : Int) ∧ wr = w ∧ Hid (∀ (i : Nat) (x : Int), i < j → l[i]? = some x → x = 0))
 case atStart => exact ⟨0, Nat.zero_le _, by omega, rfl, rfl, fun i x hi => absurd hi (Nat.not_lt_zero _)⟩
 case round =>
  obtain ⟨j, hj, hgg, rfl, rfl, AA⟩ := hrel
  by_cases hlt : j < n
  ·have hlt2 : decide ((j : Int) < (n : Int)) = true := decide_eq_true (by omega)
   have hltz : (j : Int) < (n : Int) := by omega
   obtain ⟨x, hx⟩ : ∃ x, l[j]? = some x := ⟨_, List.getElem?_eq_getElem (by rw [HN.out]; exact hlt)⟩
   have cx : wr.cell? ⟨b, j, none⟩ = some (.int .i64 x) := by
    rw [HB.out.cell j]
    simp [errs, hx]
   have HX := hid hx
   clear hx
   by_cases y : x = 0
   ·subst y
    go_wp2
    go_roundg (n - (j + 1))
    case measure => omega
    case rel =>
     refine ⟨j + 1, by omega, by omega, by go_num, rfl, (show Hid _ from fun i x hi hx => ?_)⟩
     by_cases e : i = j
     ·subst e
      have := HX.out
      rw [hx] at this
      injection this
     ·exact AA.out i x (by omega) hx
   ·have e1 : (x != 0) = true := by simp [y]
    have Y := hid y
    clear y
    go_wp2
    go_ret
    exact ⟨ret_bool (all_hit HX.out (decide_eq_false Y.out)).symm, rfl⟩
  ·have hlt2 : decide ((j : Int) < (n : Int)) = false := decide_eq_false (by omega)
   go_wp2
   go_ret
   exact ⟨ret_bool (all_yes (fun i x hi => decide_eq_true (AA.out i x (by have := (List.getElem?_eq_some_iff.1 hi).1; have := HN.out; omega) hi))).symm, rfl⟩
def TruthOut (w : World) (e : Ending) (w' : World) : Prop := e = .returned (.bool true) ∧ Below w.heap.size w w'
theorem ok2_any (a b : Int) (w1 : World) : Calls Tryz.prog 12 #[.slice (some ⟨w1.heap.size, 0, none⟩) 2 2] (w1.alloc (.cells #[.int .i64 a, .int .i64 b] 25)) fun e w' => e = .returned (.bool (decide (a = 0) && decide (b = 0))) ∧ Below w1.heap.size w1 w' :=
 (ok_any [a, b] w1.heap.size _ (Box.new w1 _ _) (by simp)).mono fun e w' ⟨h1, h2⟩ => ⟨by rw [h1]; simp, by rw [h2]; exact below1 w1 _⟩
set_option maxRecDepth 100000 in
set_option maxHeartbeats 4000000 in
theorem lives_true (w : World) (he : EnvW w) : Calls Tryz.prog 10 #[] w (TruthOut w) := by
 have HE := hid he
 have HP : Hid (Calls Tryz.prog 9 #[.string ⟨#[120, 61, 49, 43, 50, 42, 40, 51, 45, 121, 41, 59]⟩] w (ParseOut Wri.livesIn w)) := hid (parse_any Wri.livesIn w he.sp (by have := he.big; omega) (by decide))
 have hbig := he.big
 obtain ⟨n, hn1, hn2, hn3⟩ := Wri.lives_is
 have HN1 := hid hn1
 have HN2 := hid hn2
 have HN3 := hid hn3
 have HWG := hid (Pars.parse_wg hn1)
 have HSZ := hid (Nat.le_trans (size_wg n) (Pars.parse_wg hn1))
 clear he hn1 hn2 hn3
 go_enter Tryz.func10, Tryz.ntmps10
 go_wp2_with fail
 refine HP.out.mono ?_
 rintro e w1 (⟨n', cs, hp, rfl, hn, hw1⟩ | ⟨k, hp, _, rfl, hw1⟩)
 rotate_left
 ·exfalso; rw [HN1.out] at hp; cases hp
 rw [HN1.out] at hp
 injection hp with hp
 subst hp
 have HU := hid hw1
 have HN := hid hn
 have hinf : (Tryz.prog.info? 24).map (·.size) = some cs.size := by rw [NodeAt.size hn]; exact info_nod
 have HINF := hid hinf
 have H4 : Hid ((4 : Nat) = cs.size) := hid (NodeAt.size hn).symm
 have HONE := hid (NodeAt.one hn)
 clear hw1 hn hinf
 go_upto_region 2 with (refine wpList_store_box rfl 24 (.tmp 1) (.tmp 7) rfl w1.heap.size cs rfl rfl 24 _ (Box.new w1 _ _) HINF.out H4.out HONE.out ?_; intro w2 hx2 hu2 hz2; have HZ2 := hid hz2; clear hz2)
 have hb : Below w1.heap.size w1 w2 := (below1 w1 _).trans (hu2.own (Nat.le_refl _) (by simp))
 have EB := hid hx2
 replace HN := hid (HN.out.below hb)
 replace HU := hid (HU.out.trans (hb.mono HU.out.size))
 clear hx2 hu2 hb
 have eb := EB.out
 go_wp2_with (refine wpList_load_row rfl 24 (.tmp 1) rfl w1.heap.size rfl _ cs (0, 0) _ eb Tryz.underlying24 rfl HINF.out ?_)
 refine (write_any (by have := HWG.out; omega) HN.out (HE.out.below HU.out hbig)).mono ?_
 rintro e w3 (⟨s, hs, rfl, hb⟩ | ⟨k, hs, _, rfl, hb⟩)
 rotate_left
 ·exfalso; rw [HN2.out] at hs; cases hs
 rw [HN2.out] at hs
 injection hs with hs
 subst hs
 have hel := EB.out.lt
 replace EB := hid (EB.out.below hb hel)
 replace HN := hid (HN.out.below hb)
 replace HU := hid (HU.out.trans (hb.mono HU.out.size))
 clear hb eb hel
 have hso : byt Wri.livesOut = ⟨#[120, 32, 61, 32, 49, 32, 43, 32, 50, 32, 42, 32, 40, 51, 32, 45, 32, 121, 41, 59]⟩ := rfl
 rw [hso]
 clear hso
 go_wp2_with fail
 refine (ok2_any 0 0 w3).mono ?_
 rintro e w4 ⟨rfl, hb⟩
 have hel := EB.out.lt
 replace EB := hid (EB.out.below hb hel)
 replace HN := hid (HN.out.below hb)
 replace HU := hid (HU.out.trans (hb.mono HU.out.size))
 clear hb hel
 have eb := EB.out
 go_wp2_with (refine wpList_load_row_g (by kernel_rfl) 24 (.tmp 1) rfl w1.heap.size rfl _ cs _ eb Tryz.underlying24 rfl HINF.out ?_)
 refine (deep_any HN.out (by have := HSZ.out; omega)).mono ?_
 rw [HN3.out]
 rintro e w5 ⟨rfl, hb⟩
 replace HU := hid (HU.out.trans (hb.mono HU.out.size))
 clear hb eb
 go_wp2
 go_ret
 exact ⟨rfl, HU.out⟩
end Go.Proofs.YtonjdlialejedaaGreatDoor
namespace Go.Proofs.YtonjdlialejedaaGreatDoor
open Go.Lib (hid)
open Go.RowKit
theorem same_mk (k nu : Int) (t : List UInt8) (l : List Pars.Node) (k2 nu2 : Int) (t2 : List UInt8) (l2 : List Pars.Node) : Pars.same (.mk k nu t l) (.mk k2 nu2 t2 l2) = (decide (k = k2) && (decide (nu = nu2) && (decide (t = t2) && Pars.sames l l2))) := by rw [Pars.same]
theorem sames_len : ∀ (l l2 : List Pars.Node), Pars.sames l l2 = true → l.length = l2.length
 | [], [], _ => rfl
 | a :: l, b :: m, h => by
  simp only [Pars.sames, Bool.and_eq_true] at h
  simp [sames_len l m h.2]
 | [], _ :: _, h => by simp [Pars.sames] at h
 | _ :: _, [], h => by simp [Pars.sames] at h
theorem sames_all : ∀ (l l2 : List Pars.Node), l.length = l2.length → (∀ (j : Nat) (x y : Pars.Node), l[j]? = some x → l2[j]? = some y → Pars.same x y = true) → Pars.sames l l2 = true
 | [], [], _, _ => by simp [Pars.sames]
 | a :: l, b :: m, h, hh => by
  simp only [Pars.sames, Bool.and_eq_true]
  exact ⟨hh 0 a b rfl rfl, sames_all l m (by simpa using h) fun j x y hx hy => hh (j + 1) x y (by simpa using hx) (by simpa using hy)⟩
 | [], _ :: _, h, _ => by simp at h
 | _ :: _, [], h, _ => by simp at h
theorem sames_at : ∀ (l l2 : List Pars.Node), Pars.sames l l2 = true → ∀ (j : Nat) (x y : Pars.Node), l[j]? = some x → l2[j]? = some y → Pars.same x y = true
 | [], [], _, j, x, y, hx, _ => by simp at hx
 | a :: l, b :: m, h, j, x, y, hx, hy => by
  simp only [Pars.sames, Bool.and_eq_true] at h
  cases j with
  | zero => simp at hx hy; subst hx hy; exact h.1
  | succ j => exact sames_at l m h.2 j x y (by simpa using hx) (by simpa using hy)
 | [], _ :: _, h, _, _, _, _, _ => by simp [Pars.sames] at h
 | _ :: _, [], h, _, _, _, _, _ => by simp [Pars.sames] at h
def SameLe (N : Nat) : Prop := ∀ (a b : Pars.Node) (ca cb : Array Value) (w : World) (S S2 : Nat → Prop), Pars.size a ≤ N → Pars.size a ≤ 4611686018427387904 → NodeAt w S a ca → NodeAt w S2 b cb →
  Calls Tryz.prog 13 #[.agg ca, .agg cb] w fun e w' => e = .returned (.bool (Pars.same a b)) ∧ Below w.heap.size w w'
set_option maxRecDepth 100000 in
set_option maxHeartbeats 4000000 in
theorem same_step {N : Nat} (ih : SameLe N) : SameLe (N + 1) := by
 intro a b ca cb w S S2 h hb hn hm
 have IH := hid ih
 obtain ⟨k, nu, t, l⟩ := a
 obtain ⟨k2, nu2, t2, l2⟩ := b
 replace hn := NodeAt.keep (S1 := fun g => g < w.heap.size) (w1 := w) (fun g _ h => h) (Nat.le_refl _) (fun _ _ _ => rfl) hn
 replace hm := NodeAt.keep (S1 := fun g => g < w.heap.size) (w1 := w) (fun g _ h => h) (Nat.le_refl _) (fun _ _ _ => rfl) hm
 simp only [Pars.size] at h hb
 unfold NodeAt at hn hm
 obtain ⟨A, cap, css, rfl, hc1, hc2, hrow, hk⟩ := hn
 obtain ⟨A2, cap2, css2, rfl, hd1, hd2, hrow2, hk2⟩ := hm
 have HROW := hid hrow
 have HK := hid hk
 have HROW2 := hid hrow2
 have HK2 := hid hk2
 have hll := sizes_len l
 clear hrow hk hrow2 hk2 ih
 by_cases y1 : k = k2
 ·subst y1
  by_cases y2 : nu = nu2
  ·subst y2
   by_cases y3 : t = t2
   ·subst y3
    by_cases y4 : l.length = l2.length
    ·have HL := hid y4
     rw [← y4] at hd1 ⊢
     clear y4
     go_enter Tryz.func13, Tryz.ntmps13
     go_upto_region 1 with fail
     refine gen_world (F := fun W => Box W w.heap.size 24 (nc k nu t (.slice A l.length cap)) ∧ Box W (w.heap.size + 1) 24 (nc k nu t (.slice A2 l.length cap2)) ∧ Below w.heap.size w W) ⟨(Box.new w _ _).alloc _, by have := Box.new (w.alloc (.cells (nc k nu t (.slice A l.length cap)) 24 (0, 0))) 24 (nc k nu t (.slice A2 l.length cap2)); simpa using this, (below1 w _).alloc (by simp) _⟩ ?_
     rintro W0 ⟨b0, b1, hU⟩
     have NA := hid b0
     have NB := hid b1
     have HU := hid hU
     clear b0 b1 hU
     have c0 := NA.out.cell 0
     have d0 := NB.out.cell 0
     have c1 := NA.out.cell 1
     have d1 := NB.out.cell 1
     have c2 := NA.out.cell 2
     have d2 := NB.out.cell 2
     have c3 := NA.out.cell 3
     have d3 := NB.out.cell 3
     simp [nc] at c0 d0 c1 d1 c2 d2 c3 d3
     go_upto_region 3 with fail
     go_upto_region 4 with fail
     clear c0 c1 c2 d0 d1 d2 c3 d3
     go_loopg [5, 37] l.length (fun gg _ s37 wr => ∃ j : Nat, j ≤ l.length ∧ l.length - j ≤ gg ∧ s37 = .int .i64 (j : Int) ∧ Hid (∀ (i : Nat) (x y : Pars.Node), i < j → l[i]? = some x → l2[i]? = some y → Pars.same x y = true) ∧ Hid (Box wr w.heap.size 24 (nc k nu t (.slice A l.length cap))) ∧ Hid (Box wr (w.heap.size + 1) 24 (nc k nu t (.slice A2 l.length cap2))) ∧ Hid (Below w.heap.size w wr))
     case atStart => exact ⟨0, Nat.zero_le _, by omega, rfl, hid (fun i x y hi => absurd hi (Nat.not_lt_zero _)), NA, NB, HU⟩
     case round =>
      clear NA NB HU
      obtain ⟨j, hj, hg, rfl, AA, NA, NB, HU⟩ := hrel
      by_cases hlt : j < l.length
      ·have hltz : (j : Int) < (l.length : Int) := by omega
       have hltd : decide ((j : Int) < (l.length : Int)) = true := decide_eq_true hltz
       have wj : IntKind.i64.wrap ((j : Int) + 1) = (j : Int) + 1 := by rw [IntKind.wrap_i64]; omega
       obtain ⟨x, hx⟩ : ∃ x, l[j]? = some x := ⟨_, List.getElem?_eq_getElem (by have := HL.out; omega)⟩
       obtain ⟨xcp, g0, o0, rfl, hg0, h4p, hnp, hrp⟩ := kid_at HK.out HROW.out hx
       obtain ⟨p0, p1, p2, p3, rfl⟩ := four h4p
       have HNp := hid hnp
       have HGp : Hid (∀ W, Below w.heap.size w W → W.rangeAt g0 (o0 + j * 4) [p0, p1, p2, p3]) := hid hrp
       have HXp := hid hx
       clear hnp hrp h4p
       obtain ⟨y, hy⟩ : ∃ x, l2[j]? = some x := ⟨_, List.getElem?_eq_getElem (by have := HL.out; omega)⟩
       obtain ⟨xcq, g1, o1, rfl, hg1, h4q, hnq, hrq⟩ := kid_at HK2.out HROW2.out hy
       obtain ⟨q0, q1, q2, q3, rfl⟩ := four h4q
       have HNq := hid hnq
       have HGq : Hid (∀ W, Below w.heap.size w W → W.rangeAt g1 (o1 + j * 4) [q0, q1, q2, q3]) := hid hrq
       have HXq := hid hy
       clear hnq hrq h4q
       have hxs := size_mem (List.mem_of_getElem? hx)
       clear hx hy
       have HINL : Hid (∀ a b c d : Value, (Tryz.prog.info? 24).map (·.size) = some [a, b, c, d].length) := hid (fun a b c d => info_nod)
       go_upto_region 6 with fail
       refine wp_region_held_drew (S := fun w' => Box w' w.heap.size 24 (nc k nu t (.slice (some ⟨g0, o0, none⟩) l.length cap)) ∧ Box w' (w.heap.size + 1) 24 (nc k nu t (.slice (some ⟨g1, o1, none⟩) l.length cap2)) ∧ Below w.heap.size w w') (by kernel_rfl) ⟨NA.out.drew, NB.out.drew, HU.out.drew⟩ (fun hHeld => ?_)
       obtain ⟨wd, hwd⟩ : ∃ wd, wr.drew = wd := ⟨_, rfl⟩
       have hdr : Below wr.heap.size wr wd := hwd ▸ (Below.refl _ wr).drew
       (try rw [hwd] at hHeld)
       (try rw [hwd])
       clear hwd hHeld
       replace NA := bl NA hdr
       replace NB := bl NB hdr
       replace HU := hid (HU.out.trans (hdr.mono HU.out.size))
       clear hdr
       refine tH (i := 0) (v := ?_) rfl ?_ ⟨NA.out, NB.out, HU.out⟩ ?_
       rotate_left
       ·intro w hSw
        go_simp
        try (with_reducible rfl)
       (try simp only [Act.put, sq])
       refine tH (i := 1) (v := .slice (some ⟨g0, o0, none⟩) l.length cap) rfl ?_ ⟨NA.out, NB.out, HU.out⟩ ?_
       ·intro w hSw
        have cq := hSw.1.cell 3
        simp [nc] at cq
        go_simp
       (try simp only [Act.put, sq])
       refine tH (i := 2) (v := ?_) rfl ?_ ⟨NA.out, NB.out, HU.out⟩ ?_
       rotate_left
       ·intro w hSw
        go_simp
        try (with_reducible rfl)
       (try simp only [Act.put, sq])
       refine tH (i := 3) (v := .pointer (some ⟨g0, o0 + j * 4, none⟩)) rfl ?_ ⟨NA.out, NB.out, HU.out⟩ ?_
       ·intro w hSw
        go_simp
       (try simp only [Act.put, sq])
       refine wpAnyH_take (i := 4) (v := _) rfl (by kernel_rfl) (by kernel_rfl) (by kernel_rfl) (fun _ _ _ h => h) (yieldsIf_load_mid (by kernel_rfl) 24 (.tmp 43) rfl g0 (o0 + j * 4) rfl [p0, p1, p2, p3] _ (fun _ h => HGp.out _ h.2.2) Tryz.underlying24 rfl (HINL.out _ _ _ _)) ⟨NA.out, NB.out, HU.out⟩ ?_
       (try simp only [Act.put, sq])
       refine tH (i := 5) (v := ?_) rfl ?_ ⟨NA.out, NB.out, HU.out⟩ ?_
       rotate_left
       ·intro w hSw
        go_simp
        try (with_reducible rfl)
       (try simp only [Act.put, sq])
       refine tH (i := 6) (v := .slice (some ⟨g1, o1, none⟩) l.length cap2) rfl ?_ ⟨NA.out, NB.out, HU.out⟩ ?_
       ·intro w hSw
        have cq := hSw.2.1.cell 3
        simp [nc] at cq
        go_simp
       (try simp only [Act.put, sq])
       refine tH (i := 7) (v := ?_) rfl ?_ ⟨NA.out, NB.out, HU.out⟩ ?_
       rotate_left
       ·intro w hSw
        go_simp
        try (with_reducible rfl)
       (try simp only [Act.put, sq])
       refine tH (i := 8) (v := .pointer (some ⟨g1, o1 + j * 4, none⟩)) rfl ?_ ⟨NA.out, NB.out, HU.out⟩ ?_
       ·intro w hSw
        go_simp
       (try simp only [Act.put, sq])
       refine wpAnyH_take (i := 9) (v := _) rfl (by kernel_rfl) (by kernel_rfl) (by kernel_rfl) (fun _ _ _ h => h) (yieldsIf_load_mid (by kernel_rfl) 24 (.tmp 48) rfl g1 (o1 + j * 4) rfl [q0, q1, q2, q3] _ (fun _ h => HGq.out _ h.2.2) Tryz.underlying24 rfl (HINL.out _ _ _ _)) ⟨NA.out, NB.out, HU.out⟩ ?_
       (try simp only [Act.put, sq])
       refine rdH 10 rfl fun K hK => ?_
       go_simp
       refine (IH.out x y _ _ _ _ _ (by omega) (by omega) (HNp.out.belowB HU.out) (HNq.out.belowB HU.out)).mono ?_
       rintro e w3 ⟨rfl, hq⟩
       obtain ⟨sb, hsb⟩ : ∃ b, Pars.same x y = b := ⟨_, rfl⟩
       rw [hsb]
       have HSB := hid hsb
       clear hsb
       replace NA := bl NA hq
       replace NB := bl NB hq
       replace HU := hid (HU.out.trans (hq.mono HU.out.size))
       clear hq
       refine hK.out _ _ ⟨NA.out, NB.out, HU.out⟩ (fun hHeld => ?_)
       clear hK hHeld K
       (try simp only [Act.put, sq])
       refine tH (i := 11) (v := ?_) rfl ?_ ⟨NA.out, NB.out, HU.out⟩ ?_
       rotate_left
       ·intro w hSw
        go_simp
        try (with_reducible rfl)
       (try simp only [Act.put, sq])
       refine wpAnyH_done (by kernel_rfl) ?_ _
       cases sb
       ·go_wp2
        go_ret
        exact ⟨by rw [same_mk, show Pars.sames l l2 = false from by cases hs : Pars.sames l l2 with
         | true => rw [sames_at l l2 hs j x y HXp.out HXq.out] at HSB; exact absurd HSB.out (by decide)
         | false => rfl]; simp, HU.out⟩
       ·go_wp2
        go_roundg (l.length - (j + 1))
        case measure => omega
        case rel =>
         refine ⟨j + 1, by omega, by omega, rfl, (show Hid _ from fun i x' y' hi hx' hy' => ?_), NA, NB, HU⟩
         by_cases e : i = j
         ·subst e
          have e1 := HXp.out
          have e2 := HXq.out
          rw [hx'] at e1
          rw [hy'] at e2
          injection e1 with e1
          injection e2 with e2
          rw [e1, e2]
          exact HSB.out
         ·exact AA.out i x' y' (by omega) hx' hy'
      ·have hltz : ¬ (j : Int) < (l.length : Int) := by omega
       have hltd : decide ((j : Int) < (l.length : Int)) = false := decide_eq_false hltz
       go_wp2
       go_ret
       exact ⟨by rw [same_mk, sames_all l l2 HL.out fun i x y hx hy => AA.out i x y (by have := (List.getElem?_eq_some_iff.1 hx).1; omega) hx hy]; simp, HU.out⟩
    ·have Y : Hid (Pars.sames l l2 = false) := hid (by cases hs : Pars.sames l l2 with
  | true => exact absurd (sames_len l l2 hs) y4
  | false => rfl)
     have f0 : ¬ ((l.length : Int) = (l2.length : Int)) := by omega
     have f1 : ((l.length : Int) == (l2.length : Int)) = false := bn f0
     have f2 : ((l.length : Int) != (l2.length : Int)) = true := by simp [bne, f1]
     have f3 : (l.length == l2.length) = false := bn y4
     have f4 : (l.length != l2.length) = true := by simp [bne, f3]
     clear y4
     go_enter Tryz.func13, Tryz.ntmps13
     go_upto_region 1 with fail
     refine gen_world (F := fun W => Box W w.heap.size 24 (nc k nu t (.slice A l.length cap)) ∧ Box W (w.heap.size + 1) 24 (nc k nu t (.slice A2 l2.length cap2)) ∧ Below w.heap.size w W) ⟨(Box.new w _ _).alloc _, by have := Box.new (w.alloc (.cells (nc k nu t (.slice A l.length cap)) 24 (0, 0))) 24 (nc k nu t (.slice A2 l2.length cap2)); simpa using this, (below1 w _).alloc (by simp) _⟩ ?_
     rintro W0 ⟨b0, b1, hU⟩
     have NA := hid b0
     have NB := hid b1
     have HU := hid hU
     clear b0 b1 hU
     have c0 := NA.out.cell 0
     have d0 := NB.out.cell 0
     have c1 := NA.out.cell 1
     have d1 := NB.out.cell 1
     have c2 := NA.out.cell 2
     have d2 := NB.out.cell 2
     have c3 := NA.out.cell 3
     have d3 := NB.out.cell 3
     simp [nc] at c0 d0 c1 d1 c2 d2 c3 d3
     go_wp2
     go_ret
     exact ⟨by rw [same_mk]; simp [Y.out], HU.out⟩
   ·have Y := hid y3
    have hT : byt t ≠ byt t2 := fun e => y3 (byt_inj e)
    obtain ⟨q1, q2, q3⟩ := same_no hT
    have q4 := of_decide_eq_false q2
    have f3 : ((byt t).toList != (byt t2).toList) = true := by simp [bne, q1]
    clear y3
    go_enter Tryz.func13, Tryz.ntmps13
    go_upto_region 1 with fail
    refine gen_world (F := fun W => Box W w.heap.size 24 (nc k nu t (.slice A l.length cap)) ∧ Box W (w.heap.size + 1) 24 (nc k nu t2 (.slice A2 l2.length cap2)) ∧ Below w.heap.size w W) ⟨(Box.new w _ _).alloc _, by have := Box.new (w.alloc (.cells (nc k nu t (.slice A l.length cap)) 24 (0, 0))) 24 (nc k nu t2 (.slice A2 l2.length cap2)); simpa using this, (below1 w _).alloc (by simp) _⟩ ?_
    rintro W0 ⟨b0, b1, hU⟩
    have NA := hid b0
    have NB := hid b1
    have HU := hid hU
    clear b0 b1 hU
    have c0 := NA.out.cell 0
    have d0 := NB.out.cell 0
    have c1 := NA.out.cell 1
    have d1 := NB.out.cell 1
    have c2 := NA.out.cell 2
    have d2 := NB.out.cell 2
    simp [nc] at c0 d0 c1 d1 c2 d2
    go_wp2
    go_ret
    exact ⟨by rw [same_mk]; simp [Y.out], HU.out⟩
  ·have Y := hid y2
   have f1 : (nu == nu2) = false := bn y2
   have f2 : (nu != nu2) = true := by simp [bne, f1]
   clear y2
   go_enter Tryz.func13, Tryz.ntmps13
   go_upto_region 1 with fail
   refine gen_world (F := fun W => Box W w.heap.size 24 (nc k nu t (.slice A l.length cap)) ∧ Box W (w.heap.size + 1) 24 (nc k nu2 t2 (.slice A2 l2.length cap2)) ∧ Below w.heap.size w W) ⟨(Box.new w _ _).alloc _, by have := Box.new (w.alloc (.cells (nc k nu t (.slice A l.length cap)) 24 (0, 0))) 24 (nc k nu2 t2 (.slice A2 l2.length cap2)); simpa using this, (below1 w _).alloc (by simp) _⟩ ?_
   rintro W0 ⟨b0, b1, hU⟩
   have NA := hid b0
   have NB := hid b1
   have HU := hid hU
   clear b0 b1 hU
   have c0 := NA.out.cell 0
   have d0 := NB.out.cell 0
   have c1 := NA.out.cell 1
   have d1 := NB.out.cell 1
   simp [nc] at c0 d0 c1 d1
   go_wp2
   go_ret
   exact ⟨by rw [same_mk]; simp [Y.out], HU.out⟩
 ·have Y := hid y1
  have f1 : (k == k2) = false := bn y1
  have f2 : (k != k2) = true := by simp [bne, f1]
  clear y1
  go_enter Tryz.func13, Tryz.ntmps13
  go_upto_region 1 with fail
  refine gen_world (F := fun W => Box W w.heap.size 24 (nc k nu t (.slice A l.length cap)) ∧ Box W (w.heap.size + 1) 24 (nc k2 nu2 t2 (.slice A2 l2.length cap2)) ∧ Below w.heap.size w W) ⟨(Box.new w _ _).alloc _, by have := Box.new (w.alloc (.cells (nc k nu t (.slice A l.length cap)) 24 (0, 0))) 24 (nc k2 nu2 t2 (.slice A2 l2.length cap2)); simpa using this, (below1 w _).alloc (by simp) _⟩ ?_
  rintro W0 ⟨b0, b1, hU⟩
  have NA := hid b0
  have NB := hid b1
  have HU := hid hU
  clear b0 b1 hU
  have c0 := NA.out.cell 0
  have d0 := NB.out.cell 0
  simp [nc] at c0 d0
  go_wp2
  go_ret
  exact ⟨by rw [same_mk]; simp [Y.out], HU.out⟩
theorem same_le : ∀ N, SameLe N
 | 0 => by intro a b ca cb w S S2 h; cases a; simp [Pars.size] at h
 | N + 1 => same_step (same_le N)
theorem same_any {a b : Pars.Node} {ca cb : Array Value} {w : World} {S S2 : Nat → Prop} (h : Pars.size a ≤ 4611686018427387904) (hn : NodeAt w S a ca) (hm : NodeAt w S2 b cb) :
  Calls Tryz.prog 13 #[.agg ca, .agg cb] w fun e w' => e = .returned (.bool (Pars.same a b)) ∧ Below w.heap.size w w' := same_le _ a b ca cb w S S2 (Nat.le_refl _) h hn hm
end Go.Proofs.YtonjdlialejedaaGreatDoor
namespace Go.Proofs.YtonjdlialejedaaGreatDoor
open Go.Lib (hid)
open Go.RowKit
def PC (s : List UInt8) (n : Pars.Node) (k : Int) : Prop := (Pars.parse s = .ok n ∧ k = 0) ∨ (n = .mk 0 0 [] [] ∧ (k = 2 ∧ Pars.parse s = .error 2 ∨ k = 4 ∧ Pars.parse s = .error 4))
theorem parse_c (s : List UInt8) (w : World) (he : EnvW w) (hm : s.length ≤ 9223372036854775807) :
  Calls Tryz.prog 9 #[.string (byt s)] w fun e w' => ∃ n cs k, e = .returned (.tuple #[.agg cs, .int .i64 k]) ∧ NodeAt w' (fun _ => True) n cs ∧ Below w.heap.size w w' ∧ PC s n k :=
 (parse_any s w he.sp (by have := he.big; omega) hm).mono (by
  rintro e w' (⟨n, cs, hp, rfl, hn, hb⟩ | ⟨k, hp, hk, rfl, hb⟩)
  ·exact ⟨n, cs, 0, rfl, hn.weak (fun _ _ => trivial), hb, .inl ⟨hp, rfl⟩⟩
  ·refine ⟨.mk 0 0 [] [], _, k, rfl, NodeAt.leaf _ _ 0 0 [], hb, .inr ⟨rfl, ?_⟩⟩
   rcases hk with rfl | rfl
   ·exact .inl ⟨rfl, hp⟩
   ·exact .inr ⟨rfl, hp⟩)
def WQ (n : Pars.Node) (t : List UInt8) (k : Int) : Prop := (Wri.write n = .ok t ∧ k = 0) ∨ (t = [] ∧ (k = 2 ∧ Wri.write n = .error 2 ∨ k = 3 ∧ Wri.write n = .error 3))
theorem write_c {n : Pars.Node} {cs : Array Value} {w : World} {S : Nat → Prop} (hM : Wri.wg n ≤ 1048576) (hn : NodeAt w S n cs) (he : EnvW w) :
  Calls Tryz.prog 11 #[.agg cs] w fun e w' => ∃ t k, e = .returned (.tuple #[.string (byt t), .int .i64 k]) ∧ Below w.heap.size w w' ∧ WQ n t k :=
 (write_any hM hn he).mono (by
  rintro e w' (⟨t, ht, rfl, hb⟩ | ⟨k, ht, hk, rfl, hb⟩)
  ·exact ⟨t, 0, rfl, hb, .inl ⟨ht, rfl⟩⟩
  ·refine ⟨[], k, rfl, hb, .inr ⟨rfl, ?_⟩⟩
   rcases hk with rfl | rfl
   ·exact .inl ⟨rfl, ht⟩
   ·exact .inr ⟨rfl, ht⟩)
theorem pc_wg {s : List UInt8} {n : Pars.Node} {k : Int} (h : PC s n k) : Wri.wg n ≤ 3001 := by
 rcases h with ⟨h, _⟩ | ⟨rfl, _⟩
 ·exact Pars.parse_wg h
 ·simp [Wri.wg, Wri.wgs]
theorem pc_size {s : List UInt8} {n : Pars.Node} {k : Int} (h : PC s n k) : Pars.size n ≤ 4611686018427387904 := by
 have h1 := pc_wg h
 have h2 := size_wg n
 omega
end Go.Proofs.YtonjdlialejedaaGreatDoor
namespace Pars
open Lexy (Tk sg kw nm)
def Ev (nt : Nt) (fn lp : Bool) (l : List Tk) (x : Node) (r : List Tk) : Prop := ∃ F, ∀ G, F ≤ G → run G nt fn lp l = some (x, r)
theorem ev_of {nt : Nt} {fn lp : Bool} {l r : List Tk} {x : Node} (F : Nat) (h : ∀ G, F ≤ G → run (G + 1) nt fn lp l = some (x, r)) : Ev nt fn lp l x r :=
 ⟨F + 1, fun G hG => by obtain ⟨g, rfl⟩ : ∃ g, G = g + 1 := ⟨G - 1, by omega⟩; exact h g (by omega)⟩
theorem Ev.one {nt : Nt} {fn lp : Bool} {l r : List Tk} {x : Node} (h : Ev nt fn lp l x r) : ∃ n, run (n + 1) nt fn lp l = some (x, r) := by
 obtain ⟨F, h⟩ := h; exact ⟨F, h _ (by omega)⟩
theorem is_sg (s : Bs) (l : List Tk) : is s (sg s :: l) = some l := by simp [is, sg]
theorem is_kw (s : Bs) (l : List Tk) : is s (kw s :: l) = some l := by simp [is, kw]
theorem no_sg {s s' : Bs} (h : s' ≠ s) (l : List Tk) : is s (sg s' :: l) = none := by simp [is, sg, h]
theorem no_kw {s s' : Bs} (h : s' ≠ s) (l : List Tk) : is s (kw s' :: l) = none := by simp [is, kw, h]
theorem no_k {t : Tk} (h4 : t.kind ≠ 4) (h5 : t.kind ≠ 5) (s : Bs) (l : List Tk) : is s (t :: l) = none := by simp [is, h4, h5]
theorem named_nm (t : Bs) (l : List Tk) (f : Bs → List Tk → R) : named (nm t :: l) f = f t l := by simp [named, tok, nm]
def fol (r : Nat) : List Bs := (ranks.drop r).flatten ++ [[40], [91], [46]]
def Stop (r : Nat) (m : List Tk) : Prop := ∀ s ∈ fol r, is s m = none
def StopE (m : List Tk) : Prop := Stop 0 m ∧ is [61] m = none ∧ is [63] m = none
theorem Stop.up {r : Nat} {m : List Tk} (h : Stop r m) : Stop (r + 1) m := fun s hs => h s (by
 unfold fol at hs ⊢
 rcases List.mem_append.1 hs with hs | hs
 ·refine List.mem_append_left _ ?_
  rw [List.mem_flatten] at hs ⊢
  obtain ⟨a, ha, hs⟩ := hs
  refine ⟨a, ?_, hs⟩
  rw [← List.drop_drop] at ha
  exact List.mem_of_mem_drop ha
 ·exact List.mem_append_right _ hs)
theorem Stop.le {r q : Nat} {m : List Tk} (h : Stop r m) (hq : r ≤ q) : Stop q m := by
 induction hq with
 | refl => exact h
 | step _ ih => exact ih.up
theorem Stop.rank {r : Nat} {m : List Tk} (h : Stop r m) : ∀ s ∈ ranks.getD r [], is s m = none := fun s hs => h s (by
 unfold fol
 refine List.mem_append_left _ (List.mem_flatten.2 ⟨ranks.getD r [], ?_, hs⟩)
 by_cases hr : r < ranks.length
 ·rw [List.getD_eq_getElem?_getD, List.getElem?_eq_getElem hr, Option.getD_some, List.drop_eq_getElem_cons hr]
  exact List.mem_cons_self
 ·rw [List.getD_eq_getElem?_getD, List.getElem?_eq_none (by omega)] at hs; cases hs)
theorem Stop.post {r : Nat} {m : List Tk} (h : Stop r m) : is [40] m = none ∧ is [91] m = none ∧ is [46] m = none :=
 ⟨h _ (by simp [fol]), h _ (by simp [fol]), h _ (by simp [fol])⟩
theorem stop_sg {r : Nat} {c : Bs} (h : c ∉ fol r) (m : List Tk) : Stop r (sg c :: m) := fun s hs => no_sg (by rintro rfl; exact h hs) m
theorem stopE_sg {c : Bs} (h : c ∉ fol 0) (h1 : c ≠ [61]) (h2 : c ≠ [63]) (m : List Tk) : StopE (sg c :: m) := ⟨stop_sg h m, no_sg h1 m, no_sg h2 m⟩
theorem signs_no {ss : List Bs} {l : List Tk} {f : Bs → List Tk → R} {g : R} (h : ∀ s ∈ ss, is s l = none) : signs ss l f g = g := by
 have : anyOf ss l = none := by
  induction ss with
  | nil => rfl
  | cons s ss ih => unfold anyOf; rw [h s (by simp)]; exact ih fun s' hs => h s' (by simp [hs])
 unfold signs; rw [this]
theorem any_hit {ss : List Bs} {s : Bs} (h : s ∈ ss) (l : List Tk) : anyOf ss (sg s :: l) = some (s, l) := by
 induction ss with
 | nil => cases h
 | cons a ss ih =>
  unfold anyOf
  by_cases e : s = a
  ·subst e; rw [is_sg]
  ·rw [no_sg e]
   rcases List.mem_cons.1 h with h | h
   ·exact absurd h e
   ·exact ih h
theorem signs_hit {ss : List Bs} {s : Bs} {l : List Tk} {f : Bs → List Tk → R} {g : R} (h : s ∈ ss) : signs ss (sg s :: l) f g = f s l := by
 unfold signs; rw [any_hit h]
def starts : List Bs := [wLet, wFn, wIf, wWhile, wFor, wReturn, wBreak, wContinue, wThrow, wTry, wTrue, wFalse, wNull, [33], [45], [40], [91], [123]]
theorem dead_head {t : Tk} {r : List Tk} (hk : t.kind = 4 ∨ t.kind = 5) (ht : t.text ∉ starts) : ∀ n nt fn lp, (nt = .statement ∨ nt = .expression ∨ nt = .cond ∨ (∃ k, nt = .binary k) ∨ nt = .unary ∨ nt = .first ∨ nt = .inner ∨ nt = .block ∨ nt = .param ∨ nt = .pair) → run n nt fn lp (t :: r) = none
 | 0, _, _, _, _ => rfl
 | n + 1, nt, fn, lp, h => by
  have ih := dead_head (r := r) hk ht n
  have hw : ∀ s : Bs, s ∈ starts → is s (t :: r) = none := fun s hs => by
   simp only [is]
   rw [if_neg]
   rintro ⟨_, h⟩
   exact ht (h ▸ hs)
  have k1 : t.kind ≠ 1 := by omega
  have k2 : t.kind ≠ 2 := by omega
  have k3 : t.kind ≠ 3 := by omega
  have hp : ¬ (t.kind = 4 ∧ t.text = [123]) := by rintro ⟨_, h⟩; rw [h] at ht; exact ht (by decide)
  rcases h with rfl | rfl | rfl | ⟨k, rfl⟩ | rfl | rfl | rfl | rfl | rfl | rfl
  ·simp only [run, alt, peek, if_neg hp, hw wLet (by decide), hw wFn (by decide), hw wIf (by decide), hw wWhile (by decide), hw wFor (by decide), hw wReturn (by decide), hw wBreak (by decide), hw wContinue (by decide), hw wThrow (by decide), hw wTry (by decide), ih .expression fn lp (by simp), andThen]
  ·simp only [run, ih .cond fn lp (by simp), andThen]
  ·simp only [run, ih (.binary 0) fn lp (by simp), andThen]
  ·simp only [run, ih .unary fn lp (by simp), ih (.binary (k + 1)) fn lp (by simp), andThen, ite_self]
  ·simp only [run, signs, anyOf, hw [33] (by decide), hw [45] (by decide), ih .first fn lp (by simp), andThen]
  ·simp only [run, alt, tok, if_neg k1, if_neg k2, if_neg k3, hw wTrue (by decide), hw wFalse (by decide), hw wNull (by decide), hw wFn (by decide), hw [91] (by decide), hw [123] (by decide), ih .inner fn lp (by simp)]
  ·simp only [run, must, alt, hw [40] (by decide)]
  ·simp only [run, must, alt, hw [123] (by decide)]
  ·simp only [run, named, tok, if_neg k1]
  ·simp only [run, named, tok, if_neg k1]
theorem is_no {s : Bs} (hs : s ∉ starts) {nt : Nt} {fn lp : Bool} {l r : List Tk} {x : Node} (h : Ev nt fn lp l x r) (hn : nt = .statement ∨ nt = .expression ∨ nt = .cond ∨ (∃ k, nt = .binary k) ∨ nt = .unary ∨ nt = .first ∨ nt = .inner ∨ nt = .block ∨ nt = .param ∨ nt = .pair) : is s l = none := by
 cases hi : is s l with
 | none => rfl
 | some q =>
  obtain ⟨⟨t, rfl, hk, ht⟩, _⟩ := is_some hi
  obtain ⟨n, h⟩ := h.one
  rw [dead_head hk (by rw [ht]; exact hs) _ nt _ _ hn] at h
  cases h
theorem noF_ev {fn lp : Bool} {l r : List Tk} {x : Node} (h : Ev .statement fn lp l x r) : NoF l :=
 ⟨is_no (by decide) h (.inl rfl), is_no (by decide) h (.inl rfl), is_no (by decide) h (.inl rfl)⟩
theorem noF_sg (c : Bs) (h : c ≠ wElse ∧ c ≠ wFinally ∧ c ≠ wCatch) (m : List Tk) : NoF (sg c :: m) := ⟨no_sg h.1 m, no_sg h.2.1 m, no_sg h.2.2 m⟩
theorem first_no {fn lp : Bool} {l r : List Tk} {x : Node} (h : Ev .first fn lp l x r) : ∀ s ∈ [[33], [45]], is s l = none := by
 intro s hs
 cases hi : is s l with
 | none => rfl
 | some q =>
  exfalso
  obtain ⟨⟨t, rfl, hk, ht⟩, _⟩ := is_some hi
  obtain ⟨n, h⟩ := h
  have h := h (n + 1 + 1) (by omega)
  have hw : ∀ s' : Bs, s' ≠ s → is s' (t :: q) = none := fun s' hs' => by
   simp only [is]
   rw [if_neg]
   rintro ⟨_, h⟩
   exact hs' (h.symm.trans ht)
  have k1 : t.kind ≠ 1 := by omega
  have k2 : t.kind ≠ 2 := by omega
  have k3 : t.kind ≠ 3 := by omega
  simp only [List.mem_cons, List.not_mem_nil, or_false] at hs
  have e : ∀ s' : Bs, s' ∈ [wTrue, wFalse, wNull, wFn, [91], [123], [40]] → is s' (t :: q) = none := fun s' h' => hw s' (by
   rintro rfl
   rcases hs with rfl | rfl <;> exact absurd h' (by decide))
  simp only [run, alt, must, tok, if_neg k1, if_neg k2, if_neg k3, e wTrue (by decide), e wFalse (by decide), e wNull (by decide), e wFn (by decide), e [91] (by decide), e [123] (by decide), e [40] (by decide)] at h
  cases h
section
variable {fn lp : Bool} {l m : List Tk} {n : Node}
theorem ev_post (n : Node) (h : Stop 6 m) : Ev (.post n) fn lp m n m := ev_of 0 fun G _ => by
 simp only [run, alt_no h.post.1, alt_no h.post.2.1, alt_no h.post.2.2]
theorem ev_unary {e y : Node} {l' r : List Tk} (h1 : Ev .first fn lp l e l') (h2 : Ev (.post e) fn lp l' y r) : Ev .unary fn lp l y r := by
 have hn := first_no h1
 obtain ⟨F1, h1⟩ := h1
 obtain ⟨F2, h2⟩ := h2
 exact ev_of (max F1 F2) fun G hG => by simp only [run, signs_no hn, and_some (h1 G (by omega)), h2 G (by omega)]
theorem ev_bin6 (h : Ev .unary fn lp l n m) : Ev (.binary 6) fn lp l n m := by
 obtain ⟨F, h⟩ := h
 exact ev_of F fun G hG => by simp only [run, if_true, h G hG]
theorem ev_go (q : Nat) (n : Node) (h : Stop q m) : Ev (.binGo q n) fn lp m n m := ev_of 0 fun G _ => by
 simp only [run, signs_no h.rank]
theorem ev_bin {q : Nat} (hq : q < 6) {e y : Node} {l' r : List Tk} (h1 : Ev (.binary (q + 1)) fn lp l e l') (h2 : Ev (.binGo q e) fn lp l' y r) : Ev (.binary q) fn lp l y r := by
 obtain ⟨F1, h1⟩ := h1
 obtain ⟨F2, h2⟩ := h2
 exact ev_of (max F1 F2) fun G hG => by
  simp only [run]
  rw [if_neg (by omega), and_some (h1 G (by omega)), h2 G (by omega)]
theorem ev_down {q : Nat} (hq : q < 6) (h : Ev (.binary (q + 1)) fn lp l n m) (hs : Stop q m) : Ev (.binary q) fn lp l n m := ev_bin hq h (ev_go q n hs)
theorem ev_ex (h : Ev (.binary 0) fn lp l n m) (hs : StopE m) : Ev .expression fn lp l n m := by
 obtain ⟨F, h⟩ := h
 exact ev_of (F + 1) fun G hG => by
  obtain ⟨g, rfl⟩ : ∃ g, G = g + 1 := ⟨G - 1, by omega⟩
  have hc : run (g + 1) .cond fn lp l = some (n, m) := by simp only [run, and_some (h g (by omega)), alt_no hs.2.2]
  rw [show run (g + 1 + 1) .expression fn lp l = andThen (run (g + 1) .cond fn lp l) fun e l => alt [61] l (fun l => if e.kind = 5 ∨ e.kind = 12 ∨ e.kind = 13 then andThen (run (g + 1) .expression fn lp l) fun v l => some (.mk 19 0 [] [e, v], l) else none) (some (e, l)) from rfl]
  rw [and_some hc, alt_no hs.2.1]
theorem ev_all (h : Ev (.binary 6) fn lp l n m) : ∀ q, q ≤ 6 → Stop q m → Ev (.binary q) fn lp l n m := by
 have : ∀ d, d ≤ 6 → Stop (6 - d) m → Ev (.binary (6 - d)) fn lp l n m := by
  intro d
  induction d with
  | zero => intro _ _; exact h
  | succ d ih =>
   intro hd hs
   refine ev_down (by omega) ?_ hs
   rw [show 6 - (d + 1) + 1 = 6 - d by omega]
   exact ih (by omega) (by rw [show 6 - d = 6 - (d + 1) + 1 by omega]; exact hs.up)
 intro q hq hs
 have := this (6 - q) (by omega) (by rw [show 6 - (6 - q) = q by omega]; exact hs)
 rwa [show 6 - (6 - q) = q by omega] at this
theorem ev_up (h : Ev .first fn lp l n m) (hs : StopE m) : Ev .expression fn lp l n m :=
 ev_ex (ev_all (ev_bin6 (ev_unary h (ev_post n (hs.1.le (by omega))))) 0 (by omega) hs.1) hs
theorem ev_inner {l' : List Tk} (h : Ev .expression fn lp l n (sg [41] :: m)) : Ev .inner fn lp (sg [40] :: l) n m := by
 obtain ⟨F, h⟩ := h
 exact ev_of F fun G hG => by simp only [run, must_some (is_sg _ _), and_some (h G hG)]
theorem ev_paren (h : Ev .expression fn lp l n (sg [41] :: m)) : Ev .first fn lp (sg [40] :: l) n m := by
 obtain ⟨F, h⟩ := ev_inner (l' := []) h
 have e : ∀ s : Bs, s ≠ [40] → is s (sg [40] :: l) = none := fun s hs => no_sg (fun h => hs h.symm) l
 exact ev_of F fun G hG => by
  simp only [run]
  simp only [tok, show (sg [40]).kind = 4 from rfl, show ¬ (4 = 2) from by decide, show ¬ (4 = 3) from by decide, show ¬ (4 = 1) from by decide, if_false, alt_no (e wTrue (by decide)), alt_no (e wFalse (by decide)), alt_no (e wNull (by decide)), alt_no (e wFn (by decide)), alt_no (e [91] (by decide)), alt_no (e [123] (by decide)), h G hG]
end
end Pars
namespace Wri
open Pars
open Lexy (Tk sg kw nm)
variable {fn lp : Bool}
def BB (fn lp : Bool) (n : Node) (q : Nat) : Prop := ∀ m, Stop q m → Ev (.binary q) fn lp (tw n (.at q) ++ m) n m
def EvB (fn lp : Bool) (q : Nat) (l : List Tk) (y : Node) (r : List Tk) : Prop := ∃ e l', Ev (.binary (q + 1)) fn lp l e l' ∧ Ev (.binGo q e) fn lp l' y r
def EvU (fn lp : Bool) (l : List Tk) (y : Node) (r : List Tk) : Prop := ∃ e l', Ev .first fn lp l e l' ∧ Ev (.post e) fn lp l' y r
def GO (fn lp : Bool) (n : Node) (q : Nat) : Prop := ∀ m y r, Stop (q + 1) m → Ev (.binGo q n) fn lp m y r → EvB fn lp q (tw n (.at q) ++ m) y r
def PO (fn lp : Bool) (n : Node) : Prop := ∀ m y r, Ev (.post n) fn lp m y r → EvU fn lp (tw n (.at 7) ++ m) y r
structure EX (fn lp : Bool) (n : Node) : Prop where
 post : PO fn lp n
 bin : ∀ q, q ≤ 6 → BB fn lp n q
 go : ∀ q, q < 6 → GO fn lp n q
 ex : ∀ m, StopE m → Ev .expression fn lp (tw n (.at (-2)) ++ m) n m
theorem at_same {n : Node} {q p : Int} (h : q ≤ rank n ↔ p ≤ rank n) : tw n (.at q) = tw n (.at p) := by
 rw [tw_at, tw_at]
 by_cases hq : q ≤ rank n
 ·rw [if_pos hq, if_pos (h.1 hq)]
 ·rw [if_neg hq, if_neg (fun hp => hq (h.2 hp))]
theorem go_of {n : Node} {q : Nat} (hq : q < 6) (hr : (q : Int) ≠ rank n) (h : BB fn lp n (q + 1)) : GO fn lp n q := by
 intro m y r hs hg
 rw [at_same (n := n) (q := (q : Int)) (p := ((q + 1 : Nat) : Int)) (by constructor <;> intro h <;> omega)]
 exact ⟨n, m, h m hs, hg⟩
theorem bin_of {n : Node} {q : Nat} (hq : q < 6) (h : GO fn lp n q) : BB fn lp n q := by
 intro m hs
 obtain ⟨e, l', h1, h2⟩ := h m n m hs.up (ev_go q n hs)
 exact ev_bin hq h1 h2
theorem down_of {n : Node} {k : Nat} (hk : k ≤ 6) (hb : BB fn lp n k) (j : Nat) (hj : ∀ q : Nat, j ≤ q → q < k → (q : Int) ≠ rank n) : ∀ d, d ≤ k → j ≤ k - d → BB fn lp n (k - d) ∧ ∀ q, k - d ≤ q → q < k → GO fn lp n q := by
 intro d
 induction d with
 | zero => intro _ _; exact ⟨hb, fun q h1 h2 => by omega⟩
 | succ d ih =>
  intro hd hjd
  obtain ⟨i1, i2⟩ := ih (by omega) (by omega)
  have e : k - (d + 1) + 1 = k - d := by omega
  have hg : GO fn lp n (k - (d + 1)) := go_of (by omega) (hj _ hjd (by omega)) (by rw [e]; exact i1)
  refine ⟨bin_of (by omega) hg, fun q h1 h2 => ?_⟩
  by_cases hq : q = k - (d + 1)
  ·rw [hq]; exact hg
  ·exact i2 q (by omega) h2
theorem downs {n : Node} {k : Nat} (hk : k ≤ 6) (hb : BB fn lp n k) (j : Nat) (hj : ∀ q : Nat, j ≤ q → q < k → (q : Int) ≠ rank n) : (∀ q, j ≤ q → q ≤ k → BB fn lp n q) ∧ ∀ q, j ≤ q → q < k → GO fn lp n q := by
 refine ⟨fun q h1 h2 => ?_, fun q h1 h2 => ?_⟩
 ·have := (down_of hk hb j hj (k - q) (by omega) (by omega)).1
  rwa [show k - (k - q) = q by omega] at this
 ·exact (down_of hk hb j hj (k - q) (by omega) (by omega)).2 q (by omega) h2
theorem ex_of {n : Node} (hr : 0 ≤ rank n) (h : BB fn lp n 0) : ∀ m, StopE m → Ev .expression fn lp (tw n (.at (-2)) ++ m) n m := by
 intro m hs
 rw [at_same (n := n) (q := -2) (p := ((0 : Nat) : Int)) (by constructor <;> intro h <;> omega)]
 exact ev_ex (h m hs.1) hs
theorem rank_ge (n : Node) : -2 ≤ rank n ∧ rank n ≤ 8 := by
 have hro : ∀ (t : Bs) (ls : List (List Bs)) (i : Nat), -2 ≤ rankOf i ls t ∧ (rankOf i ls t ≤ 8 ∨ rankOf i ls t < i + ls.length) := by
  intro t ls
  induction ls with
  | nil => intro i; simp [rankOf]
  | cons r l ih =>
   intro i
   unfold rankOf
   split
   ·simp; omega
   ·have := ih (i + 1); simp only [List.length_cons]; omega
 unfold rank
 have := hro n.text Pars.ranks 0
 have hl : Pars.ranks.length = 6 := rfl
 repeat' split
 all_goals omega
theorem paren_of {n : Node} {q : Int} (hq : rank n < q) (h : ∀ m, StopE m → Ev .expression fn lp (tw n (.at (-2)) ++ m) n m) (m : List Tk) : Ev .first fn lp (tw n (.at q) ++ m) n m := by
 have hr := rank_ge n
 have e1 : tw n (.at q) = [sg [40]] ++ tw n .ex ++ [sg [41]] := by rw [tw_at, if_neg (by omega)]
 have e2 : tw n (.at (-2)) = tw n .ex := by rw [tw_at, if_pos hr.1]
 have := ev_paren (h (sg [41] :: m) (stopE_sg (by decide) (by decide) (by decide) m))
 rw [e2] at this
 rw [e1]
 simpa using this
theorem post_first {n : Node} (h : ∀ m, Ev .first fn lp (tw n (.at 7) ++ m) n m) : PO fn lp n := fun m y r hp => ⟨n, m, h m, hp⟩
theorem un_post {n : Node} (h : PO fn lp n) (m : List Tk) (hs : Stop 6 m) : Ev .unary fn lp (tw n (.at 7) ++ m) n m := by
 obtain ⟨e, l', h1, h2⟩ := h m n m (ev_post n hs)
 exact ev_unary h1 h2
theorem bb6_post {n : Node} (hr : rank n ≠ 6) (h : PO fn lp n) : BB fn lp n 6 := by
 intro m hs
 rw [at_same (n := n) (q := ((6 : Nat) : Int)) (p := 7) (by constructor <;> intro h <;> omega)]
 exact ev_bin6 (un_post h m hs)
theorem EX.high {n : Node} (hr : 7 ≤ rank n) (h : PO fn lp n) : EX fn lp n := by
 have h6 := bb6_post (by omega) h
 obtain ⟨d1, d2⟩ := downs (Nat.le_refl 6) h6 0 (fun q _ hq => by omega)
 exact ⟨h, fun q hq => d1 q (by omega) hq, fun q hq => d2 q (by omega) hq, ex_of (by omega) (d1 0 (by omega) (by omega))⟩
theorem EX.un {n : Node} (hr : rank n = 6) (h : BB fn lp n 6) : EX fn lp n := by
 obtain ⟨d1, d2⟩ := downs (Nat.le_refl 6) h 0 (fun q _ hq => by omega)
 have hx := ex_of (by omega) (d1 0 (by omega) (by omega))
 exact ⟨post_first (paren_of (by omega) hx), fun q hq => d1 q (by omega) hq, fun q hq => d2 q (by omega) hq, hx⟩
theorem EX.mid {n : Node} {r : Nat} (h6 : r < 6) (hr : rank n = r) (h : GO fn lp n r) : EX fn lp n := by
 obtain ⟨d1, d2⟩ := downs (by omega) (bin_of h6 h) 0 (fun q _ hq => by omega)
 have hx := ex_of (by omega) (d1 0 (by omega) (by omega))
 have hp := post_first (paren_of (n := n) (q := 7) (by omega) hx)
 obtain ⟨u1, u2⟩ := downs (Nat.le_refl 6) (bb6_post (n := n) (by omega) hp) (r + 1) (fun q hq _ => by omega)
 refine ⟨hp, fun q hq => ?_, fun q hq => ?_, hx⟩
 ·by_cases hqr : q ≤ r
  ·exact d1 q (by omega) hqr
  ·exact u1 q (by omega) hq
 ·by_cases hqr : q < r
  ·exact d2 q (by omega) hqr
  ·by_cases e : q = r
   ·rw [e]; exact h
   ·exact u2 q (by omega) hq
theorem EX.low {n : Node} (hr : rank n < 0) (hx : ∀ m, StopE m → Ev .expression fn lp (tw n (.at (-2)) ++ m) n m) : EX fn lp n := by
 have hp := post_first (paren_of (n := n) (q := 7) (by omega) hx)
 obtain ⟨u1, u2⟩ := downs (Nat.le_refl 6) (bb6_post (n := n) (by omega) hp) 0 (fun q hq _ => by omega)
 exact ⟨hp, fun q hq => u1 q (by omega) hq, fun q hq => u2 q (by omega) hq, hx⟩
theorem EX.atom {n : Node} (hr : rank n = 8) (h : ∀ m, Ev .first fn lp (tw n .ex ++ m) n m) : EX fn lp n :=
 .high (by omega) (post_first (by rw [show tw n (.at 7) = tw n .ex by rw [tw_at, if_pos (by omega)]]; exact h))
theorem fol_next : ∀ r, r < 6 → ∀ s ∈ ranks.getD r [], s ∉ fol (r + 1) := by decide
theorem EX.op {n a b : Node} {s : Bs} {r : Nat} (h6 : r < 6) (hs : s ∈ ranks.getD r []) (hr : rank n = r) (he : tw n .ex = tw a (.at (r : Int)) ++ [sg s] ++ tw b (.at ((r + 1 : Nat) : Int))) (hj : joined s a b = n) (ha : EX fn lp a) (hb : EX fn lp b) : EX fn lp n := by
 refine .mid h6 hr ?_
 intro m y q hst hg
 rw [show tw n (.at (r : Int)) = tw n .ex by rw [tw_at, if_pos (by omega)], he]
 simp only [List.append_assoc, List.cons_append, List.nil_append]
 refine ha.go r h6 _ y q (stop_sg (fol_next r h6 s hs) _) ?_
 obtain ⟨F1, h1⟩ := hb.bin (r + 1) (by omega) m hst
 obtain ⟨F2, h2⟩ := hg
 exact ev_of (max F1 F2) fun G hG => by
  simp only [run]
  rw [signs_hit hs, and_some (h1 G (by omega)), hj, h2 G (by omega)]
end Wri
namespace Wri
open Go (ln bn)
open Pars
open Lexy (Tk sg kw nm)
def TG (t : Tk) : Prop := (t.kind = 1 → name t.text = true) ∧ (t.kind = 2 → t.num ≤ 9007199254740992) ∧ (t.kind = 5 → t.text ∈ Lexy.kws)
def TGs (l : List Tk) : Prop := ∀ t ∈ l, TG t
def Cw (H : List Tk → Prop) (d : Int) (f : Node → Int) (P : Node → Prop) (p : List Tk → R) : Prop := ∀ l x r, TGs l → H l → p l = some (x, r) → P x ∧ f x + r.length ≤ d + l.length ∧ TGs r
def Tr : List Tk → Prop := fun _ => True
section
variable {H : List Tk → Prop} {d : Int} {f : Node → Int} {P : Node → Prop}
theorem TGs.tail {t : Tk} {l : List Tk} (h : TGs (t :: l)) : TGs l := fun x hx => h x (by simp [hx])
theorem Cw.imp {p : List Tk → R} {H' : List Tk → Prop} (h : Cw H d f P p) (hh : ∀ l, H' l → H l) : Cw H' d f P p := fun l x r ht hl hp => h l x r ht (hh l hl) hp
theorem Cw.weak {p : List Tk → R} {e : Int} {g : Node → Int} {Q : Node → Prop} (h : Cw H d f P p) (hd : ∀ x, P x → d - f x ≤ e - g x) (hq : ∀ x, P x → Q x) : Cw H e g Q p := fun l x r ht hl hp => by
 obtain ⟨h1, h2, h3⟩ := h l x r ht hl hp
 have := hd x h1
 exact ⟨hq x h1, by omega, h3⟩
theorem cw_none : Cw H d f P (fun _ => none) := fun l x r _ _ h => by cases h
theorem cw_pure {x : Node} (hp : P x) (hx : f x ≤ d) : Cw H d f P (fun l => some (x, l)) := fun l y r ht _ h => by
 injection h with h; injection h with h1 h2; subst h1 h2; exact ⟨hp, by omega, ht⟩
theorem cw_alt {s : Bs} {F G : List Tk → R} (hF : (∃ l r, TGs l ∧ H l ∧ is s l = some r) → Cw Tr (d + 1) f P F) (hG : Cw (fun l => H l ∧ is s l = none) d f P G) : Cw H d f P (fun l => alt s l F (G l)) := by
 intro l x r ht hl h
 cases hi : is s l with
 | none => simp only [alt, hi] at h; exact hG l x r ht ⟨hl, hi⟩ h
 | some l' =>
  simp only [alt, hi] at h
  have hc := hF ⟨l, l', ht, hl, hi⟩
  obtain ⟨⟨t, rfl, _⟩, _⟩ := is_some hi
  obtain ⟨h1, h2, h3⟩ := hc l' x r ht.tail trivial h
  exact ⟨h1, by simp only [List.length_cons]; omega, h3⟩
theorem cw_must {s : Bs} {F : List Tk → R} (hF : Cw Tr (d + 1) f P F) : Cw H d f P (fun l => must s l F) := cw_alt (fun _ => hF) cw_none
theorem cw_tok {k : Nat} {F : Tk → List Tk → R} {G : List Tk → R} (hF : ∀ t, TG t → t.kind = k → Cw Tr (d + 1) f P (F t)) (hG : Cw H d f P G) : Cw H d f P (fun l => tok k l F (G l)) := by
 intro l x r ht hl h
 cases l with
 | nil => exact hG [] x r ht hl h
 | cons t l =>
  simp only [tok] at h
  by_cases hk : t.kind = k
  ·rw [if_pos hk] at h
   obtain ⟨h1, h2, h3⟩ := hF t (ht t (by simp)) hk l x r ht.tail trivial h
   exact ⟨h1, by simp only [List.length_cons]; omega, h3⟩
  ·rw [if_neg hk] at h; exact hG _ x r ht hl h
theorem cw_named {F : Bs → List Tk → R} (hF : ∀ s, name s = true → Cw Tr (d + 1) f P (F s)) : Cw H d f P (fun l => named l F) := cw_tok (fun t ht hk => hF t.text (ht.1 hk)) cw_none
theorem cw_and {a : Int} {g : Node → Int} {Q : Node → Prop} {p : List Tk → R} {q : Node → List Tk → R} (hp : Cw H a g Q p) (hq : ∀ x, Q x → Cw Tr (d - a + g x) f P (q x)) : Cw H d f P (fun l => andThen (p l) q) := by
 intro l x r ht hl h
 cases hi : p l with
 | none => simp only [andThen, hi] at h; cases h
 | some y =>
  obtain ⟨y, l1⟩ := y
  simp only [andThen, hi] at h
  obtain ⟨h1, h2, h3⟩ := hp l y l1 ht hl hi
  obtain ⟨h4, h5, h6⟩ := hq y h1 l1 x r h3 trivial h
  exact ⟨h4, by omega, h6⟩
theorem any_mem {ss : List Bs} {s : Bs} {l r : List Tk} (h : anyOf ss l = some (s, r)) : s ∈ ss := by
 induction ss with
 | nil => simp [anyOf] at h
 | cons a ss ih =>
  unfold anyOf at h
  cases hi : is a l with
  | none => rw [hi] at h; simp only at h; exact List.mem_cons_of_mem _ (ih h)
  | some q => rw [hi] at h; injection h with h; injection h with h1 _; rw [h1]; exact List.mem_cons_self
theorem cw_signs {ss : List Bs} {F : Bs → List Tk → R} {G : List Tk → R} (hF : ∀ s ∈ ss, Cw Tr (d + 1) f P (F s)) (hG : Cw H d f P G) : Cw H d f P (fun l => signs ss l F (G l)) := by
 intro l x r ht hl h
 cases hi : anyOf ss l with
 | none => simp only [signs, hi] at h; exact hG l x r ht hl h
 | some y =>
  obtain ⟨s, l'⟩ := y
  simp only [signs, hi] at h
  have hs := any_mem hi
  obtain ⟨⟨t, rfl⟩, _⟩ := any_some hi
  obtain ⟨h1, h2, h3⟩ := hF s hs l' x r ht.tail trivial h
  exact ⟨h1, by simp only [List.length_cons]; omega, h3⟩
theorem cw_peek {s : Bs} {a b : List Tk → R} (ha : Cw H d f P a) (hb : Cw (fun l => H l ∧ ∀ t r, l = t :: r → ¬ (t.kind = 4 ∧ t.text = s)) d f P b) : Cw H d f P (fun l => peek s l (a l) (b l)) := by
 intro l x r ht hl h
 cases l with
 | nil => exact hb [] x r ht ⟨hl, fun t r h => by cases h⟩ h
 | cons t l =>
  simp only [peek] at h
  by_cases hk : t.kind = 4 ∧ t.text = s
  ·rw [if_pos hk] at h; exact ha (t :: l) x r ht hl h
  ·rw [if_neg hk] at h; exact hb (t :: l) x r ht ⟨hl, fun t' r' he => by injection he with h1 _; rw [← h1]; exact hk⟩ h
theorem cw_sep {more : Bool} {F : List Tk → R} (h0 : more = false → Cw H d f P F) (h1 : more = true → Cw Tr (d + 1) f P F) : Cw H d f P (fun l => sep more l F) := by
 cases more
 ·exact h0 rfl
 ·exact cw_must (h1 rfl)
theorem cw_ite {c : Prop} [Decidable c] {p q : List Tk → R} (hp : c → Cw H d f P p) (hq : ¬ c → Cw H d f P q) : Cw H d f P (fun l => if c then p l else q l) := by
 by_cases h : c
 ·simpa [h] using hp h
 ·simpa [h] using hq h
theorem cw_ended {x : Node} (hp : P x) (hx : f x ≤ d + 1) : Cw H d f P (fun l => ended x l) := cw_must (cw_pure hp hx)
end
def cq (q : Int) (x : Node) : Int := (tw x (.at q)).length
def ext (f : Int) : Int := if f = 7 ∨ f = 9 then 2 else 0
def fr (q : Int) (x : Node) : Int := if rank x < q then 0 else front x
def dq (h : Bool) (q : Int) (x : Node) : Int := cq q x + if h then 0 else ext (fr q x)
theorem ext_le (f : Int) : 0 ≤ ext f ∧ ext f ≤ 2 := by unfold ext; split <;> omega
theorem ext0 : ext 0 = 0 := rfl
theorem cq_eq (q : Int) (x : Node) : cq q x = if q ≤ rank x then ((tw x .ex).length : Int) else (tw x .ex).length + 2 := by
 unfold cq; rw [tw_at]
 split
 ·rfl
 ·simp; omega
theorem dq_true (q : Int) (x : Node) : dq true q x = cq q x := by simp [dq]
theorem dq_up (h : Bool) (q p : Int) (hq : q ≤ p) (x : Node) : dq h q x ≤ dq h p x := by
 unfold dq fr
 rw [cq_eq, cq_eq]
 have := ext_le (front x)
 cases h <;> simp only [if_true, if_false, Bool.false_eq_true]
 ·by_cases h1 : rank x < q
  ·rw [if_neg (by omega), if_pos h1, if_neg (by omega), if_pos (by omega)]; omega
  ·rw [if_pos (by omega), if_neg h1]
   by_cases h2 : rank x < p
   ·rw [if_neg (by omega), if_pos h2, ext0]; omega
   ·rw [if_pos (by omega), if_neg h2]; omega
 ·by_cases h1 : q ≤ rank x
  ·rw [if_pos h1]; split <;> omega
  ·rw [if_neg h1, if_neg (by omega)]; omega
theorem dq_inner (h : Bool) (q : Int) (x : Node) : dq h q x ≤ cq (-2) x + 2 := by
 have hr := (rank_ge x).1
 unfold dq fr
 rw [cq_eq, cq_eq, if_pos hr]
 have := ext_le (front x)
 by_cases h1 : rank x < q
 ·rw [if_neg (by omega), if_pos h1, ext0]; cases h <;> simp
 ·rw [if_pos (by omega), if_neg h1]
  cases h <;> simp only [if_true, if_false, Bool.false_eq_true] <;> omega
theorem dq_false_two (x : Node) : dq false (-2) x = cq (-2) x + ext (front x) := by
 have hr := (rank_ge x).1
 have e : fr (-2) x = front x := by unfold fr; rw [if_neg (by omega)]
 unfold dq; rw [e]; simp
theorem dq_high (h : Bool) {x : Node} (hr : 7 ≤ rank x) (q : Int) (hq : q ≤ 7) : dq h q x = dq h 7 x := by
 have e1 : fr q x = front x := by unfold fr; rw [if_neg (by omega)]
 have e2 : fr 7 x = front x := by unfold fr; rw [if_neg (by omega)]
 have e3 : cq q x = ((tw x .ex).length : Int) := by rw [cq_eq, if_pos (by omega)]
 have e4 : cq 7 x = ((tw x .ex).length : Int) := by rw [cq_eq, if_pos (by omega)]
 unfold dq; rw [e1, e2, e3, e4]
def hd (l : List Tk) : Prop := is Pars.wFn l = none ∧ ∀ t r, l = t :: r → ¬ (t.kind = 4 ∧ t.text = [123])
def HH (h : Bool) (l : List Tk) : Prop := h = true ∨ hd l
theorem ranks_mem : ∀ r, r < 6 → ∀ s ∈ Pars.ranks.getD r [], s = [124, 124] ∧ r = 0 ∨ s = [38, 38] ∧ r = 1 ∨ s ∈ binS ∧ rankOf 0 Pars.ranks s = (r : Int) ∧ s ≠ [124, 124] ∧ s ≠ [38, 38] := by decide
theorem joined_is {r : Nat} (hr : r < 6) {s : Bs} (hs : s ∈ Pars.ranks.getD r []) (a b : Node) : rank (joined s a b) = r ∧ tw (joined s a b) .ex = tw a (.at (r : Int)) ++ [sg s] ++ tw b (.at ((r : Int) + 1)) ∧ front (joined s a b) = fr r a ∧
  ∀ fn lp, isE a → Rt fn lp a → isE b → Rt fn lp b → isE (joined s a b) ∧ Rt fn lp (joined s a b) := by
 rcases ranks_mem r hr s hs with ⟨rfl, rfl⟩ | ⟨rfl, rfl⟩ | ⟨h1, h2, h3, h4⟩
 ·exact ⟨rfl, rfl, rfl, fun fn lp h1 h2 h3 h4 => ⟨by simp [joined, isE, Node.kind], .or_ fn lp a b h1 h2 h3 h4⟩⟩
 ·exact ⟨rfl, rfl, rfl, fun fn lp h1 h2 h3 h4 => ⟨by simp [joined, isE, Node.kind], .and_ fn lp a b h1 h2 h3 h4⟩⟩
 ·have e : joined s a b = .mk 15 0 s [a, b] := by unfold joined; rw [if_neg h3, if_neg h4]
  rw [e]
  refine ⟨h2, ?_, ?_, fun fn lp g1 g2 g3 g4 => ⟨by simp [isE, Node.kind], .binary fn lp s a b h1 g1 g2 g3 g4⟩⟩
  ·show tw a (.at (rankOf 0 Pars.ranks s)) ++ [sg s] ++ tw b (.at (rankOf 0 Pars.ranks s + 1)) = _
   rw [h2]
  ·show (if rank a < rankOf 0 Pars.ranks s then 0 else front a) = _
   rw [h2]; rfl
theorem dq_joined (h : Bool) {r : Nat} (hr : r < 6) {s : Bs} (hs : s ∈ Pars.ranks.getD r []) (a b : Node) : dq h r (joined s a b) = dq h r a + 1 + cq ((r : Int) + 1) b := by
 obtain ⟨h1, h2, h3, _⟩ := joined_is hr hs a b
 have hf : fr (r : Int) (joined s a b) = fr r a := by
  rw [show fr (r : Int) (joined s a b) = if rank (joined s a b) < (r : Int) then 0 else front (joined s a b) from rfl, h1, if_neg (by omega), h3]
 unfold dq
 rw [hf, cq_eq, h1, if_pos (by omega), h2]
 unfold cq
 simp only [ln]
 omega
end Wri
