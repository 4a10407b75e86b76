/-
  Texts that the law leans on: PxB, PxG, PxN, ParL, MapF, PxI. Conditions: as each says.
-/
import Derived.Test.YtonjdlialejedaaGreatDoorXBj
import Derived.Test.YtonjdlialejedaaGreatDoorXBo
import Derived.Test.YtonjdlialejedaaGreatDoorXBc
import Derived.Test.YtonjdlialejedaaGreatDoorXBa
import Derived.Test.YtonjdlialejedaaGreatDoorRows
import Derived.LaidMore
import Derived.Lib.LaidTab
import Derived.Stop.LaidErr
import Derived.Deep.DeepHandedRow
import Derived.Deep.DeepWitnessRowRef
import Derived.Test.YtonjdlialejedaaGreatDoorXAb
import Derived.Test.YtonjdlialejedaaGreatDoorXAc
import Derived.Maps.OwnSet
import Derived.Maps.Views
import Derived.StringKeys
import Derived.Test.YtonjdlialejedaaGreatDoorXAa
import Derived.Test.YtonjdlialejedaaGreatDoorXAm
import Derived.Carry
set_option linter.unusedSimpArgs false
set_option linter.unusedVariables false
namespace Go.Proofs.YtonjdlialejedaaGreatDoor
open Go.Lib (hid)
open Go.RowKit
theorem same_mk (k nu : Int) (t : List UInt8) (l : List Pars.Node) (k2 nu2 : Int) (t2 : List UInt8) (l2 : List Pars.Node) : Pars.same (.mk k nu t l) (.mk k2 nu2 t2 l2) = (decide (k = k2) && (decide (nu = nu2) && (decide (t = t2) && Pars.sames l l2))) := by rw [Pars.same]
theorem sames_len : ∀ (l l2 : List Pars.Node), Pars.sames l l2 = true → l.length = l2.length
 | [], [], _ => rfl
 | a :: l, b :: m, h => by
  simp only [Pars.sames, Bool.and_eq_true] at h
  simp [sames_len l m h.2]
 | [], _ :: _, h => by simp [Pars.sames] at h
 | _ :: _, [], h => by simp [Pars.sames] at h
theorem sames_all : ∀ (l l2 : List Pars.Node), l.length = l2.length → (∀ (j : Nat) (x y : Pars.Node), l[j]? = some x → l2[j]? = some y → Pars.same x y = true) → Pars.sames l l2 = true
 | [], [], _, _ => by simp [Pars.sames]
 | a :: l, b :: m, h, hh => by
  simp only [Pars.sames, Bool.and_eq_true]
  exact ⟨hh 0 a b rfl rfl, sames_all l m (by simpa using h) fun j x y hx hy => hh (j + 1) x y (by simpa using hx) (by simpa using hy)⟩
 | [], _ :: _, h, _ => by simp at h
 | _ :: _, [], h, _ => by simp at h
theorem sames_at : ∀ (l l2 : List Pars.Node), Pars.sames l l2 = true → ∀ (j : Nat) (x y : Pars.Node), l[j]? = some x → l2[j]? = some y → Pars.same x y = true
 | [], [], _, j, x, y, hx, _ => by simp at hx
 | a :: l, b :: m, h, j, x, y, hx, hy => by
  simp only [Pars.sames, Bool.and_eq_true] at h
  cases j with
  | zero => simp at hx hy; subst hx hy; exact h.1
  | succ j => exact sames_at l m h.2 j x y (by simpa using hx) (by simpa using hy)
 | [], _ :: _, h, _, _, _, _, _ => by simp [Pars.sames] at h
 | _ :: _, [], h, _, _, _, _, _ => by simp [Pars.sames] at h
def SameLe (N : Nat) : Prop := ∀ (a b : Pars.Node) (ca cb : Array Value) (w : World) (S S2 : Nat → Prop), Pars.size a ≤ N → Pars.size a ≤ 4611686018427387904 → NodeAt w S a ca → NodeAt w S2 b cb →
  Calls Tryz.prog 13 #[.agg ca, .agg cb] w fun e w' => e = .returned (.bool (Pars.same a b)) ∧ Below w.heap.size w w'
set_option maxRecDepth 100000 in
set_option maxHeartbeats 4000000 in
theorem same_step {N : Nat} (ih : SameLe N) : SameLe (N + 1) := by
 intro a b ca cb w S S2 h hb hn hm
 have IH := hid ih
 obtain ⟨k, nu, t, l⟩ := a
 obtain ⟨k2, nu2, t2, l2⟩ := b
 replace hn := NodeAt.keep (S1 := fun g => g < w.heap.size) (w1 := w) (fun g _ h => h) (Nat.le_refl _) (fun _ _ _ => rfl) hn
 replace hm := NodeAt.keep (S1 := fun g => g < w.heap.size) (w1 := w) (fun g _ h => h) (Nat.le_refl _) (fun _ _ _ => rfl) hm
 simp only [Pars.size] at h hb
 unfold NodeAt at hn hm
 obtain ⟨A, cap, css, rfl, hc1, hc2, hrow, hk⟩ := hn
 obtain ⟨A2, cap2, css2, rfl, hd1, hd2, hrow2, hk2⟩ := hm
 have HROW := hid hrow
 have HK := hid hk
 have HROW2 := hid hrow2
 have HK2 := hid hk2
 have hll := sizes_len l
 clear hrow hk hrow2 hk2 ih
 by_cases y1 : k = k2
 ·subst y1
  by_cases y2 : nu = nu2
  ·subst y2
   by_cases y3 : t = t2
   ·subst y3
    by_cases y4 : l.length = l2.length
    ·have HL := hid y4
     rw [← y4] at hd1 ⊢
     clear y4
     go_enter Tryz.func13, Tryz.ntmps13
     go_upto_region 1 with fail
     refine gen_world (F := fun W => Box W w.heap.size 24 (nc k nu t (.slice A l.length cap)) ∧ Box W (w.heap.size + 1) 24 (nc k nu t (.slice A2 l.length cap2)) ∧ Below w.heap.size w W) ⟨(Box.new w _ _).alloc _, by have := Box.new (w.alloc (.cells (nc k nu t (.slice A l.length cap)) 24 (0, 0))) 24 (nc k nu t (.slice A2 l.length cap2)); simpa using this, (below1 w _).alloc (by simp) _⟩ ?_
     rintro W0 ⟨b0, b1, hU⟩
     have NA := hid b0
     have NB := hid b1
     have HU := hid hU
     clear b0 b1 hU
     have c0 := NA.out.cell 0
     have d0 := NB.out.cell 0
     have c1 := NA.out.cell 1
     have d1 := NB.out.cell 1
     have c2 := NA.out.cell 2
     have d2 := NB.out.cell 2
     have c3 := NA.out.cell 3
     have d3 := NB.out.cell 3
     simp [nc] at c0 d0 c1 d1 c2 d2 c3 d3
     go_upto_region 3 with fail
     go_upto_region 4 with fail
     clear c0 c1 c2 d0 d1 d2 c3 d3
     go_loopg [5, 37] l.length (fun gg _ s37 wr => ∃ j : Nat, j ≤ l.length ∧ l.length - j ≤ gg ∧ s37 = .int .i64 (j : Int) ∧ Hid (∀ (i : Nat) (x y : Pars.Node), i < j → l[i]? = some x → l2[i]? = some y → Pars.same x y = true) ∧ Hid (Box wr w.heap.size 24 (nc k nu t (.slice A l.length cap))) ∧ Hid (Box wr (w.heap.size + 1) 24 (nc k nu t (.slice A2 l.length cap2))) ∧ Hid (Below w.heap.size w wr))
     case atStart => exact ⟨0, Nat.zero_le _, by omega, rfl, hid (fun i x y hi => absurd hi (Nat.not_lt_zero _)), NA, NB, HU⟩
     case round =>
      clear NA NB HU
      obtain ⟨j, hj, hg, rfl, AA, NA, NB, HU⟩ := hrel
      by_cases hlt : j < l.length
      ·have hltz : (j : Int) < (l.length : Int) := by omega
       have hltd : decide ((j : Int) < (l.length : Int)) = true := decide_eq_true hltz
       have wj : IntKind.i64.wrap ((j : Int) + 1) = (j : Int) + 1 := by rw [IntKind.wrap_i64]; omega
       obtain ⟨x, hx⟩ : ∃ x, l[j]? = some x := ⟨_, List.getElem?_eq_getElem (by have := HL.out; omega)⟩
       obtain ⟨xcp, g0, o0, rfl, hg0, h4p, hnp, hrp⟩ := kid_at HK.out HROW.out hx
       obtain ⟨p0, p1, p2, p3, rfl⟩ := four h4p
       have HNp := hid hnp
       have HGp : Hid (∀ W, Below w.heap.size w W → W.rangeAt g0 (o0 + j * 4) [p0, p1, p2, p3]) := hid hrp
       have HXp := hid hx
       clear hnp hrp h4p
       obtain ⟨y, hy⟩ : ∃ x, l2[j]? = some x := ⟨_, List.getElem?_eq_getElem (by have := HL.out; omega)⟩
       obtain ⟨xcq, g1, o1, rfl, hg1, h4q, hnq, hrq⟩ := kid_at HK2.out HROW2.out hy
       obtain ⟨q0, q1, q2, q3, rfl⟩ := four h4q
       have HNq := hid hnq
       have HGq : Hid (∀ W, Below w.heap.size w W → W.rangeAt g1 (o1 + j * 4) [q0, q1, q2, q3]) := hid hrq
       have HXq := hid hy
       clear hnq hrq h4q
       have hxs := size_mem (List.mem_of_getElem? hx)
       clear hx hy
       have HINL : Hid (∀ a b c d : Value, (Tryz.prog.info? 24).map (·.size) = some [a, b, c, d].length) := hid (fun a b c d => info_nod)
       go_upto_region 6 with fail
       refine wp_region_held_drew (S := fun w' => Box w' w.heap.size 24 (nc k nu t (.slice (some ⟨g0, o0, none⟩) l.length cap)) ∧ Box w' (w.heap.size + 1) 24 (nc k nu t (.slice (some ⟨g1, o1, none⟩) l.length cap2)) ∧ Below w.heap.size w w') (by kernel_rfl) ⟨NA.out.drew, NB.out.drew, HU.out.drew⟩ (fun hHeld => ?_)
       obtain ⟨wd, hwd⟩ : ∃ wd, wr.drew = wd := ⟨_, rfl⟩
       have hdr : Below wr.heap.size wr wd := hwd ▸ (Below.refl _ wr).drew
       (try rw [hwd] at hHeld)
       (try rw [hwd])
       clear hwd hHeld
       replace NA := bl NA hdr
       replace NB := bl NB hdr
       replace HU := hid (HU.out.trans (hdr.mono HU.out.size))
       clear hdr
       refine tH (i := 0) (v := ?_) rfl ?_ ⟨NA.out, NB.out, HU.out⟩ ?_
       rotate_left
       ·intro w hSw
        go_simp
        try (with_reducible rfl)
       (try simp only [Act.put, sq])
       refine tH (i := 1) (v := .slice (some ⟨g0, o0, none⟩) l.length cap) rfl ?_ ⟨NA.out, NB.out, HU.out⟩ ?_
       ·intro w hSw
        have cq := hSw.1.cell 3
        simp [nc] at cq
        go_simp
       (try simp only [Act.put, sq])
       refine tH (i := 2) (v := ?_) rfl ?_ ⟨NA.out, NB.out, HU.out⟩ ?_
       rotate_left
       ·intro w hSw
        go_simp
        try (with_reducible rfl)
       (try simp only [Act.put, sq])
       refine tH (i := 3) (v := .pointer (some ⟨g0, o0 + j * 4, none⟩)) rfl ?_ ⟨NA.out, NB.out, HU.out⟩ ?_
       ·intro w hSw
        go_simp
       (try simp only [Act.put, sq])
       refine wpAnyH_take (i := 4) (v := _) rfl (by kernel_rfl) (by kernel_rfl) (by kernel_rfl) (fun _ _ _ h => h) (yieldsIf_load_mid (by kernel_rfl) 24 (.tmp 43) rfl g0 (o0 + j * 4) rfl [p0, p1, p2, p3] _ (fun _ h => HGp.out _ h.2.2) Tryz.underlying24 rfl (HINL.out _ _ _ _)) ⟨NA.out, NB.out, HU.out⟩ ?_
       (try simp only [Act.put, sq])
       refine tH (i := 5) (v := ?_) rfl ?_ ⟨NA.out, NB.out, HU.out⟩ ?_
       rotate_left
       ·intro w hSw
        go_simp
        try (with_reducible rfl)
       (try simp only [Act.put, sq])
       refine tH (i := 6) (v := .slice (some ⟨g1, o1, none⟩) l.length cap2) rfl ?_ ⟨NA.out, NB.out, HU.out⟩ ?_
       ·intro w hSw
        have cq := hSw.2.1.cell 3
        simp [nc] at cq
        go_simp
       (try simp only [Act.put, sq])
       refine tH (i := 7) (v := ?_) rfl ?_ ⟨NA.out, NB.out, HU.out⟩ ?_
       rotate_left
       ·intro w hSw
        go_simp
        try (with_reducible rfl)
       (try simp only [Act.put, sq])
       refine tH (i := 8) (v := .pointer (some ⟨g1, o1 + j * 4, none⟩)) rfl ?_ ⟨NA.out, NB.out, HU.out⟩ ?_
       ·intro w hSw
        go_simp
       (try simp only [Act.put, sq])
       refine wpAnyH_take (i := 9) (v := _) rfl (by kernel_rfl) (by kernel_rfl) (by kernel_rfl) (fun _ _ _ h => h) (yieldsIf_load_mid (by kernel_rfl) 24 (.tmp 48) rfl g1 (o1 + j * 4) rfl [q0, q1, q2, q3] _ (fun _ h => HGq.out _ h.2.2) Tryz.underlying24 rfl (HINL.out _ _ _ _)) ⟨NA.out, NB.out, HU.out⟩ ?_
       (try simp only [Act.put, sq])
       refine rdH 10 rfl fun K hK => ?_
       go_simp
       refine (IH.out x y _ _ _ _ _ (by omega) (by omega) (HNp.out.belowB HU.out) (HNq.out.belowB HU.out)).mono ?_
       rintro e w3 ⟨rfl, hq⟩
       obtain ⟨sb, hsb⟩ : ∃ b, Pars.same x y = b := ⟨_, rfl⟩
       rw [hsb]
       have HSB := hid hsb
       clear hsb
       replace NA := bl NA hq
       replace NB := bl NB hq
       replace HU := hid (HU.out.trans (hq.mono HU.out.size))
       clear hq
       refine hK.out _ _ ⟨NA.out, NB.out, HU.out⟩ (fun hHeld => ?_)
       clear hK hHeld K
       (try simp only [Act.put, sq])
       refine tH (i := 11) (v := ?_) rfl ?_ ⟨NA.out, NB.out, HU.out⟩ ?_
       rotate_left
       ·intro w hSw
        go_simp
        try (with_reducible rfl)
       (try simp only [Act.put, sq])
       refine wpAnyH_done (by kernel_rfl) ?_ _
       cases sb
       ·go_wp2
        go_ret
        exact ⟨by rw [same_mk, show Pars.sames l l2 = false from by cases hs : Pars.sames l l2 with
         | true => rw [sames_at l l2 hs j x y HXp.out HXq.out] at HSB; exact absurd HSB.out (by decide)
         | false => rfl]; simp, HU.out⟩
       ·go_wp2
        go_roundg (l.length - (j + 1))
        case measure => omega
        case rel =>
         refine ⟨j + 1, by omega, by omega, rfl, (show Hid _ from fun i x' y' hi hx' hy' => ?_), NA, NB, HU⟩
         by_cases e : i = j
         ·subst e
          have e1 := HXp.out
          have e2 := HXq.out
          rw [hx'] at e1
          rw [hy'] at e2
          injection e1 with e1
          injection e2 with e2
          rw [e1, e2]
          exact HSB.out
         ·exact AA.out i x' y' (by omega) hx' hy'
      ·have hltz : ¬ (j : Int) < (l.length : Int) := by omega
       have hltd : decide ((j : Int) < (l.length : Int)) = false := decide_eq_false hltz
       go_wp2
       go_ret
       exact ⟨by rw [same_mk, sames_all l l2 HL.out fun i x y hx hy => AA.out i x y (by have := (List.getElem?_eq_some_iff.1 hx).1; omega) hx hy]; simp, HU.out⟩
    ·have Y : Hid (Pars.sames l l2 = false) := hid (by cases hs : Pars.sames l l2 with
  | true => exact absurd (sames_len l l2 hs) y4
  | false => rfl)
     have f0 : ¬ ((l.length : Int) = (l2.length : Int)) := by omega
     have f1 : ((l.length : Int) == (l2.length : Int)) = false := bn f0
     have f2 : ((l.length : Int) != (l2.length : Int)) = true := by simp [bne, f1]
     have f3 : (l.length == l2.length) = false := bn y4
     have f4 : (l.length != l2.length) = true := by simp [bne, f3]
     clear y4
     go_enter Tryz.func13, Tryz.ntmps13
     go_upto_region 1 with fail
     refine gen_world (F := fun W => Box W w.heap.size 24 (nc k nu t (.slice A l.length cap)) ∧ Box W (w.heap.size + 1) 24 (nc k nu t (.slice A2 l2.length cap2)) ∧ Below w.heap.size w W) ⟨(Box.new w _ _).alloc _, by have := Box.new (w.alloc (.cells (nc k nu t (.slice A l.length cap)) 24 (0, 0))) 24 (nc k nu t (.slice A2 l2.length cap2)); simpa using this, (below1 w _).alloc (by simp) _⟩ ?_
     rintro W0 ⟨b0, b1, hU⟩
     have NA := hid b0
     have NB := hid b1
     have HU := hid hU
     clear b0 b1 hU
     have c0 := NA.out.cell 0
     have d0 := NB.out.cell 0
     have c1 := NA.out.cell 1
     have d1 := NB.out.cell 1
     have c2 := NA.out.cell 2
     have d2 := NB.out.cell 2
     have c3 := NA.out.cell 3
     have d3 := NB.out.cell 3
     simp [nc] at c0 d0 c1 d1 c2 d2 c3 d3
     go_wp2
     go_ret
     exact ⟨by rw [same_mk]; simp [Y.out], HU.out⟩
   ·have Y := hid y3
    have hT : byt t ≠ byt t2 := fun e => y3 (byt_inj e)
    obtain ⟨q1, q2, q3⟩ := same_no hT
    have q4 := of_decide_eq_false q2
    have f3 : ((byt t).toList != (byt t2).toList) = true := by simp [bne, q1]
    clear y3
    go_enter Tryz.func13, Tryz.ntmps13
    go_upto_region 1 with fail
    refine gen_world (F := fun W => Box W w.heap.size 24 (nc k nu t (.slice A l.length cap)) ∧ Box W (w.heap.size + 1) 24 (nc k nu t2 (.slice A2 l2.length cap2)) ∧ Below w.heap.size w W) ⟨(Box.new w _ _).alloc _, by have := Box.new (w.alloc (.cells (nc k nu t (.slice A l.length cap)) 24 (0, 0))) 24 (nc k nu t2 (.slice A2 l2.length cap2)); simpa using this, (below1 w _).alloc (by simp) _⟩ ?_
    rintro W0 ⟨b0, b1, hU⟩
    have NA := hid b0
    have NB := hid b1
    have HU := hid hU
    clear b0 b1 hU
    have c0 := NA.out.cell 0
    have d0 := NB.out.cell 0
    have c1 := NA.out.cell 1
    have d1 := NB.out.cell 1
    have c2 := NA.out.cell 2
    have d2 := NB.out.cell 2
    simp [nc] at c0 d0 c1 d1 c2 d2
    go_wp2
    go_ret
    exact ⟨by rw [same_mk]; simp [Y.out], HU.out⟩
  ·have Y := hid y2
   have f1 : (nu == nu2) = false := bn y2
   have f2 : (nu != nu2) = true := by simp [bne, f1]
   clear y2
   go_enter Tryz.func13, Tryz.ntmps13
   go_upto_region 1 with fail
   refine gen_world (F := fun W => Box W w.heap.size 24 (nc k nu t (.slice A l.length cap)) ∧ Box W (w.heap.size + 1) 24 (nc k nu2 t2 (.slice A2 l2.length cap2)) ∧ Below w.heap.size w W) ⟨(Box.new w _ _).alloc _, by have := Box.new (w.alloc (.cells (nc k nu t (.slice A l.length cap)) 24 (0, 0))) 24 (nc k nu2 t2 (.slice A2 l2.length cap2)); simpa using this, (below1 w _).alloc (by simp) _⟩ ?_
   rintro W0 ⟨b0, b1, hU⟩
   have NA := hid b0
   have NB := hid b1
   have HU := hid hU
   clear b0 b1 hU
   have c0 := NA.out.cell 0
   have d0 := NB.out.cell 0
   have c1 := NA.out.cell 1
   have d1 := NB.out.cell 1
   simp [nc] at c0 d0 c1 d1
   go_wp2
   go_ret
   exact ⟨by rw [same_mk]; simp [Y.out], HU.out⟩
 ·have Y := hid y1
  have f1 : (k == k2) = false := bn y1
  have f2 : (k != k2) = true := by simp [bne, f1]
  clear y1
  go_enter Tryz.func13, Tryz.ntmps13
  go_upto_region 1 with fail
  refine gen_world (F := fun W => Box W w.heap.size 24 (nc k nu t (.slice A l.length cap)) ∧ Box W (w.heap.size + 1) 24 (nc k2 nu2 t2 (.slice A2 l2.length cap2)) ∧ Below w.heap.size w W) ⟨(Box.new w _ _).alloc _, by have := Box.new (w.alloc (.cells (nc k nu t (.slice A l.length cap)) 24 (0, 0))) 24 (nc k2 nu2 t2 (.slice A2 l2.length cap2)); simpa using this, (below1 w _).alloc (by simp) _⟩ ?_
  rintro W0 ⟨b0, b1, hU⟩
  have NA := hid b0
  have NB := hid b1
  have HU := hid hU
  clear b0 b1 hU
  have c0 := NA.out.cell 0
  have d0 := NB.out.cell 0
  simp [nc] at c0 d0
  go_wp2
  go_ret
  exact ⟨by rw [same_mk]; simp [Y.out], HU.out⟩
theorem same_le : ∀ N, SameLe N
 | 0 => by intro a b ca cb w S S2 h; cases a; simp [Pars.size] at h
 | N + 1 => same_step (same_le N)
theorem same_any {a b : Pars.Node} {ca cb : Array Value} {w : World} {S S2 : Nat → Prop} (h : Pars.size a ≤ 4611686018427387904) (hn : NodeAt w S a ca) (hm : NodeAt w S2 b cb) :
  Calls Tryz.prog 13 #[.agg ca, .agg cb] w fun e w' => e = .returned (.bool (Pars.same a b)) ∧ Below w.heap.size w w' := same_le _ a b ca cb w S S2 (Nat.le_refl _) h hn hm
end Go.Proofs.YtonjdlialejedaaGreatDoor
namespace Go.Proofs.YtonjdlialejedaaGreatDoor
open Go.Lib (hid)
open Go.RowKit
def PC (s : List UInt8) (n : Pars.Node) (k : Int) : Prop := (Pars.parse s = .ok n ∧ k = 0) ∨ (n = .mk 0 0 [] [] ∧ (k = 2 ∧ Pars.parse s = .error 2 ∨ k = 4 ∧ Pars.parse s = .error 4))
end Go.Proofs.YtonjdlialejedaaGreatDoor
namespace Go.Proofs.YtonjdlialejedaaGreatDoor
open Go.Lib (hid)
open Go.RowKit
def laidList : List (String × DataW Unit) := [("math/bits.deBruijn32tab", Rows.laid_math_bits_deBruijn32tab), ("math/bits.deBruijn64tab", Rows.laid_math_bits_deBruijn64tab), ("internal/strconv.uint64pow10", Rows.laid_internal_strconv_uint64pow10), ("unicode.White_Space", Rows.laid_unicode_White_Space), ("strings.asciiSpace", Rows.laid_strings_asciiSpace)]
theorem gTypePow : (Tryz.prog.globals[3]?).map (·.type) = some 156 := by kernel_rfl
theorem tabCellsPow : Tryz.prog.cellsOf 156 = 20 := by kernel_rfl
theorem wordCellsPow : Tryz.prog.cellsOf 143 = 1 := by kernel_rfl
theorem pow_data : (Rows.laid_internal_strconv_uint64pow10 : DataW Unit) = Lib.tabData .u64 Lib.pow10Tab := by kernel_rfl
theorem gTypeSpace : (Tryz.prog.globals[0]?).map (·.type) = some 68 := by kernel_rfl
theorem tabCellsSpace : Tryz.prog.cellsOf 68 = 256 := by kernel_rfl
theorem byteCells1 : Tryz.prog.cellsOf 5 = 1 := by kernel_rfl
theorem space_data : (Rows.laid_strings_asciiSpace : DataW Unit) = Lib.tabData .u8 Lib.asciiSpaceTab := by kernel_rfl
theorem heap7 {W : World} (h : W.ShapedOpen Tryz.prog) : 7 ≤ W.heap.size := by
 have hs : (((begin Tryz.prog (fun _ _ => 0) default).world.heap[6]?).bind Obj.row?).isSome = true := by kernel_rfl
 obtain ⟨⟨z, t⟩, hz⟩ := Option.isSome_iff_exists.1 hs
 have hg : 6 < Tryz.prog.globals.size := of_decide_eq_true (by kernel_rfl)
 obtain ⟨cs, hc, _⟩ := h.1 6 z t hg hz
 have := (Array.getElem?_eq_some_iff.1 hc).1
 omega
theorem env_of {W : World} (h : laidMet Tryz.prog laidList W) (hs : W.ShapedOpen Tryz.prog) : EnvW W := by
 have h2 := h
 unfold laidList at h2
 rw [pow_data, space_data] at h2
 refine ⟨?_, ?_, ?_, heap7 hs⟩
 ·exact Lib.tabIs_of_head (rest := []) Jl.gSpace gTypeSpace Tryz.underlying68 Tryz.underlying5 byteCells1 tabCellsSpace h2.tail.tail.tail.tail
 ·exact Lib.tabIs_of_head gPow gTypePow Tryz.underlying156 Tryz.underlying143 wordCellsPow tabCellsPow h2.tail.tail
 ·exact cell_of_shapedOpen_int (zero := #[.int .i64 0]) (t := 3) hs (of_decide_eq_true (by kernel_rfl)) (by kernel_rfl) rfl (by kernel_rfl) (by kernel_rfl) Tryz.underlying3
end Go.Proofs.YtonjdlialejedaaGreatDoor
namespace Pars
def sgns : List Bs := [[43], [45], [42], [47], [37], [60], [61, 61], [38, 38], [124, 124]]
def sgn (a : Nat) : Bs := sgns.getD a []
end Pars
namespace Go.Proofs.YtonjdlialejedaaGreatDoor
open Go.Lib (hid)
open Go.RowKit Go.Maps Go.ChangeMaps Go.MapKept
structure Rdr (α : Type) where
 val : α → Value
 R : Value → Option (DataW Unit × List MemPlace)
 enc : α → DataW Unit
 ok : ∀ x, R (val x) = some (enc x, [])
 inv : ∀ v x ps, R v = some (enc x, ps) → v = val x
theorem txtKey : Keyed Tryz.prog 9 := string_keyed Tryz.underlying9
theorem keyTxt (k : List UInt8) (h : k.length ≤ maxLen) : keyOf Tryz.prog 9 (.string (byt k)) = some (.string k) := by
 have := WideMaps.keyOf_string_mk (P := Tryz.prog) Tryz.underlying9 (s := byt k) (by rw [byt_size]; exact h)
 rwa [byt_data] at this
def MapF {α : Type} (r : Rdr α) (w : World) (b n : Nat) (f : List UInt8 → Option α) : Prop :=
 ∃ D : DataW Unit, w.ownsMap Tryz.prog 9 r.R b n D ∧ ∀ k : List UInt8, Maps.has D (.string k) = (f k).isSome ∧ ∀ z, D.atKey (.string k) z = (f k).elim z r.enc
section
variable {α : Type} {r : Rdr α} {w : World} {b n : Nat} {f : List UInt8 → Option α}
theorem MapF.lt (h : MapF r w b n f) : b < w.heap.size := let ⟨_, h1, _⟩ := h; h1.lt
theorem MapF.mono (h : MapF r w b n f) {n' : Nat} (hn : n ≤ n') : MapF r w b n' f := let ⟨D, h1, h2⟩ := h; ⟨D, h1.mono hn, h2⟩
theorem MapF.kept {w' : World} {row : Option Nat} (h : MapF r w b n f) (hg : w.grownBy w' row) (hne : some b ≠ row) : MapF r w' b n f := let ⟨D, h1, h2⟩ := h; ⟨D, h1.kept hg hne, h2⟩
theorem MapF.block {w' : World} (h : MapF r w b n f) (hb : w'.heap[b]? = w.heap[b]?) : MapF r w' b n f := by
 obtain ⟨D, ⟨es, c, h0, h3⟩, h2⟩ := h
 exact ⟨D, ⟨es, c, hb.trans h0, h3⟩, h2⟩
theorem MapF.below {w' : World} (h : MapF r w b n f) (hb : Below w.heap.size w w') : MapF r w' b n f := h.block (hb.block b h.lt)
theorem MapF.upd {w' : World} {g : Nat} (h : MapF r w b n f) (hu : Upd w w' g) (hne : b ≠ g) : MapF r w' b n f := h.block (hu.block b h.lt (fun e => hne (by injection e)))
def putF (f : List UInt8 → Option α) (k : List UInt8) (v : Option α) : List UInt8 → Option α := fun x => if x = k then v else f x
theorem MapF.store (h : MapF r w b n f) {t e : TypeId} (ht : Tryz.prog.underlying t = some (.map 9 e)) (hn : n < maxLen) (k : List UInt8) (hk : k.length ≤ maxLen) (x : α) :
  ∃ w', (Instr.mapUpdate t (.map (some b)) (.string (byt k)) (r.val x)).run Tryz.prog w = .ok () w' ∧ MapF r w' b (n + 1) (putF f k (some x)) ∧ Upd w w' b ∧ w'.heap.size = w.heap.size := by
 obtain ⟨D, h1, h2⟩ := h
 obtain ⟨w', hrun, h3, h4⟩ := h1.store txtKey ht hn (keyTxt k hk) (r.ok x)
 have hm := h1.isMap
 refine ⟨w', hrun, ⟨_, h3, fun y => ?_⟩, h4.grown, ?_⟩
 ·unfold putF
  by_cases e : y = k
  ·subst e
   rw [if_pos rfl]
   exact ⟨has_put_same (k := .string y) hm trivial _, fun z => atKey_put_same (k := .string y) hm trivial _ z⟩
  ·rw [if_neg e]
   have hne : (Lit.string y) ≠ .string k := fun h => e (by injection h)
   rw [has_put_other hne]
   exact ⟨(h2 y).1, fun z => by rw [atKey_put_other hne]; exact (h2 y).2 z⟩
 ·obtain ⟨es, c, es', c', _, rfl⟩ := h4
  simp [setBlock]
theorem MapF.drop (h : MapF r w b n f) {t e : TypeId} (ht : Tryz.prog.underlying t = some (.map 9 e)) (k : List UInt8) (hk : k.length ≤ maxLen) (ty : TypeId) :
  ∃ w', (Builtin.delete_ #[t, 9] ty #[.map (some b), .string (byt k)]).run Tryz.prog w = .ok (.tuple #[]) w' ∧ MapF r w' b n (putF f k none) ∧ Upd w w' b ∧ w'.heap.size = w.heap.size := by
 obtain ⟨D, h1, h2⟩ := h
 obtain ⟨w', hrun, h3, h4⟩ := h1.drop txtKey ht (keyTxt k hk) ty
 refine ⟨w', hrun, ⟨_, h3, fun y => ?_⟩, h4.grown, ?_⟩
 ·unfold putF
  by_cases e : y = k
  ·subst e
   rw [if_pos rfl]
   exact ⟨has_del_same, fun z => atKey_del_same z⟩
  ·rw [if_neg e]
   have hne : (Lit.string y) ≠ .string k := fun h => e (by injection h)
   rw [has_del_other hne]
   exact ⟨(h2 y).1, fun z => by rw [atKey_del_other hne]; exact (h2 y).2 z⟩
 ·obtain ⟨es, c, es', c', _, rfl⟩ := h4
  simp [setBlock]
theorem MapF.clear (h : MapF r w b n f) {t e : TypeId} (ht : Tryz.prog.underlying t = some (.map 9 e)) (ty : TypeId) :
  ∃ w', (Builtin.clear_ #[t] ty #[.map (some b)]).run Tryz.prog w = .ok (.tuple #[]) w' ∧ MapF r w' b 0 (fun _ => none) ∧ Upd w w' b ∧ w'.heap.size = w.heap.size := by
 obtain ⟨D, ⟨es, c, hb, _⟩, _⟩ := h
 have hrun : (Builtin.clear_ #[t] ty #[.map (some b)]).run Tryz.prog w = .ok (.tuple #[]) (setBlock w b (.map #[] c)) := by
  simp [Builtin.clear_, run_underlying ht, MapKept.run_getObj_map hb, MapKept.run_setObj_map _ hb, Result.andThen]
  rfl
 refine ⟨_, hrun, ?_, ?_, ?_⟩
 ·exact ⟨.map [], ⟨#[], c, heap_setBlock_same hb _, ⟨by simp, stamped_empty c, by simp⟩, Nat.le_refl _, rfl⟩, fun k => ⟨rfl, fun z => rfl⟩⟩
 ·exact ⟨rfl, rfl, rfl, by simp [setBlock], fun i _ hi => heap_setBlock_other hb _ (fun e => hi (by rw [e]))⟩
 ·simp [setBlock]
end
end Go.Proofs.YtonjdlialejedaaGreatDoor
namespace Go.Proofs.YtonjdlialejedaaGreatDoor
open Go.Lib (hid)
open Go.RowKit Go.Maps Go.ChangeMaps Go.MapKept
theorem sgn_len : ∀ p, p < 9 → (Pars.sgn p).length ≤ 2 := by decide
end Go.Proofs.YtonjdlialejedaaGreatDoor
