/-
  Texts that the law leans on: PxA, PlQ, PxC. Conditions: as each says.
-/
import Derived.Test.YtonjdlialejedaaGreatDoorXBm
import Derived.Test.YtonjdlialejedaaGreatDoorXBn
import Derived.Test.YtonjdlialejedaaGreatDoorXAd
import Derived.Test.YtonjdlialejedaaGreatDoorXAc
import Derived.Test.YtonjdlialejedaaGreatDoorXBa
import Derived.Test.YtonjdlialejedaaGreatDoorXAa
set_option linter.unusedSimpArgs false
set_option linter.unusedVariables false
namespace Go.Proofs.YtonjdlialejedaaGreatDoor
open Go.Lib (hid)
open Go.RowKit
def WriteOut (n : Pars.Node) (w : World) (e : Ending) (w' : World) : Prop :=
 (∃ s, Wri.write n = .ok s ∧ e = .returned (.tuple #[.string (byt s), .int .i64 0]) ∧ Below w.heap.size w w') ∨
 (∃ k : Nat, Wri.write n = .error k ∧ (k = 2 ∨ k = 3) ∧ e = .returned (.tuple #[.string ⟨#[]⟩, .int .i64 (k : Int)]) ∧ Below w.heap.size w w')
theorem wt_fresh {B : Nat} (w : World) (hB : B ≤ w.heap.size) : Wt B w.heap.size [] (w.alloc (.cells #[.pointer none, .slice none 0 0] 55)) := Or.inl ⟨hB, .slice none 0 0, (Box.new w _ _), World.ownsRow_nil _ _ _ _, by simp [Value.ownBlock]⟩
def jb (kl : List Pars.Node) (j : Nat) : List UInt8 := Wri.joinB ((kl.take j).map fun x => Wri.wr x .stmt)
theorem joinB_snoc : ∀ (l : List (List UInt8)) (a : List UInt8), l ≠ [] → Wri.joinB (l ++ [a]) = Wri.joinB l ++ [32] ++ a
 | [], _, h => absurd rfl h
 | [b], a, _ => by simp [Wri.joinB]
 | b :: c :: l, a, _ => by
  have ih := joinB_snoc (c :: l) a (by simp)
  simp only [List.cons_append, Wri.joinB] at ih ⊢
  rw [ih]; simp
theorem jb_zero (kl : List Pars.Node) : jb kl 0 = [] := rfl
theorem jb_one {kl : List Pars.Node} {x : Pars.Node} (h : kl[0]? = some x) : jb kl (0 + 1) = Wri.wr x .stmt := by
 unfold jb
 rw [List.take_add_one, h]; rfl
theorem jb_next {kl : List Pars.Node} {x : Pars.Node} {j : Nat} (h : kl[j]? = some x) (hj : 0 < j) : jb kl (j + 1) = jb kl j ++ [32] ++ Wri.wr x .stmt := by
 have hlt := (List.getElem?_eq_some_iff.1 h).1
 unfold jb
 rw [List.take_add_one, h, Option.toList_some, List.map_append, List.map_cons, List.map_nil, joinB_snoc]
 intro h0
 have h1 : ((kl.take j).map fun x => Wri.wr x .stmt).length = j := by rw [List.length_map, List.length_take]; omega
 rw [h0] at h1
 simp at h1
 omega
theorem jb_all (kl : List Pars.Node) {j : Nat} (h : kl.length ≤ j) : jb kl j = Wri.joinB (kl.map fun x => Wri.wr x .stmt) := by
 unfold jb; rw [List.take_of_length_le h]
theorem wgs_take (kl : List Pars.Node) (j : Nat) : Wri.wgs (kl.take j) ≤ Wri.wgs kl := by
 induction kl generalizing j with
 | nil => simp
 | cons x l ih =>
  cases j with
  | zero => simp [Wri.wgs]
  | succ j => simp only [List.take_succ_cons, Wri.wgs]; have := ih j; omega
theorem jb_len {kl : List Pars.Node} (h : Wri.KL kl) (j : Nat) : (jb kl j).length ≤ 64 * Wri.wgs kl := by
 have h1 := Wri.joinB_len (kl.take j) (fun x hx m => h x (List.mem_of_mem_take hx) m)
 have h2 := wgs_take kl j
 unfold jb; omega
theorem ri_check {n : Pars.Node} (h : Wri.check n = 0) : Ri n := by
 unfold Wri.check at h
 split at h
 ·cases h
 ·rename_i h1
  refine ⟨false, false, ?_⟩
  cases hr : Wri.right n false false with
  | true => rfl
  | false => exact absurd (.inr hr) h1
theorem ri_KL {k nu : Int} {t : List UInt8} {l : List Pars.Node} (h : Ri (.mk k nu t l)) : Wri.KL l := by
 obtain ⟨a, b, h⟩ := h
 exact fun x hx m => Wri.wr_len x ((Wri.rt_kids (Wri.rt_of _ _ _ h)).2 x hx) m
theorem check_vals (n : Pars.Node) : Wri.check n = 0 ∨ Wri.check n = 2 ∨ Wri.check n = 3 := by
 unfold Wri.check; split
 ·simp
 ·split <;> simp
set_option maxRecDepth 100000 in
set_option maxHeartbeats 4000000 in
theorem write_any {n : Pars.Node} {cs : Array Value} {w : World} {S : Nat → Prop} (hM : Wri.wg n ≤ 1048576) (hn : NodeAt w S n cs) (he : EnvW w) : Calls Tryz.prog 11 #[.agg cs] w (WriteOut n w) := by
 obtain ⟨k, nu, t, kl⟩ := n
 replace hn := NodeAt.keep (S1 := fun g => g < w.heap.size) (w1 := w) (fun g _ h => h) (Nat.le_refl _) (fun _ _ _ => rfl) hn
 have hn0 := hn
 unfold NodeAt at hn
 obtain ⟨A, cap, css, rfl, hc1, hc2, hrow, hk⟩ := hn
 have HROW := hid hrow
 have HK := hid hk
 have HN := hid hn0
 have HE := hid he
 have hll := Wri.wgs_len kl
 have h7 := he.big
 have HWG := hid hM
 clear hrow hk hn0 he
 have INF : (Tryz.prog.info? 24).map (·.size) = some (nc k nu t (.slice A kl.length cap)).size := info_nod
 obtain ⟨c, hc⟩ : ∃ c, Wri.check (.mk k nu t kl) = c := ⟨_, rfl⟩
 have hcv := check_vals (.mk k nu t kl)
 rw [hc] at hcv
 have HC := hid hc
 clear hc
 go_enter Tryz.func11, Tryz.ntmps11
 go_upto_region 1 with fail
 refine gen_world (F := fun W => Box W w.heap.size 24 (nc k nu t (.slice A kl.length cap)) ∧ Below w.heap.size w W) ⟨Box.new w _ _, below1 w _⟩ ?_
 rintro W0 ⟨b0, hU⟩
 have NB := hid b0
 have HU := hid hU
 have hB0 := hU.size
 clear b0 hU
 go_wp2_with (refine wpList_load_row rfl 24 (.tmp 1) rfl w.heap.size rfl _ (nc k nu t (.slice A kl.length cap)) (0, 0) _ NB.out Tryz.underlying24 rfl INF ?_)
 refine (check_is (by have := HWG.out; omega) (HN.out.belowB HU.out) (HE.out.below HU.out h7)).mono ?_
 rintro e w1 ⟨rfl, hb⟩
 rw [HC.out]
 replace NB := bl NB hb
 replace HU := hid (HU.out.trans (hb.mono hB0))
 replace hB0 := Nat.le_trans hB0 hb.size
 have hnw : w.heap.size < w1.heap.size := NB.out.lt
 clear hb
 by_cases hc0 : c = 0
 ·have HC0 := hid hc0
  have hR : Ri (.mk k nu t kl) := ri_check (by rw [HC.out]; exact hc0)
  have HKL := hid (ri_KL hR)
  have HJL := hid (fun j => jb_len (ri_KL hR) j)
  subst hc0
  go_upto_region 5 with fail
  refine gen_world (F := fun W => Wt w.heap.size w1.heap.size [] W ∧ Box W w.heap.size 24 (nc k nu t (.slice A kl.length cap)) ∧ Below w.heap.size w W) ⟨wt_fresh w1 hB0, NB.out.alloc _, HU.out.trans ((below1 w1 _).mono hB0)⟩ ?_
  clear NB HU
  rintro W1 ⟨wt0, b0, hU⟩
  have WT := hid wt0
  have NB := hid b0
  have HU := hid hU
  have hB1 := hU.size
  clear hB0
  have hB0 := hB1
  clear wt0 b0 hU
  have HNENB : Hid (w.heap.size ≠ w1.heap.size) := hid (by omega)
  clear hnw
  have c3 := NB.out.cell 3
  simp [nc] at c3
  go_wp2
  go_loopg [16] kl.length (fun gg s16 wr => ∃ j : Nat, j ≤ kl.length ∧ kl.length - j ≤ gg ∧ s16 = .int .i64 (j : Int) ∧ w.heap.size ≤ wr.heap.size ∧ Hid (Wt w.heap.size w1.heap.size (jb kl j) wr) ∧ Hid (Box wr w.heap.size 24 (nc k nu t (.slice A kl.length cap))) ∧ Hid (Below w.heap.size w wr))
  case atStart => exact ⟨0, Nat.zero_le _, by omega, rfl, hB0, by simpa [jb_zero] using WT, NB, HU⟩
  case round =>
   clear WT NB HU hB0 c3
   obtain ⟨j, hj, hg, rfl, hB0, WT, NB, HU⟩ := hrel
   by_cases hlt : j < kl.length
   ·have hltz : (j : Int) < (kl.length : Int) := by omega
    have hltd : decide ((j : Int) < (kl.length : Int)) = true := decide_eq_true hltz
    have wj : IntKind.i64.wrap ((j : Int) + 1) = (j : Int) + 1 := by rw [IntKind.wrap_i64]; simp only [Wri.wg] at hM; omega
    obtain ⟨x, hx⟩ : ∃ x, kl[j]? = some x := ⟨_, List.getElem?_eq_getElem hlt⟩
    have HX := hid hx
    have HXL := hid (HKL.out x (List.mem_of_getElem? hx) .stmt)
    have hxw := Wri.wg_mem (List.mem_of_getElem? hx)
    obtain ⟨xc, g0, o0, rfl, hg0, hx4, hnx, hrx⟩ := kid_at HK.out HROW.out hx
    have HR0 := hid hrx
    have HXN := hid hnx
    have HXR := hid (ri_kid hR x (List.mem_of_getElem? hx))
    have HXW : Hid (Wri.wg x ≤ 1048576) := hid (by simp only [Wri.wg] at hM; omega)
    have hinf : (Tryz.prog.info? 24).map (·.size) = some xc.toList.length := by rw [Array.length_toList, hx4]; exact info_nod
    have HXI := hid hinf
    have hinf2 : (Tryz.prog.info? 24).map (·.size) = some xc.size := by rw [hx4]; exact info_nod
    have HXI2 := hid hinf2
    have H4 : Hid ((4 : Nat) = xc.size) := hid hx4.symm
    have HONE := hid (NodeAt.one hnx)
    clear hxw hnx hrx hinf hinf2 hx4
    have hkl := hlt
    have hwx := HXW.out
    have HNEEB : Hid (wr.heap.size ≠ w1.heap.size) := hid (by have := WT.out.lt.2; omega)
    clear hx
    have hrr := HR0.out wr HU.out
    have c3 := NB.out.cell 3
    simp [nc] at c3
    have hwb2 := WT.out.lt.2
    go_upto_region 8 with (first | (refine wpList_load_mid rfl 24 (.tmp 19) rfl g0 (o0 + j * 4) rfl xc.toList _ hrr Tryz.underlying24 rfl HXI.out ?_) | (refine wpList_store_box rfl 24 (.tmp 7) (.tmp 20) rfl wr.heap.size xc rfl (by simp [Act.eval, Act.put]) 24 _ (Box.new wr _ _) HXI2.out H4.out HONE.out ?_; intro w2 hx2 hu2 hz2; have HZ2 := hid hz2; clear hz2))
    have hb2 : Below wr.heap.size wr w2 := ((Below.refl _ wr).alloc (Nat.le_refl _) _).trans (hu2.own (Nat.le_refl _) (by simp))
    have EB := hid hx2
    replace NB := bl NB hb2
    replace WT := hid (WT.out.below hb2)
    replace HU := hid (HU.out.trans (hb2.mono hB0))
    replace hB0 := Nat.le_trans hB0 hb2.size
    clear hx2 hu2 hb2 hrr c3 hwb2
    by_cases hj0 : j = 0
    ·have HJ0 := hid hj0
     have hjd : decide ((0 : Int) < (j : Int)) = false := decide_eq_false (by omega)
     have hje : decide (0 < j) = false := decide_eq_false (by omega)
     clear hj0
     replace WT : Hid (Wt w.heap.size w1.heap.size [] w2) := hid (by have := WT.out; rwa [HJ0.out, jb_zero] at this)
     have eb := EB.out
     go_wp2_with (refine wpList_load_row rfl 24 (.tmp 7) rfl wr.heap.size rfl _ xc (0, 0) _ eb Tryz.underlying24 rfl HXI2.out ?_)
     refine ((wall 1048576).stmt HXW.out HXW.out HXR.out (HXN.out.belowB HU.out) WT.out hB0 h7 (HE.out.below HU.out h7) (by have := HJL.out j; have := HXL.out; simp only [Wri.wg] at hM; (try simp only [ln]); omega)).mono ?_
     rintro e w3 ⟨rfl, hw, hb, hs⟩
     clear eb EB
     replace WT := hid hw
     replace NB := st hs NB HNENB
     replace HU := hid (HU.out.trans hb)
     replace hB0 := Nat.le_trans hB0 hb.size
     clear hw hb hs
     go_wp2
     go_roundg (kl.length - (j + 1))
     case measure => omega
     case rel =>
      have hx0 := HX.out
      rw [HJ0.out] at hx0
      have e0 := jb_one hx0
      rw [← HJ0.out] at e0
      exact ⟨j + 1, by omega, by omega, rfl, hB0, by rw [e0]; simpa using WT, NB, HU⟩
    ·have HJ0 : Hid (0 < j) := hid (by omega)
     have hjd : decide ((0 : Int) < (j : Int)) = true := decide_eq_true (by omega)
     have hje : decide (0 < j) = true := decide_eq_true (by omega)
     clear hj0
     go_wp2_with fail
     refine (wbyte w.heap.size w1.heap.size (jb kl j) 32 _ WT.out (by have := HJL.out j; simp only [Wri.wg] at hM; omega) hB0).mono ?_
     rintro e w3 ⟨rfl, hw, hb, hs⟩
     replace WT := hid hw
     replace NB := st hs NB HNENB
     replace EB := st hs EB HNEEB
     replace HU := hid (HU.out.trans hb)
     replace hB0 := Nat.le_trans hB0 hb.size
     clear hw hb hs
     have eb := EB.out
     go_wp2_with (refine wpList_load_row rfl 24 (.tmp 7) rfl wr.heap.size rfl _ xc (0, 0) _ eb Tryz.underlying24 rfl HXI2.out ?_)
     refine ((wall 1048576).stmt HXW.out HXW.out HXR.out (HXN.out.belowB HU.out) WT.out hB0 h7 (HE.out.below HU.out h7) (by have := HJL.out j; have := HXL.out; simp only [Wri.wg] at hM; (try simp only [ln]); omega)).mono ?_
     rintro e w4 ⟨rfl, hw, hb, hs⟩
     clear eb EB
     replace WT := hid hw
     replace NB := st hs NB HNENB
     replace HU := hid (HU.out.trans hb)
     replace hB0 := Nat.le_trans hB0 hb.size
     clear hw hb hs
     go_wp2
     go_roundg (kl.length - (j + 1))
     case measure => omega
     case rel => exact ⟨j + 1, by omega, by omega, rfl, hB0, by rw [jb_next HX.out HJ0.out]; simpa [List.append_assoc] using WT, NB, HU⟩
   ·have hltz : ¬ (j : Int) < (kl.length : Int) := by omega
    have hltd : decide ((j : Int) < (kl.length : Int)) = false := decide_eq_false hltz
    obtain ⟨s, hs0⟩ : ∃ s, Wri.text (.mk k nu t kl) = s := ⟨_, rfl⟩
    have HS0 := hid hs0
    have hjl := HJL.out j
    replace WT : Hid (Wt w.heap.size w1.heap.size s wr) := hid (by have := WT.out; rw [jb_all kl (by omega)] at this; rw [← hs0]; exact this)
    have hsl : s.length ≤ 64 * Wri.wgs kl := by rw [← hs0]; show (Wri.joinB (kl.map fun x => Wri.wr x .stmt)).length ≤ _; rw [← jb_all kl (j := j) (by omega)]; exact hjl
    clear hs0 hjl
    simp only [Wri.wg] at hM
    go_wp2_with fail
    refine (wlen w.heap.size w1.heap.size s _ WT.out).mono ?_
    rintro e w2 ⟨rfl, rfl⟩
    by_cases hs2 : 2000 < s.length
    ·have HS2 := hid hs2
     have d1 : decide ((2000 : Int) < (s.length : Int)) = true := decide_eq_true (by omega)
     have d2 : (2000 : Int) < (s.length : Int) := by omega
     go_wp2
     go_returns
     exact .inr ⟨2, by unfold Wri.write; rw [HC.out, if_neg (by decide), HS0.out, if_pos HS2.out], .inl rfl, rfl, HU.out⟩
    ·have HS2 := hid hs2
     have d1 : decide ((2000 : Int) < (s.length : Int)) = false := decide_eq_false (by omega)
     have d2 : ¬ (2000 : Int) < (s.length : Int) := by omega
     go_wp2_with fail
     refine (wstring w.heap.size w1.heap.size s _ WT.out hB0).mono ?_
     rintro e w3 ⟨rfl, hb⟩
     go_wp2
     go_returns
     exact .inl ⟨s, by unfold Wri.write; rw [HC.out, if_neg (by decide), HS0.out, if_neg HS2.out], rfl, HU.out.trans hb⟩
 have d1 : ((c : Int) == 0) = false := by rw [beq_eq_false_iff_ne]; omega
 have d2 : ((c : Int) != 0) = true := by simp [bne, d1]
 go_wp2
 go_returns
 exact .inr ⟨c, by unfold Wri.write; rw [HC.out, if_pos hc0], by omega, rfl, HU.out⟩
end Go.Proofs.YtonjdlialejedaaGreatDoor
namespace Pars
open Lexy (Tk)
open Wri (wg wgs)
def wt : List Tk → Int
 | [] => 0
 | t :: l => 1 + t.text.length + wt l
theorem wgs_append : ∀ a b : List Node, wgs (a ++ b) = wgs a + wgs b
 | [], b => by simp [wgs]
 | n :: a, b => by simp only [List.cons_append, wgs, wgs_append a b]; omega
theorem wgs_kids (n : Node) : (wgs n.kids : Int) + 1 ≤ wg n := by cases n; simp only [Node.kids, wg]; omega
def Cg (d : Int) (p : List Tk → R) : Prop := ∀ l x r, p l = some (x, r) → (wg x : Int) + wt r ≤ d + wt l
theorem cg_weak {d e : Int} {p : List Tk → R} (h : Cg d p) (hd : d ≤ e) : Cg e p := fun l x r q => by have := h l x r q; omega
theorem cg_none (d : Int) : Cg d (fun _ => none) := fun l x r h => by cases h
theorem cg_pure {d : Int} (x : Node) (hx : (wg x : Int) ≤ d) : Cg d (fun l => some (x, l)) := fun l y r h => by
 injection h with h; injection h with h1 h2; subst h1 h2; omega
theorem cg_alt {d : Int} {w : Bs} {f g : List Tk → R} (hf : Cg (d + 1 + w.length) f) (hg : Cg d g) : Cg d (fun l => alt w l f (g l)) := by
 intro l x r h
 cases hi : is w l with
 | none => simp only [alt, hi] at h; exact hg l x r h
 | some l' =>
  simp only [alt, hi] at h
  obtain ⟨⟨t, ht, _, hw⟩, _⟩ := is_some hi
  have := hf l' x r h
  subst ht
  simp only [wt, hw]; omega
theorem cg_must {d : Int} {w : Bs} {f : List Tk → R} (hf : Cg (d + 1 + w.length) f) : Cg d (fun l => must w l f) := cg_alt hf (cg_none _)
theorem cg_tok {d : Int} {k : Nat} {f : Tk → List Tk → R} {g : List Tk → R} (hf : ∀ t, Cg (d + 1 + t.text.length) (f t)) (hg : Cg d g) : Cg d (fun l => tok k l f (g l)) := by
 intro l x r h
 cases l with
 | nil => exact hg [] x r h
 | cons t l =>
  simp only [tok] at h
  by_cases hk : t.kind = k
  ·rw [if_pos hk] at h
   have := hf t l x r h
   simp only [wt]; omega
  ·rw [if_neg hk] at h; exact hg _ x r h
theorem cg_named {d : Int} {f : Bs → List Tk → R} (hf : ∀ n, Cg (d + 1 + n.length) (f n)) : Cg d (fun l => named l f) := cg_tok (fun t => hf t.text) (cg_none _)
theorem cg_and {a d : Int} {p : List Tk → R} {q : Node → List Tk → R} (hp : Cg a p) (hq : ∀ x, Cg (d - a + wg x) (q x)) : Cg d (fun l => andThen (p l) q) := by
 intro l x r h
 cases hi : p l with
 | none => simp only [andThen, hi] at h; cases h
 | some y =>
  obtain ⟨y, l1⟩ := y
  simp only [andThen, hi] at h
  have h1 := hp l y l1 hi
  have h2 := hq y l1 x r h
  omega
theorem cg_signs {d : Int} {ss : List Bs} {f : Bs → List Tk → R} {g : List Tk → R} (hf : ∀ n, Cg (d + 1 + n.length) (f n)) (hg : Cg d g) : Cg d (fun l => signs ss l f (g l)) := by
 induction ss with
 | nil => exact hg
 | cons a ss ih =>
  have e : (fun l => signs (a :: ss) l f (g l)) = fun l => alt a l (f a) (signs ss l f (g l)) := by
   funext l
   simp only [signs, anyOf, alt]
   cases is a l <;> rfl
  rw [e]
  exact cg_alt (hf a) ih
theorem cg_peek {d : Int} {w : Bs} {a b : List Tk → R} (ha : Cg d a) (hb : Cg d b) : Cg d (fun l => peek w l (a l) (b l)) := by
 intro l x r h
 cases l with
 | nil => exact hb [] x r h
 | cons t l =>
  simp only [peek] at h
  by_cases hk : t.kind = 4 ∧ t.text = w
  ·rw [if_pos hk] at h; exact ha _ x r h
  ·rw [if_neg hk] at h; exact hb _ x r h
theorem cg_sep {d : Int} {more : Bool} {f : List Tk → R} (hf : Cg d f) : Cg d (fun l => sep more l f) := by
 cases more
 ·exact hf
 ·exact cg_must (cg_weak hf (by omega))
theorem cg_ite {d : Int} {c : Prop} [Decidable c] {p q : List Tk → R} (hp : Cg d p) (hq : Cg d q) : Cg d (fun l => if c then p l else q l) := by
 by_cases h : c
 ·simpa [h] using hp
 ·simpa [h] using hq
def owes : Nt → Int
 | .block => -1
 | .body _ => -1
 | .inner => -2
 | .function s => s.length
 | .blockGo acc => wgs acc
 | .binGo _ e => wg e
 | .post e => wg e
 | .some _ _ _ acc => wgs acc
 | _ => 0
theorem wg_joined (s : Bs) (a b : Node) : wg (joined s a b) ≤ wg a + wg b + s.length + 1 := by unfold joined; split <;> (try split) <;> simp [wg, wgs] <;> omega
def goodW : Nt → Bool
 | .some _ .param _ _ => true
 | .some _ .expression _ _ => true
 | .some _ .pair _ _ => true
 | .some _ _ _ _ => false
 | _ => true
theorem goodW_some {f : Bs} {one : Nt} {m : Bool} {acc : List Node} (h : goodW (.some f one m acc) = true) : owes one = 0 ∧ goodW one = true ∧ ∀ m acc, goodW (.some f one m acc) = true := by
 cases one <;> first | (simp [goodW] at h; done) | exact ⟨rfl, rfl, fun _ _ => rfl⟩
set_option maxHeartbeats 1000000 in
theorem run_cg : ∀ n nt fn lp, goodW nt = true → Cg (owes nt) (fun l => run n nt fn lp l)
 | 0, nt, fn, lp, _ => by simp only [run]; exact cg_none _
 | n + 1, nt, fn, lp, hg => by
  have ih := run_cg n
  cases nt
  case some fin one more acc =>
   obtain ⟨h1, h2, h3⟩ := goodW_some hg
   simp only [run]
   refine cg_alt (cg_pure _ ?_) (cg_sep (cg_and (ih _ _ _ h2) fun x => cg_weak (ih _ _ _ (h3 _ _)) ?_))
   ·simp only [owes, wg, List.length_nil]; omega
   ·rw [h1]; simp only [owes, wgs_append, wgs]; omega
  case binGo r e =>
   simp only [run]
   refine cg_signs (fun s => cg_and (ih _ _ _ rfl) fun b => cg_weak (ih _ _ _ rfl) ?_) (cg_pure _ (by simp only [owes]; omega))
   have := wg_joined s e b
   simp only [owes]; omega
  all_goals
   simp only [run]
   repeat' first
    | exact cg_none _
    | (refine cg_must ?_)
    | (refine cg_named fun _ => ?_)
    | (refine cg_alt ?_ ?_)
    | (refine cg_and (ih _ _ _ rfl) fun _ => ?_)
    | (refine cg_tok (fun _ => ?_) ?_)
    | (refine cg_signs (fun _ => ?_) ?_)
    | (refine cg_peek ?_ ?_)
    | (refine cg_ite ?_ ?_)
    | (refine cg_weak (ih _ _ _ rfl) ?_; simp only [owes, wg, wgs, wgs_append, List.length_cons, List.length_nil]; omega)
    | (refine cg_pure _ ?_; simp only [owes, wg, wgs, wgs_append, List.length_cons, List.length_nil]; omega)
    | (rename_i y; have hy := wgs_kids y; refine cg_weak (ih _ _ _ rfl) ?_; simp only [owes, wg, wgs, wgs_append, List.length_cons, List.length_nil]; omega)
    | (rename_i y; have hy := wgs_kids y; refine cg_pure _ ?_; simp only [owes, wg, wgs, wgs_append, List.length_cons, List.length_nil]; omega)
    | (rename_i y z; have hy := wgs_kids y; refine cg_pure _ ?_; simp only [owes, wg, wgs, wgs_append, List.length_cons, List.length_nil]; omega)
theorem top_wg : ∀ n acc l k, top n acc l = some k → (wgs k : Int) ≤ wgs acc + wt l
 | _, acc, [], k, h => by
  have : k = acc := by cases ‹Nat› <;> simp [top] at h <;> exact h.symm
  subst this; simp [wt]
 | 0, _, _ :: _, k, h => by simp [top] at h
 | n + 1, acc, t :: l, k, h => by
  simp only [top] at h
  cases hr : run (fuel (t :: l)) .statement false false (t :: l) with
  | none => rw [hr] at h; cases h
  | some y =>
   obtain ⟨x, r⟩ := y
   rw [hr] at h
   have h1 := top_wg n _ _ _ h
   have h2 := run_cg _ .statement false false rfl (t :: l) x r hr
   simp only [owes] at h2
   rw [wgs_append] at h1
   simp only [wgs] at h1
   omega
theorem txt_le : ∀ (f : Nat) (l t : Bs) (m : Nat), Lexy.txtF f l = some (t, m) → t.length < m
 | 0, l, t, m, h => by simp [Lexy.txtF] at h
 | f + 1, [], t, m, h => by simp [Lexy.txtF] at h
 | f + 1, c :: r, t, m, h => by
  simp only [Lexy.txtF] at h
  split at h
  ·simp at h; obtain ⟨rfl, rfl⟩ := h; simp
  split at h
  ·cases h
  split at h
  ·split at h
   ·cases h
   ·split at h
    ·cases h
    ·rename_i hr
     simp at h
     obtain ⟨rfl, rfl⟩ := h
     have := txt_le f _ _ _ hr
     simp only [List.length_cons]; omega
  ·split at h
   ·cases h
   ·rename_i hr
    simp at h
    obtain ⟨rfl, rfl⟩ := h
    have := txt_le f _ _ _ hr
    simp only [List.length_cons]; omega
theorem next_le {l : Bs} {t : Tk} {n : Nat} (h : Lexy.next l = .ok (t, n)) : t.text.length ≤ n := by
 cases l with
 | nil => simp [Lexy.next] at h
 | cons c r =>
  simp only [Lexy.next] at h
  split at h
  ·simp only [Lexy.Res.ok.injEq, Prod.mk.injEq] at h
   obtain ⟨rfl, rfl⟩ := h
   simp only [List.length_take]; omega
  split at h
  ·split at h
   ·cases h
   ·split at h
    ·cases h
    ·simp only [Lexy.Res.ok.injEq, Prod.mk.injEq] at h
     obtain ⟨rfl, rfl⟩ := h
     simp
  split at h
  ·split at h
   ·cases h
   ·rename_i ht
    simp only [Lexy.Res.ok.injEq, Prod.mk.injEq] at h
    obtain ⟨rfl, rfl⟩ := h
    have := txt_le _ _ _ _ ht
    simp only; omega
  ·unfold Lexy.sign at h
   split at h
   ·simp only [Lexy.Res.ok.injEq, Prod.mk.injEq] at h
    obtain ⟨rfl, rfl⟩ := h
    simp only [List.length_take]; omega
   ·split at h
    ·simp only [Lexy.Res.ok.injEq, Prod.mk.injEq] at h
     obtain ⟨rfl, rfl⟩ := h
     simp only [List.length_take]; omega
    ·cases h
theorem lex_wt {p : Nat} {l : Bs} {ts : List Lexy.Tok} (h : Lexy.Lex p l ts) : wt (ts.map (·.toTk)) ≤ ts.length + l.length := by
 induction h with
 | done p l hd => simp [wt]
 | more p l t n ts hne hn _ ih =>
  have h1 := next_le hn
  have h2 := Lexy.next_len hn
  have h3 := Lexy.skp_le false l
  rw [List.length_drop] at h2
  rw [List.length_drop, List.length_drop] at ih
  simp only [List.map_cons, wt, List.length_cons]
  omega
theorem parse_wg {s : Bs} {n : Node} (h : parse s = .ok n) : wg n ≤ 3001 := by
 unfold parse at h
 cases ht : Lexy.toks s with
 | err e => rw [ht] at h; cases h
 | ok l =>
  rw [ht] at h
  simp only at h
  unfold Lexy.toks at ht
  split at ht
  ·cases ht
  ·rename_i hl
   obtain ⟨h1, h2⟩ := Lexy.lex_of _ _ _ _ ht
   unfold tree at h
   cases hr : top (l.map (·.toTk)).length [] (l.map (·.toTk)) with
   | none => rw [hr] at h; cases h
   | some k =>
    rw [hr] at h
    simp only [Option.map_some] at h
    split at h
    ·cases h
    ·injection h with h
     subst h
     have h3 := top_wg _ _ _ _ hr
     have h4 := lex_wt h1
     simp only [wgs, wg, List.length_nil] at h3 ⊢
     omega
end Pars
namespace Wri
open Pars
def livesIn : Bs := [120, 61, 49, 43, 50, 42, 40, 51, 45, 121, 41, 59]
def livesOut : Bs := [120, 32, 61, 32, 49, 32, 43, 32, 50, 32, 42, 32, 40, 51, 32, 45, 32, 121, 41, 59]
def livesOk : Bool := match parse livesIn with
 | .ok n => (match write n with | .ok s => decide (s = livesOut) | _ => false) && decide (Pars.deep n = 7)
 | _ => false
theorem lives_ok : livesOk = true := by decide +kernel
theorem lives_is : ∃ n, parse livesIn = .ok n ∧ write n = .ok livesOut ∧ Pars.deep n = 7 := by
 have h := lives_ok
 unfold livesOk at h
 cases hp : parse livesIn with
 | error e => rw [hp] at h; cases h
 | ok n =>
  rw [hp] at h
  simp only [Bool.and_eq_true, decide_eq_true_eq] at h
  refine ⟨n, rfl, ?_, h.2⟩
  have h1 := h.1
  cases hw : write n with
  | error e => rw [hw] at h1; cases h1
  | ok s => rw [hw] at h1; simp only [decide_eq_true_eq] at h1; rw [h1]
end Wri
namespace Go.Proofs.YtonjdlialejedaaGreatDoor
open Go.Lib (hid)
open Go.RowKit
theorem all_hit {α : Type} {p : α → Bool} {l : List α} {k : Nat} {x : α} (h : l[k]? = some x) (hp : p x = false) : l.all p = false := by
 rw [List.all_eq_false]
 exact ⟨x, List.mem_of_getElem? h, by rw [hp]; simp⟩
theorem all_yes {α : Type} {p : α → Bool} {l : List α} (h : ∀ (j : Nat) (y : α), l[j]? = some y → p y = true) : l.all p = true := by
 rw [List.all_eq_true]
 intro x hx
 obtain ⟨j, hj⟩ := List.getElem?_of_mem hx
 exact h j x hj
def errs (l : List Int) : Array Value := (l.map (Value.int .i64)).toArray
set_option maxHeartbeats 2000000 in
theorem ok_any (l : List Int) (b : Nat) (w : World) (hb : Box w b 25 (errs l)) (hl : l.length ≤ 100) :
  Calls Tryz.prog 12 #[.slice (some ⟨b, 0, none⟩) l.length l.length] w fun e w' => e = .returned (.bool (l.all fun n => decide (n = 0))) ∧ w' = w := by
 have HB := hid hb
 obtain ⟨n, hn⟩ : ∃ n, l.length = n := ⟨_, rfl⟩
 have HN := hid hn
 rw [hn] at hl ⊢
 clear hb hn
 go_enter Tryz.func12, Tryz.ntmps12
 go_upto_region 2 with fail
 go_loopg [4, 7] n (fun gg _ s7 wr => ∃ j : Nat, j ≤ n ∧ n - j ≤ gg ∧ s7 = .int .i64 (j : Int) ∧ wr = w ∧ Hid (∀ (i : Nat) (x : Int), i < j → l[i]? = some x → x = 0))
 case atStart => exact ⟨0, Nat.zero_le _, by omega, rfl, rfl, fun i x hi => absurd hi (Nat.not_lt_zero _)⟩
 case round =>
  obtain ⟨j, hj, hgg, rfl, rfl, AA⟩ := hrel
  by_cases hlt : j < n
  ·have hlt2 : decide ((j : Int) < (n : Int)) = true := decide_eq_true (by omega)
   have hltz : (j : Int) < (n : Int) := by omega
   obtain ⟨x, hx⟩ : ∃ x, l[j]? = some x := ⟨_, List.getElem?_eq_getElem (by rw [HN.out]; exact hlt)⟩
   have cx : wr.cell? ⟨b, j, none⟩ = some (.int .i64 x) := by
    rw [HB.out.cell j]
    simp [errs, hx]
   have HX := hid hx
   clear hx
   by_cases y : x = 0
   ·subst y
    go_wp2
    go_roundg (n - (j + 1))
    case measure => omega
    case rel =>
     refine ⟨j + 1, by omega, by omega, by go_num, rfl, (show Hid _ from fun i x hi hx => ?_)⟩
     by_cases e : i = j
     ·subst e
      have := HX.out
      rw [hx] at this
      injection this
     ·exact AA.out i x (by omega) hx
   ·have e1 : (x != 0) = true := by simp [y]
    have Y := hid y
    clear y
    go_wp2
    go_ret
    exact ⟨ret_bool (all_hit HX.out (decide_eq_false Y.out)).symm, rfl⟩
  ·have hlt2 : decide ((j : Int) < (n : Int)) = false := decide_eq_false (by omega)
   go_wp2
   go_ret
   exact ⟨ret_bool (all_yes (fun i x hi => decide_eq_true (AA.out i x (by have := (List.getElem?_eq_some_iff.1 hi).1; have := HN.out; omega) hi))).symm, rfl⟩
def TruthOut (w : World) (e : Ending) (w' : World) : Prop := e = .returned (.bool true) ∧ Below w.heap.size w w'
theorem ok2_any (a b : Int) (w1 : World) : Calls Tryz.prog 12 #[.slice (some ⟨w1.heap.size, 0, none⟩) 2 2] (w1.alloc (.cells #[.int .i64 a, .int .i64 b] 25)) fun e w' => e = .returned (.bool (decide (a = 0) && decide (b = 0))) ∧ Below w1.heap.size w1 w' :=
 (ok_any [a, b] w1.heap.size _ (Box.new w1 _ _) (by simp)).mono fun e w' ⟨h1, h2⟩ => ⟨by rw [h1]; simp, by rw [h2]; exact below1 w1 _⟩
set_option maxRecDepth 100000 in
set_option maxHeartbeats 4000000 in
theorem lives_true (w : World) (he : EnvW w) : Calls Tryz.prog 10 #[] w (TruthOut w) := by
 have HE := hid he
 have HP : Hid (Calls Tryz.prog 9 #[.string ⟨#[120, 61, 49, 43, 50, 42, 40, 51, 45, 121, 41, 59]⟩] w (ParseOut Wri.livesIn w)) := hid (parse_any Wri.livesIn w he.sp (by have := he.big; omega) (by decide))
 have hbig := he.big
 obtain ⟨n, hn1, hn2, hn3⟩ := Wri.lives_is
 have HN1 := hid hn1
 have HN2 := hid hn2
 have HN3 := hid hn3
 have HWG := hid (Pars.parse_wg hn1)
 have HSZ := hid (Nat.le_trans (size_wg n) (Pars.parse_wg hn1))
 clear he hn1 hn2 hn3
 go_enter Tryz.func10, Tryz.ntmps10
 go_wp2_with fail
 refine HP.out.mono ?_
 rintro e w1 (⟨n', cs, hp, rfl, hn, hw1⟩ | ⟨k, hp, _, rfl, hw1⟩)
 rotate_left
 ·exfalso; rw [HN1.out] at hp; cases hp
 rw [HN1.out] at hp
 injection hp with hp
 subst hp
 have HU := hid hw1
 have HN := hid hn
 have hinf : (Tryz.prog.info? 24).map (·.size) = some cs.size := by rw [NodeAt.size hn]; exact info_nod
 have HINF := hid hinf
 have H4 : Hid ((4 : Nat) = cs.size) := hid (NodeAt.size hn).symm
 have HONE := hid (NodeAt.one hn)
 clear hw1 hn hinf
 go_upto_region 2 with (refine wpList_store_box rfl 24 (.tmp 1) (.tmp 7) rfl w1.heap.size cs rfl rfl 24 _ (Box.new w1 _ _) HINF.out H4.out HONE.out ?_; intro w2 hx2 hu2 hz2; have HZ2 := hid hz2; clear hz2)
 have hb : Below w1.heap.size w1 w2 := (below1 w1 _).trans (hu2.own (Nat.le_refl _) (by simp))
 have EB := hid hx2
 replace HN := hid (HN.out.below hb)
 replace HU := hid (HU.out.trans (hb.mono HU.out.size))
 clear hx2 hu2 hb
 have eb := EB.out
 go_wp2_with (refine wpList_load_row rfl 24 (.tmp 1) rfl w1.heap.size rfl _ cs (0, 0) _ eb Tryz.underlying24 rfl HINF.out ?_)
 refine (write_any (by have := HWG.out; omega) HN.out (HE.out.below HU.out hbig)).mono ?_
 rintro e w3 (⟨s, hs, rfl, hb⟩ | ⟨k, hs, _, rfl, hb⟩)
 rotate_left
 ·exfalso; rw [HN2.out] at hs; cases hs
 rw [HN2.out] at hs
 injection hs with hs
 subst hs
 have hel := EB.out.lt
 replace EB := hid (EB.out.below hb hel)
 replace HN := hid (HN.out.below hb)
 replace HU := hid (HU.out.trans (hb.mono HU.out.size))
 clear hb eb hel
 have hso : byt Wri.livesOut = ⟨#[120, 32, 61, 32, 49, 32, 43, 32, 50, 32, 42, 32, 40, 51, 32, 45, 32, 121, 41, 59]⟩ := rfl
 rw [hso]
 clear hso
 go_wp2_with fail
 refine (ok2_any 0 0 w3).mono ?_
 rintro e w4 ⟨rfl, hb⟩
 have hel := EB.out.lt
 replace EB := hid (EB.out.below hb hel)
 replace HN := hid (HN.out.below hb)
 replace HU := hid (HU.out.trans (hb.mono HU.out.size))
 clear hb hel
 have eb := EB.out
 go_wp2_with (refine wpList_load_row_g (by kernel_rfl) 24 (.tmp 1) rfl w1.heap.size rfl _ cs _ eb Tryz.underlying24 rfl HINF.out ?_)
 refine (deep_any HN.out (by have := HSZ.out; omega)).mono ?_
 rw [HN3.out]
 rintro e w5 ⟨rfl, hb⟩
 replace HU := hid (HU.out.trans (hb.mono HU.out.size))
 clear hb eb
 go_wp2
 go_ret
 exact ⟨rfl, HU.out⟩
end Go.Proofs.YtonjdlialejedaaGreatDoor
