/-
  Texts that the law leans on: PwN, PlB. Conditions: as each says.
-/
import Derived.Test.YtonjdlialejedaaGreatDoorXAs
import Derived.Test.YtonjdlialejedaaGreatDoorXBc
import Derived.Test.YtonjdlialejedaaGreatDoorXAa
import Derived.Deep.CutRange
import Derived.Deep.Cut
import Derived.Test.YtonjdlialejedaaGreatDoorXAc
set_option linter.unusedSimpArgs false
set_option linter.unusedVariables false
namespace Go.Proofs.YtonjdlialejedaaGreatDoor
open Go.Lib (hid)
open Go.RowKit
theorem heads_len {k nu : Int} {t : List UInt8} {l : List Pars.Node} (h : Ri (.mk k nu t l)) (hk : Wri.heads k = true) : 1 ≤ l.length := by
 have h1 := ri_len h
 have hk2 : k = 19 ∨ k = 18 ∨ k = 17 ∨ k = 16 ∨ k = 15 ∨ k = 11 ∨ k = 12 ∨ k = 13 := by simpa [Wri.heads] using hk
 by_cases h18 : k = 18
 ·have := h1.2.1 h18; omega
 by_cases h11 : k = 11
 ·exact h1.2.2.2.1 h11
 by_cases h13 : k = 13
 ·have := h1.2.2.1 (by omega); omega
 have := h1.1 (by omega); omega
set_option maxRecDepth 100000 in
set_option maxHeartbeats 40000000 in
theorem front_any {n : Pars.Node} {cs : Array Value} {w : World} {S : Nat → Prop} (hr : Ri n) (hn : NodeAt w S n cs) : Calls Tryz.prog 37 #[.agg cs] w fun e w' => e = .returned (.int .i64 (Wri.front n)) ∧ Below w.heap.size w w' := by
 have hinf : (Tryz.prog.info? 24).map (·.size) = some cs.size := by rw [NodeAt.size hn]; exact info_nod
 have HN := hid (NodeAt.keep (S1 := fun g => g < w.heap.size) (w1 := w) (fun g _ h => h) (Nat.le_refl _) (fun _ _ _ => rfl) hn)
 clear hn hinf
 go_enter Tryz.func37, Tryz.ntmps37
 go_wp2_with fail
 refine gen_world (F := fun W => Box W w.heap.size 24 cs ∧ Below w.heap.size w W) ⟨Box.new w _ _, below1 w _⟩ ?_
 rintro W0 ⟨b0, hU⟩
 have NB := hid b0
 have HU := hid hU
 clear b0 hU
 go_loopg [5] (Wri.wg n) (fun gg s5 wr => ∃ (y : Pars.Node) (cy : Array Value), Wri.wg y ≤ gg ∧ Ri y ∧ Hid (Box wr w.heap.size 24 cy) ∧ Hid (NodeAt w (fun g => g < w.heap.size) y cy) ∧ Hid (Below w.heap.size w wr) ∧ Hid (Wri.front n = Wri.front y))
 case atStart => exact ⟨n, cs, Nat.le_refl _, hr, NB, HN, HU, hid rfl⟩
 case round =>
  clear NB HN HU hr
  obtain ⟨y, cy, hg, hri, NB, HN, HU, HFR⟩ := hrel
  obtain ⟨k, nu, t, l⟩ := y
  have hn := HN.out
  unfold NodeAt at hn
  obtain ⟨A, cap, css, rfl, hc1, hc2, hrow, hk⟩ := hn
  have HROW := hid hrow
  have HK := hid hk
  clear hrow hk
  have c0 := NB.out.cell 0
  have c3 := NB.out.cell 3
  simp [nc] at c0 c3
  go_upto_region 1 with fail
  go_cut [41] from 4 to 51 (fun s41 wx => s41 = .bool (Wri.heads k) ∧ wr = wx)
  case first =>
   by_cases y19 : k = 19
   ·subst y19
    go_wp2
    go_meet
    exact ⟨by simp [Wri.heads], rfl⟩
   have n19 : (k == 19) = false := bn y19
   by_cases y18 : k = 18
   ·subst y18
    go_wp2
    go_meet
    exact ⟨by simp [Wri.heads], rfl⟩
   have n18 : (k == 18) = false := bn y18
   by_cases y17 : k = 17
   ·subst y17
    go_wp2
    go_meet
    exact ⟨by simp [Wri.heads], rfl⟩
   have n17 : (k == 17) = false := bn y17
   by_cases y16 : k = 16
   ·subst y16
    go_wp2
    go_meet
    exact ⟨by simp [Wri.heads], rfl⟩
   have n16 : (k == 16) = false := bn y16
   by_cases y15 : k = 15
   ·subst y15
    go_wp2
    go_meet
    exact ⟨by simp [Wri.heads], rfl⟩
   have n15 : (k == 15) = false := bn y15
   by_cases y11 : k = 11
   ·subst y11
    go_wp2
    go_meet
    exact ⟨by simp [Wri.heads], rfl⟩
   have n11 : (k == 11) = false := bn y11
   by_cases y12 : k = 12
   ·subst y12
    go_wp2
    go_meet
    exact ⟨by simp [Wri.heads], rfl⟩
   have n12 : (k == 12) = false := bn y12
   by_cases y13 : k = 13
   ·subst y13
    go_wp2
    go_meet
    exact ⟨by simp [Wri.heads], rfl⟩
   have n13 : (k == 13) = false := bn y13
   have HV : Hid (Wri.heads k = false) := hid (by simp [Wri.heads, y19, y18, y17, y16, y15, y11, y12, y13])
   go_wp2
   go_meet
   exact ⟨by rw [HV.out], rfl⟩
  case rest =>
  obtain ⟨rfl, rfl⟩ := hcut
  obtain ⟨hb, hhb⟩ : ∃ b, Wri.heads k = b := ⟨_, rfl⟩
  rw [hhb]
  have HHK := hid hhb
  clear hhb
  cases hb with
  | false =>
   have HV : Hid (Wri.front n = k) := hid (by rw [HFR.out]; show (if Wri.heads k then _ else k) = _; rw [HHK.out]; rfl)
   go_wp2
   go_ret
   exact ⟨congrArg (fun z : Int => Ending.returned (.int .i64 z)) (a₁ := k) HV.out.symm, HU.out⟩
  | true =>
   have hln : 1 ≤ l.length := heads_len hri HHK.out
   obtain ⟨x, hx⟩ : ∃ x, l[0]? = some x := ⟨_, List.getElem?_eq_getElem hln⟩
   obtain ⟨xc, g0, o0, rfl, hg0, hx4, hnx, hrx⟩ := kid_at HK.out HROW.out hx
   have hrix := ri_kid hri x (List.mem_of_getElem? hx)
   have hwx := Wri.wg_mem (List.mem_of_getElem? hx)
   have HR0 := hid (hrx wr HU.out)
   have HF : Hid (Wri.front (.mk k nu t l) = if Wri.rank x < Wri.least (.mk k nu t l) then 0 else Wri.front x) := hid (by cases l with | nil => simp at hx | cons y l => simp at hx; subst hx; show (if Wri.heads k then _ else k) = _; rw [HHK.out]; rfl)
   have HRK : Hid (∀ W, Calls Tryz.prog 70 #[.agg xc] W fun e w' => e = .returned (.int .i64 (Wri.rank x)) ∧ Below W.heap.size W w') := hid (fun W => by
    obtain ⟨xk, xn, xt, xl⟩ := x
    unfold NodeAt at hnx
    obtain ⟨A', cap', css', rfl, _⟩ := hnx
    exact rank_any xk xn xt xl A' xl.length cap' W)
   have HLE := hid (fun W => least_any k nu t l (some ⟨g0, o0, none⟩) l.length cap W)
   obtain ⟨rx, hrxe⟩ : ∃ q, Wri.rank x = q := ⟨_, rfl⟩
   obtain ⟨ly, hly⟩ : ∃ q, Wri.least (.mk k nu t l) = q := ⟨_, rfl⟩
   rw [hrxe] at HRK HF
   rw [hly] at HLE HF
   have hinf : (Tryz.prog.info? 24).map (·.size) = some xc.toList.length := by rw [Array.length_toList, hx4]; exact info_nod
   have HXI := hid hinf
   have hinf2 : (Tryz.prog.info? 24).map (·.size) = some xc.size := by rw [hx4]; exact info_nod
   have HXI2 := hid hinf2
   have H4 : Hid ((4 : Nat) = xc.size) := hid hx4.symm
   have HONE := hid (NodeAt.one hnx)
   have HNX := hid hnx
   have HWX : Hid (Wri.wg x < Wri.wg (.mk k nu t l)) := hid (by simp only [Wri.wg]; omega)
   have HRI := hid hrix
   rw [Nat.zero_mul, Nat.add_zero] at HR0
   clear hx hrx hnx hinf hinf2 hrxe hly hrix hx4 hwx
   obtain ⟨cy, hcy⟩ : ∃ q, nc k nu t (.slice (some ⟨g0, o0, none⟩) l.length cap) = q := ⟨_, rfl⟩
   have HCI : Hid ((Tryz.prog.info? 24).map (·.size) = some cy.size) := hid (by rw [← hcy]; exact info_nod)
   have HCS : Hid (cy.size = xc.size) := hid (by rw [← hcy, ← H4.out]; rfl)
   rw [hcy] at HLE NB
   clear hcy
   have hz0 := HU.out.size
   have hnbl := NB.out.lt
   go_upto_region 3 with (first | (refine wpList_load_mid rfl 24 (.tmp 44) rfl g0 o0 rfl xc.toList _ HR0.out Tryz.underlying24 rfl HXI.out ?_) | (refine wpList_store_box rfl 24 (.tmp 3) (.tmp 45) rfl wr.heap.size xc rfl (by simp [Act.eval, Act.put]) 24 _ (Box.new wr _ _) HXI2.out H4.out HONE.out ?_; intro w2 hx2 hu2 hz2; have HZ2 := hid hz2; clear hz2))
   have hb2 : Below wr.heap.size wr w2 := ((Below.refl _ wr).alloc (Nat.le_refl _) _).trans (hu2.own (Nat.le_refl _) (by simp))
   have EB := hid hx2
   replace NB := bl NB hb2
   replace HU := hid (HU.out.trans (hb2.mono hz0))
   clear hx2 hu2 hb2 hz0 c0 c3 HR0
   obtain ⟨eb, heb⟩ : ∃ q, wr.heap.size = q := ⟨_, rfl⟩
   have hnbe : w.heap.size ≠ eb := by omega
   rw [heb] at EB ⊢
   clear heb
   refine wp_region_held_drew (S := fun w' => Box w' eb 24 xc ∧ Box w' w.heap.size 24 cy) (by kernel_rfl) ⟨EB.out.drew, NB.out.drew⟩ (fun hHeld => ?_)
   obtain ⟨wd, hwd⟩ : ∃ wd, w2.drew = wd := ⟨_, rfl⟩
   have hb : Below w2.heap.size w2 wd := hwd ▸ (Below.refl _ w2).drew
   (try rw [hwd] at hHeld)
   (try rw [hwd])
   clear hwd hHeld
   have hz0 := HU.out.size
   replace EB := bl EB hb
   replace NB := bl NB hb
   replace HU := hid (HU.out.trans (hb.mono hz0))
   clear hb hz0
   refine wpAnyH_take (i := 0) (v := .agg xc) rfl (by kernel_rfl) (by kernel_rfl) (by kernel_rfl) (fun _ _ _ h => h) (yields_load_box (by kernel_rfl) 24 (.tmp 3) rfl eb 24 xc _ rfl (fun _ h => h.1) Tryz.underlying24 rfl HXI2.out) ⟨EB.out, NB.out⟩ ?_
   (try simp only [Act.put, sq])
   refine wpAnyH_take (i := 2) (v := .agg cy) rfl (by kernel_rfl) (by kernel_rfl) (by kernel_rfl) (fun _ _ _ h => h) (yields_load_box (by kernel_rfl) 24 (.tmp 1) rfl w.heap.size 24 cy _ rfl (fun _ h => h.2) Tryz.underlying24 rfl HCI.out) ⟨EB.out, NB.out⟩ ?_
   (try simp only [Act.put, sq])
   refine rdH 1 rfl fun K hK => ?_
   go_simp
   refine (HRK.out _).mono ?_
   rintro e wa ⟨rfl, hb⟩
   have hz0 := HU.out.size
   replace EB := bl EB hb
   replace NB := bl NB hb
   replace HU := hid (HU.out.trans (hb.mono hz0))
   clear hb hz0
   go_wp2_with fail
   refine hK.out _ _ ⟨EB.out, NB.out⟩ (fun hHeld => ?_)
   clear hK hHeld K
   (try simp only [Act.put, sq])
   refine rdH 3 rfl fun K hK => ?_
   go_simp
   refine (HLE.out _).mono ?_
   rintro e wb ⟨rfl, hb⟩
   have hz0 := HU.out.size
   replace EB := bl EB hb
   replace NB := bl NB hb
   replace HU := hid (HU.out.trans (hb.mono hz0))
   clear hb hz0
   go_wp2_with fail
   refine hK.out _ _ ⟨EB.out, NB.out⟩ (fun hHeld => ?_)
   clear hK hHeld K
   (try simp only [Act.put, sq])
   refine rdH 4 rfl fun K hK => ?_
   go_simp
   refine hK.out _ _ ⟨EB.out, NB.out⟩ (fun hHeld => ?_)
   clear hK hHeld K
   (try simp only [Act.put, sq])
   refine wpAnyH_done (by kernel_rfl) ?_ _
   by_cases yy : rx < ly
   ·have dd : decide (rx < ly) = true := decide_eq_true yy
    have HV : Hid (Wri.front n = 0) := hid (by rw [HFR.out, HF.out, if_pos yy])
    go_wp2
    go_ret
    exact ⟨congrArg (fun z : Int => Ending.returned (.int .i64 z)) (a₁ := 0) HV.out.symm, HU.out⟩
   have dd : decide (rx < ly) = false := decide_eq_false yy
   have HV : Hid (Wri.front n = Wri.front x) := hid (by rw [HFR.out, HF.out, if_neg yy])
   have eb2 := EB.out
   have nb2 := NB.out
   go_wp2_with (first | (refine wpList_load_row rfl 24 (.tmp 3) rfl eb rfl _ xc (0, 0) _ eb2 Tryz.underlying24 rfl HXI2.out ?_) | (refine wpList_store_box rfl 24 (.tmp 1) (.tmp 51) rfl w.heap.size xc rfl rfl 24 _ nb2 HXI2.out HCS.out HONE.out ?_; intro w9 hx9 hu9 hz9; have HZ9 := hid hz9; clear hz9))
   have hz0 := HU.out.size
   replace HU := hid (HU.out.trans (hu9.own (Nat.le_refl _) hz0))
   go_roundg (Wri.wg x)
   case measure => have := HWX.out; omega
   case rel => exact ⟨x, xc, Nat.le_refl _, HRI.out, hid hx9, HNX, HU, HV⟩
end Go.Proofs.YtonjdlialejedaaGreatDoor
namespace Wri
open Go (ln bn)
open Pars (Node Bs)
mutual
theorem ind {P : Node → Prop} (h : ∀ k nu t l, (∀ x ∈ l, P x) → P (.mk k nu t l)) : ∀ n : Node, P n
 | .mk k nu t l => h k nu t l (inds h l)
theorem inds {P : Node → Prop} (h : ∀ k nu t l, (∀ x ∈ l, P x) → P (.mk k nu t l)) : ∀ l : List Node, ∀ x ∈ l, P x
 | [] => fun x hx => by cases hx
 | n :: l => fun x hx => by
  rcases List.mem_cons.1 hx with hx | hx
  ·rw [hx]; exact ind h n
  ·exact inds h l x hx
end
def isE (n : Node) : Prop := 1 ≤ n.kind ∧ n.kind ≤ 19 ∧ n.kind ≠ 8 ∧ n.kind ≠ 10 ∧ (n.kind ≠ 9 ∨ n.text = [])
def isT (n : Node) : Prop := n.kind = 5 ∨ n.kind = 12 ∨ n.kind = 13
def binS : List Bs := [[61, 61], [33, 61], [60], [60, 61], [62], [62, 61], [43], [45], [42], [47], [37]]
inductive Rt : Bool → Bool → Node → Prop where
 | num (fn lp : Bool) (nu : Int) : 0 ≤ nu → nu ≤ 9007199254740992 → Rt fn lp (.mk 1 nu [] [])
 | str (fn lp : Bool) (t : Bs) : Rt fn lp (.mk 2 0 t [])
 | bool (fn lp : Bool) (nu : Int) : nu = 0 ∨ nu = 1 → Rt fn lp (.mk 3 nu [] [])
 | null (fn lp : Bool) : Rt fn lp (.mk 4 0 [] [])
 | var (fn lp : Bool) (t : Bs) : name t = true → Rt fn lp (.mk 5 0 t [])
 | list (fn lp : Bool) (l : List Node) : (∀ x ∈ l, isE x) → (∀ x ∈ l, Rt fn lp x) → Rt fn lp (.mk 6 0 [] l)
 | recd (fn lp : Bool) (l : List Node) : (∀ x ∈ l, x.kind = 8) → (∀ x ∈ l, Rt fn lp x) → Rt fn lp (.mk 7 0 [] l)
 | pair (fn lp : Bool) (t : Bs) (a : Node) : name t = true → isE a → Rt fn lp a → Rt fn lp (.mk 8 0 t [a])
 | func (fn lp : Bool) (t : Bs) (ps : List Bs) (b : Node) : (t = [] ∨ name t = true) → (∀ x ∈ ps, name x = true) → b.kind = 30 → Rt true false b → Rt fn lp (.mk 9 0 t (ps.map (fun p => .mk 10 0 p []) ++ [b]))
 | param (fn lp : Bool) (t : Bs) : name t = true → Rt fn lp (.mk 10 0 t [])
 | call (fn lp : Bool) (a : Node) (l : List Node) : isE a → Rt fn lp a → (∀ x ∈ l, isE x) → (∀ x ∈ l, Rt fn lp x) → Rt fn lp (.mk 11 0 [] (a :: l))
 | index (fn lp : Bool) (a b : Node) : isE a → Rt fn lp a → isE b → Rt fn lp b → Rt fn lp (.mk 12 0 [] [a, b])
 | dot (fn lp : Bool) (t : Bs) (a : Node) : name t = true → isE a → Rt fn lp a → Rt fn lp (.mk 13 0 t [a])
 | unary (fn lp : Bool) (t : Bs) (a : Node) : t = [33] ∨ t = [45] → isE a → Rt fn lp a → Rt fn lp (.mk 14 0 t [a])
 | binary (fn lp : Bool) (t : Bs) (a b : Node) : t ∈ binS → isE a → Rt fn lp a → isE b → Rt fn lp b → Rt fn lp (.mk 15 0 t [a, b])
 | and_ (fn lp : Bool) (a b : Node) : isE a → Rt fn lp a → isE b → Rt fn lp b → Rt fn lp (.mk 16 0 [] [a, b])
 | or_ (fn lp : Bool) (a b : Node) : isE a → Rt fn lp a → isE b → Rt fn lp b → Rt fn lp (.mk 17 0 [] [a, b])
 | cond (fn lp : Bool) (a b c : Node) : isE a → Rt fn lp a → isE b → Rt fn lp b → isE c → Rt fn lp c → Rt fn lp (.mk 18 0 [] [a, b, c])
 | assign (fn lp : Bool) (a b : Node) : isT a → Rt fn lp a → isE b → Rt fn lp b → Rt fn lp (.mk 19 0 [] [a, b])
 | let_ (fn lp : Bool) (t : Bs) (a : Node) : name t = true → isE a → Rt fn lp a → Rt fn lp (.mk 20 0 t [a])
 | def_ (fn lp : Bool) (f : Node) : f.kind = 9 → f.text ≠ [] → Rt fn lp f → Rt fn lp (.mk 21 0 [] [f])
 | if2 (fn lp : Bool) (c b : Node) : isE c → Rt fn lp c → b.kind = 30 → Rt fn lp b → Rt fn lp (.mk 22 0 [] [c, b])
 | if3 (fn lp : Bool) (c b e : Node) : isE c → Rt fn lp c → b.kind = 30 → Rt fn lp b → (e.kind = 30 ∨ e.kind = 22) → Rt fn lp e → Rt fn lp (.mk 22 0 [] [c, b, e])
 | while_ (fn lp : Bool) (c b : Node) : isE c → Rt fn lp c → b.kind = 30 → Rt fn true b → Rt fn lp (.mk 23 0 [] [c, b])
 | for_ (fn lp : Bool) (t : Bs) (c b : Node) : name t = true → isE c → Rt fn lp c → b.kind = 30 → Rt fn true b → Rt fn lp (.mk 24 0 t [c, b])
 | ret0 (lp : Bool) : Rt true lp (.mk 25 0 [] [])
 | ret1 (lp : Bool) (a : Node) : isE a → Rt true lp a → Rt true lp (.mk 25 0 [] [a])
 | brk (fn : Bool) : Rt fn true (.mk 26 0 [] [])
 | cont (fn : Bool) : Rt fn true (.mk 27 0 [] [])
 | throw (fn lp : Bool) (a : Node) : isE a → Rt fn lp a → Rt fn lp (.mk 28 0 [] [a])
 | try1 (fn lp : Bool) (t : Bs) (b c : Node) : name t = true → b.kind = 30 → Rt fn lp b → c.kind = 30 → Rt fn lp c → Rt fn lp (.mk 29 1 t [b, c])
 | try2 (fn lp : Bool) (b d : Node) : b.kind = 30 → Rt fn lp b → d.kind = 30 → Rt fn lp d → Rt fn lp (.mk 29 2 [] [b, d])
 | try3 (fn lp : Bool) (t : Bs) (b c d : Node) : name t = true → b.kind = 30 → Rt fn lp b → c.kind = 30 → Rt fn lp c → d.kind = 30 → Rt fn lp d → Rt fn lp (.mk 29 3 t [b, c, d])
 | block (fn lp : Bool) (l : List Node) : (∀ x ∈ l, 20 ≤ x.kind ∧ x.kind ≤ 31) → (∀ x ∈ l, Rt fn lp x) → Rt fn lp (.mk 30 0 [] l)
 | expr (fn lp : Bool) (a : Node) : isE a → Rt fn lp a → Rt fn lp (.mk 31 0 [] [a])
theorem right_eq (k nu : Int) (t : Bs) (l : List Node) (fn lp : Bool) : right (.mk k nu t l) fn lp = ((form k nu l.length).2 && (fields k nu t && (!(decide (k = 25) && !fn) && (!(decide (k = 26 ∨ k = 27) && !lp) && (count (form k nu l.length).1 l.length && rights (bare (form k nu l.length).1) k fn lp 0 l))))) := by rw [right]
theorem rights_nil (g : Bs) (k : Int) (fn lp : Bool) (i : Nat) : rights g k fn lp i [] = true := by rw [rights]
theorem rights_cons (g : Bs) (k : Int) (fn lp : Bool) (i : Nat) (x : Node) (l : List Node) : rights g k fn lp i (x :: l) = (sort x (g.getD (min i (g.length - 1)) 0) && (right x (fn || decide (g.getD (min i (g.length - 1)) 0 = 103)) (decide (g.getD (min i (g.length - 1)) 0 = 108) || (lp && (!decide (g.getD (min i (g.length - 1)) 0 = 103) && !decide (k = 9)))) && rights g k fn lp (i + 1) l)) := by rw [rights]
theorem sort_e (n : Node) : sort n 101 = true ↔ isE n := by unfold sort isE; simp
theorem sort_t (n : Node) : sort n 116 = true ↔ isT n := by unfold sort isT; simp
theorem sort_b (n : Node) : sort n 98 = true ↔ n.kind = 30 := by unfold sort; simp
theorem sort_l (n : Node) : sort n 108 = true ↔ n.kind = 30 := by unfold sort; simp
theorem sort_g (n : Node) : sort n 103 = true ↔ n.kind = 30 := by unfold sort; simp
theorem sort_p (n : Node) : sort n 112 = true ↔ n.kind = 8 := by unfold sort; simp
theorem sort_d (n : Node) : sort n 100 = true ↔ (n.kind = 9 ∧ n.text ≠ []) := by unfold sort; simp
theorem sort_i (n : Node) : sort n 105 = true ↔ (n.kind = 30 ∨ n.kind = 22) := by unfold sort; simp
theorem sort_q (n : Node) : sort n 113 = true ↔ n.kind = 10 := by unfold sort; simp
theorem sort_s (n : Node) : sort n 115 = true ↔ (20 ≤ n.kind ∧ n.kind ≤ 31) := by unfold sort; simp
theorem rights_all (c : UInt8) (hc : c ≠ 103 ∧ c ≠ 108) (k : Int) (hk : k ≠ 9) (fn lp : Bool) : ∀ (l : List Node) (i : Nat), rights [c] k fn lp i l = true ↔ ∀ x ∈ l, sort x c = true ∧ right x fn lp = true
 | [], i => by rw [rights_nil]; simp
 | y :: l, i => by
  have e : ([c] : Bs).getD (min i (([c] : Bs).length - 1)) 0 = c := by simp
  rw [rights_cons, e, Bool.and_eq_true, Bool.and_eq_true, rights_all c hc k hk fn lp l (i + 1)]
  simp [hc.1, hc.2, hk]
  constructor
  ·rintro ⟨a, b, c⟩; exact ⟨⟨a, b⟩, c⟩
  ·rintro ⟨⟨a, b⟩, c⟩; exact ⟨a, b, c⟩
theorem rights_tail (d c : UInt8) (hc : c ≠ 103 ∧ c ≠ 108) (k : Int) (hk : k ≠ 9) (fn lp : Bool) : ∀ (l : List Node) (i : Nat), 1 ≤ i → (rights [d, c] k fn lp i l = true ↔ ∀ x ∈ l, sort x c = true ∧ right x fn lp = true)
 | [], i, _ => by rw [rights_nil]; simp
 | y :: l, i, hi => by
  have e : ([d, c] : Bs).getD (min i (([d, c] : Bs).length - 1)) 0 = c := by
   have : min i (([d, c] : Bs).length - 1) = 1 := by simp only [List.length_cons, List.length_nil]; omega
   rw [this]; rfl
  rw [rights_cons, e, Bool.and_eq_true, Bool.and_eq_true, rights_tail d c hc k hk fn lp l (i + 1) (by omega)]
  simp [hc.1, hc.2, hk]
  constructor
  ·rintro ⟨a, b, c⟩; exact ⟨⟨a, b⟩, c⟩
  ·rintro ⟨⟨a, b⟩, c⟩; exact ⟨a, b, c⟩
theorem rights_fn (m : Nat) (fn lp : Bool) (b : Node) : ∀ (l : List Node) (i : Nat), i + l.length = m → (rights (List.replicate m 113 ++ [103]) 9 fn lp i (l ++ [b]) = true ↔ (∀ x ∈ l, sort x 113 = true ∧ right x fn false = true) ∧ sort b 103 = true ∧ right b true false = true)
 | [], i, hi => by
  have e : (List.replicate m 113 ++ [103] : Bs).getD (min i ((List.replicate m 113 ++ [103] : Bs).length - 1)) 0 = 103 := by
   have h1 : min i ((List.replicate m 113 ++ [103] : Bs).length - 1) = m := by simp at hi ⊢; omega
   rw [h1, List.getD_eq_getElem?_getD, List.getElem?_append_right (by simp)]; simp
  rw [List.nil_append, rights_cons, e, rights_nil]
  simp
 | y :: l, i, hi => by
  have e : (List.replicate m 113 ++ [103] : Bs).getD (min i ((List.replicate m 113 ++ [103] : Bs).length - 1)) 0 = 113 := by
   simp only [List.length_cons] at hi
   have h1 : min i ((List.replicate m 113 ++ [103] : Bs).length - 1) = i := by simp; omega
   rw [h1, List.getD_eq_getElem?_getD, List.getElem?_append_left (by simp; omega), List.getElem?_replicate, if_pos (by omega)]; rfl
  rw [List.cons_append, rights_cons, e, Bool.and_eq_true, Bool.and_eq_true, rights_fn m fn lp b l (i + 1) (by simp only [List.length_cons] at hi; omega)]
  simp
  constructor
  ·rintro ⟨a, b, c, d⟩; exact ⟨⟨⟨a, b⟩, c⟩, d⟩
  ·rintro ⟨⟨⟨a, b⟩, c⟩, d⟩; exact ⟨a, b, c, d⟩
theorem len0 {l : List Node} (h : count [] l.length = true) : l = [] := by
 unfold count at h
 rw [show star [] = false from by decide, show (bare []).length = 0 from by decide] at h
 simpa using h
theorem len1 {f : Bs} {l : List Node} (hs : star f = false) (hb : (bare f).length = 1) (h : count f l.length = true) : ∃ a, l = [a] := by
 unfold count at h
 rw [hs, hb] at h
 simp at h
 exact List.length_eq_one_iff.1 h
theorem len2 {f : Bs} {l : List Node} (hs : star f = false) (hb : (bare f).length = 2) (h : count f l.length = true) : ∃ a b, l = [a, b] := by
 unfold count at h
 rw [hs, hb] at h
 simp at h
 match l, h with
 | [a, b], _ => exact ⟨a, b, rfl⟩
theorem len3 {f : Bs} {l : List Node} (hs : star f = false) (hb : (bare f).length = 3) (h : count f l.length = true) : ∃ a b c, l = [a, b, c] := by
 unfold count at h
 rw [hs, hb] at h
 simp at h
 match l, h with
 | [a, b, c], _ => exact ⟨a, b, c, rfl⟩
theorem kinds {k : Int} {m : Nat} (h : (plain k m).2 = true) : 1 ≤ k ∧ k ≤ 31 := by
 by_cases hk : 1 ≤ k ∧ k ≤ 31
 ·exact hk
 ·exfalso
  have : (plain k m).2 = false := by
   unfold plain
   repeat rw [if_neg (by omega)]
  rw [this] at h
  cases h
theorem bare9 (m : Nat) : bare (List.replicate m 113 ++ [103]) = List.replicate m 113 ++ [103] ∧ star (List.replicate m 113 ++ [103]) = false := by
 have hs : star (List.replicate m 113 ++ [103]) = false := by unfold star; rw [suffix_cat]; decide
 refine ⟨?_, hs⟩
 unfold bare Go.Lib.trimSuffix
 rw [if_neg (by unfold star at hs; rw [hs]; simp)]
theorem one_words (L : Bs) {s : Bs} (h : one s L = true) : s ≠ [] ∧ ∃ i, i ≤ L.length + 2 ∧ s.length ≤ L.length ∧ s = ((([32] ++ L ++ [32]) : Bs).drop (i + 1)).take s.length ∧ ((([32] ++ L ++ [32]) : Bs).drop i).take 1 = [32] ∧ ((([32] ++ L ++ [32]) : Bs).drop (i + 1 + s.length)).take 1 = [32] ∧ (32 : UInt8) ∉ s := by
 unfold one at h
 simp only [Bool.and_eq_true, Bool.not_eq_true', decide_eq_false_iff_not] at h
 obtain ⟨h1, h2, h3⟩ := h
 refine ⟨h2, ?_⟩
 unfold Go.Lib.contains at h1
 rw [decide_eq_true_eq] at h1
 have hroom := Go.Lib.index_room _ _ h1
 rcases Go.Lib.index_spec ([32] ++ L ++ [32]) ([32] ++ s ++ [32]) with ⟨hn, _⟩ | ⟨i, h4, h5, h6, -⟩
 ·omega
 ·rw [h4] at hroom
  simp only [ln] at hroom h5
  unfold Go.Lib.occAt at h6
  rw [List.isPrefixOf_iff_prefix] at h6
  obtain ⟨q, hq⟩ := h6
  refine ⟨i, by omega, by omega, ?_, ?_, ?_, ?_⟩
  ·rw [← List.drop_drop, ← hq]; simp
  ·rw [← hq]; simp
  ·rw [show i + 1 + s.length = i + (1 + s.length) by omega, ← List.drop_drop, ← hq]
   rw [show (1 + s.length) = ([32] ++ s : Bs).length by simp; omega, List.append_assoc ([32] ++ s), List.drop_left' rfl]; rfl
  ·intro hm
   apply h3
   clear h1 h2 h3 h4 h5 hq hroom
   have : Go.Lib.indexByte s 32 ≠ -1 := by
    intro hc
    induction s with
    | nil => cases hm
    | cons b r ih =>
     unfold Go.Lib.indexByte at hc
     split at hc
     ·cases hc
     ·rename_i hb
      rcases List.mem_cons.1 hm with hm | hm
      ·subst hm; simp at hb
      ·split at hc
       ·rename_i hh; exact ih hm (by simpa using hh)
       ·have := Go.Lib.indexByte_ge r 32; omega
   have := Go.Lib.indexByte_ge s 32
   omega
theorem unary_dec : ∀ i : Fin 6, ∀ n : Fin 4, let L : Bs := [32] ++ unaryS ++ [32]; let s := (L.drop (i.val + 1)).take n.val; s.length = n.val → s ≠ [] → (L.drop i.val).take 1 = [32] → (L.drop (i.val + 1 + n.val)).take 1 = [32] → (32 : UInt8) ∉ s → s = [33] ∨ s = [45] := by decide +kernel
theorem binary_dec : ∀ i : Fin 28, ∀ n : Fin 26, let L : Bs := [32] ++ binaryS ++ [32]; let s := (L.drop (i.val + 1)).take n.val; s.length = n.val → s ≠ [] → (L.drop i.val).take 1 = [32] → (L.drop (i.val + 1 + n.val)).take 1 = [32] → (32 : UInt8) ∉ s → s ∈ binS := by decide +kernel
theorem one_unary {s : Bs} : one s unaryS = true ↔ s = [33] ∨ s = [45] := by
 constructor
 ·intro h
  obtain ⟨h0, i, h1, h2, h3, h4, h5, h6⟩ := one_words unaryS h
  have := unary_dec ⟨i, by simp [unaryS] at h1; omega⟩ ⟨s.length, by simp [unaryS] at h2; omega⟩
  simp only at this
  rw [← h3] at this
  exact this rfl h0 h4 h5 h6
 ·rintro (rfl | rfl) <;> decide
theorem one_binary {s : Bs} : one s binaryS = true ↔ s ∈ binS := by
 constructor
 ·intro h
  obtain ⟨h0, i, h1, h2, h3, h4, h5, h6⟩ := one_words binaryS h
  have := binary_dec ⟨i, by simp [binaryS] at h1; omega⟩ ⟨s.length, by simp [binaryS] at h2; omega⟩
  simp only at this
  rw [← h3] at this
  exact this rfl h0 h4 h5 h6
 ·intro h
  have : ∀ s ∈ binS, one s binaryS = true := by decide +kernel
  exact this s h
end Wri
