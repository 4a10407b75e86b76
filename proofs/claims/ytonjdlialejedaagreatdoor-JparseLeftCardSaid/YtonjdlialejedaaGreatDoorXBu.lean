/-
  Texts that the law leans on: PxI. Conditions: as each says.
-/
import Derived.Test.YtonjdlialejedaaGreatDoorXBp
import Derived.Test.YtonjdlialejedaaGreatDoorXAa
import Derived.Test.YtonjdlialejedaaGreatDoorXAm
import Derived.Test.YtonjdlialejedaaGreatDoorXBt
import Derived.Carry
set_option linter.unusedSimpArgs false
set_option linter.unusedVariables false
namespace Go.Proofs.YtonjdlialejedaaGreatDoor
open Go.Lib (hid)
open Go.RowKit Go.Maps Go.ChangeMaps Go.MapKept
theorem signs_any (w : World) (he : EnvW w) : Calls Tryz.prog 15 #[.string ⟨#[43, 32, 45, 32, 42, 32, 47, 32, 37, 32, 60, 32, 61, 61, 32, 38, 38, 32, 124, 124]⟩] w fun e w' => e = .returned (.slice (some ⟨w.heap.size, 0, none⟩) 9 9) ∧ Box w' w.heap.size 9 (Pars.sgns.map fun l => Value.string (byt l)).toArray ∧ Below w.heap.size w w' := by
 have hf : Lib.fields (⟨#[43, 32, 45, 32, 42, 32, 47, 32, 37, 32, 60, 32, 61, 61, 32, 38, 38, 32, 124, 124]⟩ : ByteArray).data.toList = Pars.sgns := by decide +kernel
 refine (Tryz.strings_Fields ⟨#[43, 32, 45, 32, 42, 32, 47, 32, 37, 32, 60, 32, 61, 61, 32, 38, 38, 32, 124, 124]⟩ w (by decide) (fun j b h => ?_) he.sp).mono ?_
 ·have : ∀ b ∈ (⟨#[43, 32, 45, 32, 42, 32, 47, 32, 37, 32, 60, 32, 61, 61, 32, 38, 38, 32, 124, 124]⟩ : ByteArray).data.toList, b.toNat < 128 := by decide
  exact this b (List.mem_of_getElem? h)
 ·rintro e w' ⟨rfl, rfl⟩
  rw [hf]
  exact ⟨rfl, Box.new w _ _, below1 w _⟩
def intR (v : Value) : Option (DataW Unit × List MemPlace) := match v with
 | .int .i64 z => some (.lit (.int .i64 z), [])
 | _ => none
theorem intR_inv (v : Value) (x : Int) (ps : List MemPlace) (h : intR v = some (.lit (.int .i64 x), ps)) : v = .int .i64 x := by
 unfold intR at h
 split at h
 ·simp only [Option.some.injEq, Prod.mk.injEq, DataW.lit.injEq, Lit.int.injEq] at h
  obtain ⟨⟨_, rfl⟩, _⟩ := h
  rfl
 ·cases h
def intRdr : Rdr Int := ⟨fun z => .int .i64 z, intR, fun z => .lit (.int .i64 z), fun z => rfl, intR_inv⟩
def rkF : List UInt8 → Option Int := putF (putF (putF (putF (putF (putF (putF (putF (putF (fun _ => none) [43] (some 4)) [45] (some 4)) [42] (some 5)) [47] (some 5)) [37] (some 5)) [60] (some 3)) [61, 61] (some 2)) [38, 38] (some 1)) [124, 124] (some 0)
theorem rkF_sgn : ∀ p, p < 9 → (rkF (Pars.sgn p)).getD 0 = (Pars.rk (Pars.sgn p) : Int) := by decide +kernel
theorem sgn_at : ∀ p, p < 9 → (Pars.sgns.map fun l => Value.string (byt l)).toArray[p]? = some (.string (byt (Pars.sgn p))) := by
 intro p hp
 unfold Pars.sgn
 simp [Pars.sgns] at *
 rcases p with _ | _ | _ | _ | _ | _ | _ | _ | _ | p
 all_goals first | rfl | omega
theorem zero_int (w : World) : (zeroValue 3).run Tryz.prog w = .ok (intRdr.val 0) w := by
 simp [go_sem, Tryz.zeroValue3, intRdr]
section
variable {ops : Array Oper} {rest : List Oper} {o : Oper} {a : Act} {w : World} {Q : Exit → Act → World → Prop}
theorem wpList_mapf_insert {α : Type} {r : Rdr α} {b n : Nat} {f : List UInt8 → Option α} (hg : o.guard = none) (m x v : Operand) (t : TypeId) (hop : o.op = Op.insert t m x v) (e : TypeId) (ht : Tryz.prog.underlying t = some (.map 9 e)) (h : MapF r w b n f) (hm : a.eval m = .map (some b)) (hn : n < maxLen)
  (k : List UInt8) (hk : k.length ≤ maxLen) (hx : a.eval x = .string (byt k)) (y : α) (hv : a.eval v = r.val y)
  (hK : ∀ w', MapF r w' b (n + 1) (putF f k (some y)) → Upd w w' b → w'.heap.size = w.heap.size → wpList Tryz.prog ops Q rest (a.put o.dst undef) w') : wpList Tryz.prog ops Q (o :: rest) a w := by
 refine wpList_plain hg fun K' hK' => ?_
 obtain ⟨w', hrun, r1, r2, r3⟩ := h.store ht hn k hk y
 unfold Oper.wp
 simp [execOp, hop, hm, hx, hv, hrun, Result.andThen]
 exact hK' _ _ (hK w' r1 r2 r3)
end
theorem parse_e (s : List UInt8) (w : World) (he : EnvW w) (hm : s.length ≤ 9223372036854775807) :
  Calls Tryz.prog 9 #[.string (byt s)] w fun e w' => ∃ n cs k, e = .returned (.tuple #[.agg cs, .int .i64 k]) ∧ NodeAt w' (fun g => w.heap.size ≤ g) n cs ∧ Below w.heap.size w w' ∧ PC s n k :=
 (parse_any s w he.sp (by have := he.big; omega) hm).mono (by
  rintro e w' (⟨n, cs, hp, rfl, hn, hb⟩ | ⟨k, hp, hk, rfl, hb⟩)
  ·exact ⟨n, cs, 0, rfl, hn, hb, .inl ⟨hp, rfl⟩⟩
  ·refine ⟨.mk 0 0 [] [], _, k, rfl, NodeAt.leaf _ _ 0 0 [], hb, .inr ⟨rfl, ?_⟩⟩
   rcases hk with rfl | rfl
   ·exact .inl ⟨rfl, hp⟩
   ·exact .inr ⟨rfl, hp⟩)
theorem ok3_any (w1 : World) : Calls Tryz.prog 12 #[.slice (some ⟨w1.heap.size, 0, none⟩) 3 3] (w1.alloc (.cells #[.int .i64 0, .int .i64 0, .int .i64 0] 25)) fun e w' => e = .returned (.bool true) ∧ Below w1.heap.size w1 w' :=
 (ok_any [0, 0, 0] w1.heap.size _ (Box.new w1 _ _) (by simp)).mono fun e w' ⟨h1, h2⟩ => ⟨by rw [h1]; simp, by rw [h2]; exact below1 w1 _⟩
theorem left_pc {p q : Nat} (hp : p < 9) (hq : q < 9) {n l r : Pars.Node} {i j k : Int} (h1 : PC (Pars.lText p q) n i) (h2 : PC (Pars.lLeft p q) l j) (h3 : PC (Pars.lRight p q) r k) :
  i = 0 ∧ j = 0 ∧ k = 0 ∧ (Pars.rk (Pars.sgn q) ≤ Pars.rk (Pars.sgn p) → Pars.same n l = true) ∧ (¬ Pars.rk (Pars.sgn q) ≤ Pars.rk (Pars.sgn p) → Pars.same n r = true) := by
 have h := Pars.left_all p hp q hq
 unfold Pars.okLeft at h
 split at h
 ·rename_i e1 e2 e3
  have f : ∀ {s : List UInt8} {a b : Pars.Node} {k : Int}, Pars.parse s = .ok a → PC s b k → k = 0 ∧ b = a := by
   intro s a b k e hp
   rcases hp with ⟨h, h0⟩ | ⟨_, ⟨_, h⟩ | ⟨_, h⟩⟩
   ·rw [e] at h; injection h with h; exact ⟨h0, h.symm⟩
   ·rw [e] at h; cases h
   ·rw [e] at h; cases h
  obtain ⟨g1, rfl⟩ := f e1 h1
  obtain ⟨g2, rfl⟩ := f e2 h2
  obtain ⟨g3, rfl⟩ := f e3 h3
  refine ⟨g1, g2, g3, fun hr => ?_, fun hr => ?_⟩
  ·rw [if_pos hr] at h; exact h
  ·rw [if_neg hr] at h; exact h
 ·cases h
set_option maxRecDepth 100000 in
set_option maxHeartbeats 4000000 in
theorem left_true (a b : Int) (w : World) (he : EnvW w) : Calls Tryz.prog 8 #[.int .i64 a, .int .i64 b] w (TruthOut w) := by
 have HE := hid he
 have hbig := he.big
 have HU := hid (Below.refl w.heap.size w)
 clear he
 go_enter Tryz.func8, Tryz.ntmps8
 go_wp2_with fail
 refine (signs_any w HE.out).mono ?_
 rintro e w1 ⟨rfl, hx, hb⟩
 have FB := hid hx
 have hz := hb.size
 replace HU := hid (HU.out.trans hb)
 clear hx hb hz
 obtain ⟨fb, hfb⟩ : ∃ q, w.heap.size = q := ⟨_, rfl⟩
 obtain ⟨CS, hCS⟩ : ∃ q, (Pars.sgns.map fun l => Value.string (byt l)).toArray = q := ⟨_, rfl⟩
 have HCS := hid hCS
 have HFB := hid hfb
 obtain ⟨HU2, hHU2⟩ : ∃ q : Hid (Below w.heap.size w w1), q = HU := ⟨_, rfl⟩
 clear hHU2
 rw [hfb, hCS] at FB
 rw [hfb]
 clear hfb hCS
 go_wp2_with fail
 refine (lives_true _ (HE.out.below HU.out hbig)).mono ?_
 rintro e w2 ⟨rfl, hb⟩
 replace FB := bl FB hb
 replace HU := hid (HU.out.trans (hb.mono HU.out.size))
 clear hb
 by_cases ha0 : a < 0
 ·have d1 : decide (a < 0) = true := decide_eq_true ha0
  go_wp2_with fail
  refine (lives_true _ (HE.out.below HU.out hbig)).mono ?_
  rintro e w3 ⟨rfl, hb⟩
  replace FB := bl FB hb
  replace HU := hid (HU.out.trans (hb.mono HU.out.size))
  clear hb
  go_wp2
  go_ret
  exact ⟨rfl, HU.out⟩
 ·have d1 : decide (a < 0) = false := decide_eq_false ha0
  by_cases hb0 : b < 0
  ·have d2 : decide (b < 0) = true := decide_eq_true hb0
   go_wp2_with fail
   refine (lives_true _ (HE.out.below HU.out hbig)).mono ?_
   rintro e w3 ⟨rfl, hb⟩
   replace FB := bl FB hb
   replace HU := hid (HU.out.trans (hb.mono HU.out.size))
   clear hb
   go_wp2
   go_ret
   exact ⟨rfl, HU.out⟩
  ·have d2 : decide (b < 0) = false := decide_eq_false hb0
   by_cases ha9 : 9 ≤ a
   ·have d3 : decide (9 ≤ a) = true := decide_eq_true ha9
    have d4 : decide (a ≥ 9) = true := decide_eq_true ha9
    go_wp2_with fail
    refine (lives_true _ (HE.out.below HU.out hbig)).mono ?_
    rintro e w3 ⟨rfl, hb⟩
    replace FB := bl FB hb
    replace HU := hid (HU.out.trans (hb.mono HU.out.size))
    clear hb
    go_wp2
    go_ret
    exact ⟨rfl, HU.out⟩
   ·have d3 : decide (9 ≤ a) = false := decide_eq_false ha9
    have d4 : decide (a ≥ 9) = false := decide_eq_false ha9
    by_cases hb9 : 9 ≤ b
    ·have d5 : decide (9 ≤ b) = true := decide_eq_true hb9
     have d6 : decide (b ≥ 9) = true := decide_eq_true hb9
     go_wp2_with fail
     refine (lives_true _ (HE.out.below HU.out hbig)).mono ?_
     rintro e w3 ⟨rfl, hb⟩
     replace FB := bl FB hb
     replace HU := hid (HU.out.trans (hb.mono HU.out.size))
     clear hb
     go_wp2
     go_ret
     exact ⟨rfl, HU.out⟩
    ·have d5 : decide (9 ≤ b) = false := decide_eq_false hb9
     have d6 : decide (b ≥ 9) = false := decide_eq_false hb9
     obtain ⟨p, rfl⟩ : ∃ p : Nat, a = p := ⟨a.toNat, by omega⟩
     obtain ⟨q, rfl⟩ : ∃ q : Nat, b = q := ⟨b.toNat, by omega⟩
     have hp9 : p < 9 := by omega
     have hq9 : q < 9 := by omega
     have HCA : Hid (CS[p]? = some (.string (byt (Pars.sgn p)))) := hid (by rw [← HCS.out]; exact sgn_at p hp9)
     have HCB : Hid (CS[q]? = some (.string (byt (Pars.sgn q)))) := hid (by rw [← HCS.out]; exact sgn_at q hq9)
     obtain ⟨SA, hSA⟩ : ∃ x, byt (Pars.sgn p) = x := ⟨_, rfl⟩
     obtain ⟨SB, hSB⟩ : ∃ x, byt (Pars.sgn q) = x := ⟨_, rfl⟩
     have sa : SA.size ≤ 2 := by rw [← hSA, byt_size]; exact sgn_len p hp9
     have sb : SB.size ≤ 2 := by rw [← hSB, byt_size]; exact sgn_len q hq9
     rw [hSA] at HCA
     rw [hSB] at HCB
     go_upto_region 4 with fail
     have hPT0 : (⟨#[120, 32]⟩ : ByteArray) ++ byt (Pars.sgn p) ++ (⟨#[32, 121, 32]⟩ : ByteArray) ++ byt (Pars.sgn q) ++ (⟨#[32, 122, 59]⟩ : ByteArray) = byt (Pars.lText p q) := by
      unfold Pars.lText
      rw [← byt_append, ← byt_append, ← byt_append, ← byt_append]
      rfl
     have hL0 : (Pars.lText p q).length ≤ 9223372036854775807 := by
      have h1 := sgn_len p hp9
      have h2 := sgn_len q hq9
      unfold Pars.lText
      simp only [ln]
      omega
     rw [hSA, hSB] at hPT0
     have u0 : (⟨#[120, 32]⟩ : ByteArray).size = 2 := rfl
     have u1 : (⟨#[32, 121, 32]⟩ : ByteArray).size = 3 := rfl
     have u2 : (⟨#[32, 122, 59]⟩ : ByteArray).size = 3 := rfl
     obtain ⟨P1, hP1⟩ : ∃ q, (⟨#[120, 32]⟩ : ByteArray) ++ SA = q := ⟨_, rfl⟩
     have z1 : P1.size = 2 + SA.size := by rw [← hP1, ByteArray.size_append, u0]
     obtain ⟨P2, hP2⟩ : ∃ q, P1 ++ (⟨#[32, 121, 32]⟩ : ByteArray) = q := ⟨_, rfl⟩
     have z2 : P2.size = P1.size + 3 := by rw [← hP2, ByteArray.size_append, u1]
     obtain ⟨P3, hP3⟩ : ∃ q, P2 ++ SB = q := ⟨_, rfl⟩
     have z3 : P3.size = P2.size + SB.size := by rw [← hP3, ByteArray.size_append]
     rw [hP1, hP2, hP3] at hPT0
     refine wp_region_until 17 (fun w' => Box w' fb 9 CS) (by kernel_rfl) FB.out.drew (fun hHeld => ?_)
     obtain ⟨wd, hwd⟩ : ∃ wd, w2.drew = wd := ⟨_, rfl⟩
     have HR0 : Hid (Below w2.heap.size w2 wd) := hid (hwd ▸ (Below.refl _ w2).drew)
     have HR := HR0
     (try rw [hwd] at hHeld)
     (try rw [hwd])
     clear hwd hHeld
     refine tU (i := 0) (v := ?_) rfl ?_ (.inr (FB.out.below HR.out FB.out.lt)) ?_
     rotate_left
     ·intro w hSw
      go_simp
      try (with_reducible rfl)
     (try simp only [Act.put, sq])
     refine tU (i := 1) (v := ?_) rfl ?_ (.inr (FB.out.below HR.out FB.out.lt)) ?_
     rotate_left
     ·intro w hSw
      go_simp
      try (with_reducible rfl)
     (try simp only [Act.put, sq])
     refine tU (i := 2) (v := (.pointer (some ⟨fb, p, none⟩))) rfl ?_ (.inr (FB.out.below HR.out FB.out.lt)) ?_
     ·intro w hSw
      go_simp
      try (intro h; exfalso; omega)
     (try simp only [Act.put, sq])
     refine tV (i := 3) (v := (.string SA)) rfl ?_ (FB.out.below HR.out FB.out.lt) ?_
     ·intro w hSw
      have c := hSw.cell p
      rw [HCA.out] at c
      go_simp
     (try simp only [Act.put, sq])
     refine tU (i := 4) (v := (.string P1)) rfl ?_ (.inr (FB.out.below HR.out FB.out.lt)) ?_
     ·intro w hSw
      go_simp
      try rw [hP1]
      try rfl
      try omega
     (try simp only [Act.put, sq])
     refine tU (i := 5) (v := (.string P2)) rfl ?_ (.inr (FB.out.below HR.out FB.out.lt)) ?_
     ·intro w hSw
      go_simp
      try rw [hP2]
      try rfl
      try omega
     (try simp only [Act.put, sq])
     refine tU (i := 6) (v := ?_) rfl ?_ (.inr (FB.out.below HR.out FB.out.lt)) ?_
     rotate_left
     ·intro w hSw
      go_simp
      try (with_reducible rfl)
     (try simp only [Act.put, sq])
     refine tU (i := 7) (v := ?_) rfl ?_ (.inr (FB.out.below HR.out FB.out.lt)) ?_
     rotate_left
     ·intro w hSw
      go_simp
      try (with_reducible rfl)
     (try simp only [Act.put, sq])
     refine tU (i := 8) (v := (.pointer (some ⟨fb, q, none⟩))) rfl ?_ (.inr (FB.out.below HR.out FB.out.lt)) ?_
     ·intro w hSw
      go_simp
      try (intro h; exfalso; omega)
     (try simp only [Act.put, sq])
     refine tV (i := 9) (v := (.string SB)) rfl ?_ (FB.out.below HR.out FB.out.lt) ?_
     ·intro w hSw
      have c := hSw.cell q
      rw [HCB.out] at c
      go_simp
     (try simp only [Act.put, sq])
     refine tU (i := 10) (v := (.string P3)) rfl ?_ (.inr (FB.out.below HR.out FB.out.lt)) ?_
     ·intro w hSw
      go_simp
      try rw [hP3]
      try rfl
      try omega
     (try simp only [Act.put, sq])
     refine tU (i := 11) (v := (.string (byt (Pars.lText p q)))) rfl ?_ (.inr (FB.out.below HR.out FB.out.lt)) ?_
     ·intro w hSw
      go_simp
      try rw [hPT0]
      try rfl
      try omega
     (try simp only [Act.put, sq])
     clear hP1 hP2 hP3 hPT0 z1 z2 z3 u0 u1 u2
     refine wpAnyU_ready (rs := [12, 16]) (by kernel_rfl) (by simp) ?_
     refine AllReadyU.cons rfl (fun K hK => ?_) (AllReadyU.cons rfl (fun K hK => ?_) AllReadyU.nil)
     focus
      go_simp
      refine (parse_e (Pars.lText p q) _ (HE.out.below (HU.out.trans (HR.out.mono HU.out.size)) hbig) hL0).mono ?_
      rintro e w5 ⟨n0, cs0, k0, rfl, hn, hb, hpc⟩
      have HPC0 := hid hpc
      replace HR := hid (HR.out.trans (hb.mono HR.out.size))
      clear hb hpc
      go_wp2_with fail
      refine hK.out _ _ (.inr (FB.out.below HR.out FB.out.lt)) (fun hHeld => ?_)
      clear hK hHeld K
      (try simp only [Act.put, sq])
      refine tU (i := 13) (v := ?_) rfl ?_ (.inr (FB.out.below HR.out FB.out.lt)) ?_
      rotate_left
      ·intro w hSw
       go_simp
       try (with_reducible rfl)
      (try simp only [Act.put, sq])
      refine tU (i := 14) (v := ?_) rfl ?_ (.inr (FB.out.below HR.out FB.out.lt)) ?_
      rotate_left
      ·intro w hSw
       go_simp
       try (with_reducible rfl)
      (try simp only [Act.put, sq])
      refine tU (i := 15) (v := ?_) rfl ?_ (.inr (FB.out.below HR.out FB.out.lt)) ?_
      rotate_left
      ·intro w hSw
       go_simp
       try (with_reducible rfl)
      (try simp only [Act.put, sq])
      refine rdU 16 rfl fun K hK => ?_
      go_simp
      have bxB := Box.new w5 24 #[.int .i64 0, .int .i64 0, .string ⟨#[]⟩, .slice none 0 0]
      have hb : Below w5.heap.size w5 (w5.alloc (.cells #[.int .i64 0, .int .i64 0, .string ⟨#[]⟩, .slice none 0 0] 24)) := below1 w5 _
      obtain ⟨w6, hwb⟩ : ∃ q, (w5.alloc (.cells #[.int .i64 0, .int .i64 0, .string ⟨#[]⟩, .slice none 0 0] 24)) = q := ⟨_, rfl⟩
      rw [hwb] at bxB hb
      rw [hwb]
      clear hwb
      obtain ⟨nb0, hnb⟩ : ∃ q, w5.heap.size = q := ⟨_, rfl⟩
      rw [hnb] at bxB ⊢
      have NB := hid bxB
      have hnb2 : w2.heap.size ≤ nb0 := by have := HR.out.size; omega
      have HN0 : Hid (NodeAt w6 (fun g => g ≠ nb0) n0 cs0) := hid ((NodeAt.keep (S1 := fun g => g ≠ nb0) (fun g _ hl => by omega) (Nat.le_refl _) (fun _ _ _ => rfl) hn).below (hnb ▸ hb))
      replace HR := hid (HR.out.trans (hb.mono HR.out.size))
      clear hb bxB hn hnb
      refine hK.out _ _ (.inr (FB.out.below HR.out FB.out.lt)) (fun hHeld => ?_)
      clear hK hHeld K
      (try simp only [Act.put, sq])
     rotate_left
     focus
      go_simp
      have bxB := Box.new wd 24 #[.int .i64 0, .int .i64 0, .string ⟨#[]⟩, .slice none 0 0]
      have hb : Below wd.heap.size wd (wd.alloc (.cells #[.int .i64 0, .int .i64 0, .string ⟨#[]⟩, .slice none 0 0] 24)) := below1 wd _
      obtain ⟨w5, hwb⟩ : ∃ q, (wd.alloc (.cells #[.int .i64 0, .int .i64 0, .string ⟨#[]⟩, .slice none 0 0] 24)) = q := ⟨_, rfl⟩
      rw [hwb] at bxB hb
      rw [hwb]
      clear hwb
      obtain ⟨nb0, hnb⟩ : ∃ q, wd.heap.size = q := ⟨_, rfl⟩
      rw [hnb] at bxB ⊢
      have NB := hid bxB
      have hnb2 : w2.heap.size ≤ nb0 := by have := HR.out.size; omega
      replace HR := hid (HR.out.trans (hb.mono HR.out.size))
      clear hb bxB hnb
      refine hK.out _ _ (.inr (FB.out.below HR.out FB.out.lt)) (fun hHeld => ?_)
      clear hK hHeld K
      (try simp only [Act.put, sq])
      refine rdU 12 rfl fun K hK => ?_
      go_simp
      refine (parse_e (Pars.lText p q) _ (HE.out.below (HU.out.trans (HR.out.mono HU.out.size)) hbig) hL0).mono ?_
      rintro e w6 ⟨n0, cs0, k0, rfl, hn, hb, hpc⟩
      have HPC0 := hid hpc
      have HN0 : Hid (NodeAt w6 (fun g => g ≠ nb0) n0 cs0) := hid (hn.weak (fun g hg => by have := NB.out.lt; omega))
      replace NB := bl NB hb
      replace HR := hid (HR.out.trans (hb.mono HR.out.size))
      clear hn hb hpc
      go_wp2_with fail
      refine hK.out _ _ (.inr (FB.out.below HR.out FB.out.lt)) (fun hHeld => ?_)
      clear hK hHeld K
      (try simp only [Act.put, sq])
      refine tU (i := 13) (v := ?_) rfl ?_ (.inr (FB.out.below HR.out FB.out.lt)) ?_
      rotate_left
      ·intro w hSw
       go_simp
       try (with_reducible rfl)
      (try simp only [Act.put, sq])
      refine tU (i := 14) (v := ?_) rfl ?_ (.inr (FB.out.below HR.out FB.out.lt)) ?_
      rotate_left
      ·intro w hSw
       go_simp
       try (with_reducible rfl)
      (try simp only [Act.put, sq])
      refine tU (i := 15) (v := ?_) rfl ?_ (.inr (FB.out.below HR.out FB.out.lt)) ?_
      rotate_left
      ·intro w hSw
       go_simp
       try (with_reducible rfl)
      (try simp only [Act.put, sq])
     all_goals
      have HINF0 : Hid ((Tryz.prog.info? 24).map (·.size) = some cs0.size) := hid (by rw [NodeAt.size HN0.out]; exact info_nod)
      have H40 : Hid ((4 : Nat) = cs0.size) := hid (NodeAt.size HN0.out).symm
      have HONE0 := hid (NodeAt.one HN0.out)
      refine rdU 17 rfl fun K hK => ?_
      refine step_store_box rfl 24 (.tmp 6) (.tmp 52) rfl nb0 cs0 (by simp [Act.eval, Act.put]) (by simp [Act.eval, Act.put]) 24 _ NB.out HINF0.out H40.out HONE0.out ?_
      intro v0 hx hu hz
      have EB0 := hid hx
      replace HN0 := hid ((HN0.out.upd hu (fun g hg => hg)).weak (S1 := fun _ => True) (fun _ _ => trivial))
      have hb := HR.out.trans (hu.own hnb2 HR.out.size)
      clear hx hu hz NB
      replace FB := bl FB hb
      replace HU := hid (HU.out.trans (hb.mono HU.out.size))
      clear hb HR HR0
      refine hK.out _ _ (.inl rfl) (fun hHeld => ?_)
      clear hK hHeld K
      (try simp only [Act.put, sq])
      refine rdU 18 rfl fun K hK => ?_
      go_simp
      refine hK.out _ _ (.inl rfl) (fun hHeld => ?_)
      clear hK hHeld K
      (try simp only [Act.put, sq])
      refine wpAnyU_done (by kernel_rfl) ?_ _
      go_upto_region 5 with fail
      have hPT1 : (⟨#[40, 120, 32]⟩ : ByteArray) ++ byt (Pars.sgn p) ++ (⟨#[32, 121, 41, 32]⟩ : ByteArray) ++ byt (Pars.sgn q) ++ (⟨#[32, 122, 59]⟩ : ByteArray) = byt (Pars.lLeft p q) := by
       unfold Pars.lLeft
       rw [← byt_append, ← byt_append, ← byt_append, ← byt_append]
       rfl
      have hL1 : (Pars.lLeft p q).length ≤ 9223372036854775807 := by
       have h1 := sgn_len p hp9
       have h2 := sgn_len q hq9
       unfold Pars.lLeft
       simp only [ln]
       omega
      rw [hSA, hSB] at hPT1
      have u0 : (⟨#[40, 120, 32]⟩ : ByteArray).size = 3 := rfl
      have u1 : (⟨#[32, 121, 41, 32]⟩ : ByteArray).size = 4 := rfl
      have u2 : (⟨#[32, 122, 59]⟩ : ByteArray).size = 3 := rfl
      obtain ⟨P1, hP1⟩ : ∃ q, (⟨#[40, 120, 32]⟩ : ByteArray) ++ SA = q := ⟨_, rfl⟩
      have z1 : P1.size = 3 + SA.size := by rw [← hP1, ByteArray.size_append, u0]
      obtain ⟨P2, hP2⟩ : ∃ q, P1 ++ (⟨#[32, 121, 41, 32]⟩ : ByteArray) = q := ⟨_, rfl⟩
      have z2 : P2.size = P1.size + 4 := by rw [← hP2, ByteArray.size_append, u1]
      obtain ⟨P3, hP3⟩ : ∃ q, P2 ++ SB = q := ⟨_, rfl⟩
      have z3 : P3.size = P2.size + SB.size := by rw [← hP3, ByteArray.size_append]
      rw [hP1, hP2, hP3] at hPT1
      refine wp_region_until 17 (fun w' => Box w' fb 9 CS) (by kernel_rfl) FB.out.drew (fun hHeld => ?_)
      obtain ⟨wd, hwd⟩ : ∃ wd, v0.drew = wd := ⟨_, rfl⟩
      have HR0 : Hid (Below v0.heap.size v0 wd) := hid (hwd ▸ (Below.refl _ v0).drew)
      have HR := HR0
      (try rw [hwd] at hHeld)
      (try rw [hwd])
      clear hwd hHeld
      refine tU (i := 0) (v := ?_) rfl ?_ (.inr (FB.out.below HR.out FB.out.lt)) ?_
      rotate_left
      ·intro w hSw
       go_simp
       try (with_reducible rfl)
      (try simp only [Act.put, sq])
      refine tU (i := 1) (v := ?_) rfl ?_ (.inr (FB.out.below HR.out FB.out.lt)) ?_
      rotate_left
      ·intro w hSw
       go_simp
       try (with_reducible rfl)
      (try simp only [Act.put, sq])
      refine tU (i := 2) (v := (.pointer (some ⟨fb, p, none⟩))) rfl ?_ (.inr (FB.out.below HR.out FB.out.lt)) ?_
      ·intro w hSw
       go_simp
       try (intro h; exfalso; omega)
      (try simp only [Act.put, sq])
      refine tV (i := 3) (v := (.string SA)) rfl ?_ (FB.out.below HR.out FB.out.lt) ?_
      ·intro w hSw
       have c := hSw.cell p
       rw [HCA.out] at c
       go_simp
      (try simp only [Act.put, sq])
      refine tU (i := 4) (v := (.string P1)) rfl ?_ (.inr (FB.out.below HR.out FB.out.lt)) ?_
      ·intro w hSw
       go_simp
       try rw [hP1]
       try rfl
       try omega
      (try simp only [Act.put, sq])
      refine tU (i := 5) (v := (.string P2)) rfl ?_ (.inr (FB.out.below HR.out FB.out.lt)) ?_
      ·intro w hSw
       go_simp
       try rw [hP2]
       try rfl
       try omega
      (try simp only [Act.put, sq])
      refine tU (i := 6) (v := ?_) rfl ?_ (.inr (FB.out.below HR.out FB.out.lt)) ?_
      rotate_left
      ·intro w hSw
       go_simp
       try (with_reducible rfl)
      (try simp only [Act.put, sq])
      refine tU (i := 7) (v := ?_) rfl ?_ (.inr (FB.out.below HR.out FB.out.lt)) ?_
      rotate_left
      ·intro w hSw
       go_simp
       try (with_reducible rfl)
      (try simp only [Act.put, sq])
      refine tU (i := 8) (v := (.pointer (some ⟨fb, q, none⟩))) rfl ?_ (.inr (FB.out.below HR.out FB.out.lt)) ?_
      ·intro w hSw
       go_simp
       try (intro h; exfalso; omega)
      (try simp only [Act.put, sq])
      refine tV (i := 9) (v := (.string SB)) rfl ?_ (FB.out.below HR.out FB.out.lt) ?_
      ·intro w hSw
       have c := hSw.cell q
       rw [HCB.out] at c
       go_simp
      (try simp only [Act.put, sq])
      refine tU (i := 10) (v := (.string P3)) rfl ?_ (.inr (FB.out.below HR.out FB.out.lt)) ?_
      ·intro w hSw
       go_simp
       try rw [hP3]
       try rfl
       try omega
      (try simp only [Act.put, sq])
      refine tU (i := 11) (v := (.string (byt (Pars.lLeft p q)))) rfl ?_ (.inr (FB.out.below HR.out FB.out.lt)) ?_
      ·intro w hSw
       go_simp
       try rw [hPT1]
       try rfl
       try omega
      (try simp only [Act.put, sq])
      clear hP1 hP2 hP3 hPT1 z1 z2 z3 u0 u1 u2
      refine wpAnyU_ready (rs := [12, 16]) (by kernel_rfl) (by simp) ?_
      refine AllReadyU.cons rfl (fun K hK => ?_) (AllReadyU.cons rfl (fun K hK => ?_) AllReadyU.nil)
      focus
       go_simp
       refine (parse_e (Pars.lLeft p q) _ (HE.out.below (HU.out.trans (HR.out.mono HU.out.size)) hbig) hL1).mono ?_
       rintro e w5 ⟨n1, cs1, k1, rfl, hn, hb, hpc⟩
       have HPC1 := hid hpc
       replace HR := hid (HR.out.trans (hb.mono HR.out.size))
       clear hb hpc
       go_wp2_with fail
       refine hK.out _ _ (.inr (FB.out.below HR.out FB.out.lt)) (fun hHeld => ?_)
       clear hK hHeld K
       (try simp only [Act.put, sq])
       refine tU (i := 13) (v := ?_) rfl ?_ (.inr (FB.out.below HR.out FB.out.lt)) ?_
       rotate_left
       ·intro w hSw
        go_simp
        try (with_reducible rfl)
       (try simp only [Act.put, sq])
       refine tU (i := 14) (v := ?_) rfl ?_ (.inr (FB.out.below HR.out FB.out.lt)) ?_
       rotate_left
       ·intro w hSw
        go_simp
        try (with_reducible rfl)
       (try simp only [Act.put, sq])
       refine tU (i := 15) (v := ?_) rfl ?_ (.inr (FB.out.below HR.out FB.out.lt)) ?_
       rotate_left
       ·intro w hSw
        go_simp
        try (with_reducible rfl)
       (try simp only [Act.put, sq])
       refine rdU 16 rfl fun K hK => ?_
       go_simp
       have bxB := Box.new w5 24 #[.int .i64 0, .int .i64 0, .string ⟨#[]⟩, .slice none 0 0]
       have hb : Below w5.heap.size w5 (w5.alloc (.cells #[.int .i64 0, .int .i64 0, .string ⟨#[]⟩, .slice none 0 0] 24)) := below1 w5 _
       obtain ⟨w6, hwb⟩ : ∃ q, (w5.alloc (.cells #[.int .i64 0, .int .i64 0, .string ⟨#[]⟩, .slice none 0 0] 24)) = q := ⟨_, rfl⟩
       rw [hwb] at bxB hb
       rw [hwb]
       clear hwb
       obtain ⟨nb1, hnb⟩ : ∃ q, w5.heap.size = q := ⟨_, rfl⟩
       rw [hnb] at bxB ⊢
       have NB := hid bxB
       have hnb2 : v0.heap.size ≤ nb1 := by have := HR.out.size; omega
       have HN1 : Hid (NodeAt w6 (fun g => g ≠ nb1) n1 cs1) := hid ((NodeAt.keep (S1 := fun g => g ≠ nb1) (fun g _ hl => by omega) (Nat.le_refl _) (fun _ _ _ => rfl) hn).below (hnb ▸ hb))
       replace HR := hid (HR.out.trans (hb.mono HR.out.size))
       clear hb bxB hn hnb
       refine hK.out _ _ (.inr (FB.out.below HR.out FB.out.lt)) (fun hHeld => ?_)
       clear hK hHeld K
       (try simp only [Act.put, sq])
      rotate_left
      focus
       go_simp
       have bxB := Box.new wd 24 #[.int .i64 0, .int .i64 0, .string ⟨#[]⟩, .slice none 0 0]
       have hb : Below wd.heap.size wd (wd.alloc (.cells #[.int .i64 0, .int .i64 0, .string ⟨#[]⟩, .slice none 0 0] 24)) := below1 wd _
       obtain ⟨w5, hwb⟩ : ∃ q, (wd.alloc (.cells #[.int .i64 0, .int .i64 0, .string ⟨#[]⟩, .slice none 0 0] 24)) = q := ⟨_, rfl⟩
       rw [hwb] at bxB hb
       rw [hwb]
       clear hwb
       obtain ⟨nb1, hnb⟩ : ∃ q, wd.heap.size = q := ⟨_, rfl⟩
       rw [hnb] at bxB ⊢
       have NB := hid bxB
       have hnb2 : v0.heap.size ≤ nb1 := by have := HR.out.size; omega
       replace HR := hid (HR.out.trans (hb.mono HR.out.size))
       clear hb bxB hnb
       refine hK.out _ _ (.inr (FB.out.below HR.out FB.out.lt)) (fun hHeld => ?_)
       clear hK hHeld K
       (try simp only [Act.put, sq])
       refine rdU 12 rfl fun K hK => ?_
       go_simp
       refine (parse_e (Pars.lLeft p q) _ (HE.out.below (HU.out.trans (HR.out.mono HU.out.size)) hbig) hL1).mono ?_
       rintro e w6 ⟨n1, cs1, k1, rfl, hn, hb, hpc⟩
       have HPC1 := hid hpc
       have HN1 : Hid (NodeAt w6 (fun g => g ≠ nb1) n1 cs1) := hid (hn.weak (fun g hg => by have := NB.out.lt; omega))
       replace NB := bl NB hb
       replace HR := hid (HR.out.trans (hb.mono HR.out.size))
       clear hn hb hpc
       go_wp2_with fail
       refine hK.out _ _ (.inr (FB.out.below HR.out FB.out.lt)) (fun hHeld => ?_)
       clear hK hHeld K
       (try simp only [Act.put, sq])
       refine tU (i := 13) (v := ?_) rfl ?_ (.inr (FB.out.below HR.out FB.out.lt)) ?_
       rotate_left
       ·intro w hSw
        go_simp
        try (with_reducible rfl)
       (try simp only [Act.put, sq])
       refine tU (i := 14) (v := ?_) rfl ?_ (.inr (FB.out.below HR.out FB.out.lt)) ?_
       rotate_left
       ·intro w hSw
        go_simp
        try (with_reducible rfl)
       (try simp only [Act.put, sq])
       refine tU (i := 15) (v := ?_) rfl ?_ (.inr (FB.out.below HR.out FB.out.lt)) ?_
       rotate_left
       ·intro w hSw
        go_simp
        try (with_reducible rfl)
       (try simp only [Act.put, sq])
      all_goals
       have HINF1 : Hid ((Tryz.prog.info? 24).map (·.size) = some cs1.size) := hid (by rw [NodeAt.size HN1.out]; exact info_nod)
       have H41 : Hid ((4 : Nat) = cs1.size) := hid (NodeAt.size HN1.out).symm
       have HONE1 := hid (NodeAt.one HN1.out)
       refine rdU 17 rfl fun K hK => ?_
       refine step_store_box rfl 24 (.tmp 8) (.tmp 68) rfl nb1 cs1 (by simp [Act.eval, Act.put]) (by simp [Act.eval, Act.put]) 24 _ NB.out HINF1.out H41.out HONE1.out ?_
       intro v1 hx hu hz
       have EB1 := hid hx
       replace HN1 := hid ((HN1.out.upd hu (fun g hg => hg)).weak (S1 := fun _ => True) (fun _ _ => trivial))
       have hb := HR.out.trans (hu.own hnb2 HR.out.size)
       clear hx hu hz NB
       replace HN0 := hid (HN0.out.below hb)
       replace EB0 := bl EB0 hb
       replace FB := bl FB hb
       replace HU := hid (HU.out.trans (hb.mono HU.out.size))
       clear hb HR HR0
       refine hK.out _ _ (.inl rfl) (fun hHeld => ?_)
       clear hK hHeld K
       (try simp only [Act.put, sq])
       refine rdU 18 rfl fun K hK => ?_
       go_simp
       refine hK.out _ _ (.inl rfl) (fun hHeld => ?_)
       clear hK hHeld K
       (try simp only [Act.put, sq])
       refine wpAnyU_done (by kernel_rfl) ?_ _
       go_upto_region 6 with fail
       have hPT2 : (⟨#[120, 32]⟩ : ByteArray) ++ byt (Pars.sgn p) ++ (⟨#[32, 40, 121, 32]⟩ : ByteArray) ++ byt (Pars.sgn q) ++ (⟨#[32, 122, 41, 59]⟩ : ByteArray) = byt (Pars.lRight p q) := by
        unfold Pars.lRight
        rw [← byt_append, ← byt_append, ← byt_append, ← byt_append]
        rfl
       have hL2 : (Pars.lRight p q).length ≤ 9223372036854775807 := by
        have h1 := sgn_len p hp9
        have h2 := sgn_len q hq9
        unfold Pars.lRight
        simp only [ln]
        omega
       rw [hSA, hSB] at hPT2
       have u0 : (⟨#[120, 32]⟩ : ByteArray).size = 2 := rfl
       have u1 : (⟨#[32, 40, 121, 32]⟩ : ByteArray).size = 4 := rfl
       have u2 : (⟨#[32, 122, 41, 59]⟩ : ByteArray).size = 4 := rfl
       obtain ⟨P1, hP1⟩ : ∃ q, (⟨#[120, 32]⟩ : ByteArray) ++ SA = q := ⟨_, rfl⟩
       have z1 : P1.size = 2 + SA.size := by rw [← hP1, ByteArray.size_append, u0]
       obtain ⟨P2, hP2⟩ : ∃ q, P1 ++ (⟨#[32, 40, 121, 32]⟩ : ByteArray) = q := ⟨_, rfl⟩
       have z2 : P2.size = P1.size + 4 := by rw [← hP2, ByteArray.size_append, u1]
       obtain ⟨P3, hP3⟩ : ∃ q, P2 ++ SB = q := ⟨_, rfl⟩
       have z3 : P3.size = P2.size + SB.size := by rw [← hP3, ByteArray.size_append]
       rw [hP1, hP2, hP3] at hPT2
       refine wp_region_until 17 (fun w' => Box w' fb 9 CS) (by kernel_rfl) FB.out.drew (fun hHeld => ?_)
       obtain ⟨wd, hwd⟩ : ∃ wd, v1.drew = wd := ⟨_, rfl⟩
       have HR0 : Hid (Below v1.heap.size v1 wd) := hid (hwd ▸ (Below.refl _ v1).drew)
       have HR := HR0
       (try rw [hwd] at hHeld)
       (try rw [hwd])
       clear hwd hHeld
       refine tU (i := 0) (v := ?_) rfl ?_ (.inr (FB.out.below HR.out FB.out.lt)) ?_
       rotate_left
       ·intro w hSw
        go_simp
        try (with_reducible rfl)
       (try simp only [Act.put, sq])
       refine tU (i := 1) (v := ?_) rfl ?_ (.inr (FB.out.below HR.out FB.out.lt)) ?_
       rotate_left
       ·intro w hSw
        go_simp
        try (with_reducible rfl)
       (try simp only [Act.put, sq])
       refine tU (i := 2) (v := (.pointer (some ⟨fb, p, none⟩))) rfl ?_ (.inr (FB.out.below HR.out FB.out.lt)) ?_
       ·intro w hSw
        go_simp
        try (intro h; exfalso; omega)
       (try simp only [Act.put, sq])
       refine tV (i := 3) (v := (.string SA)) rfl ?_ (FB.out.below HR.out FB.out.lt) ?_
       ·intro w hSw
        have c := hSw.cell p
        rw [HCA.out] at c
        go_simp
       (try simp only [Act.put, sq])
       refine tU (i := 4) (v := (.string P1)) rfl ?_ (.inr (FB.out.below HR.out FB.out.lt)) ?_
       ·intro w hSw
        go_simp
        try rw [hP1]
        try rfl
        try omega
       (try simp only [Act.put, sq])
       refine tU (i := 5) (v := (.string P2)) rfl ?_ (.inr (FB.out.below HR.out FB.out.lt)) ?_
       ·intro w hSw
        go_simp
        try rw [hP2]
        try rfl
        try omega
       (try simp only [Act.put, sq])
       refine tU (i := 6) (v := ?_) rfl ?_ (.inr (FB.out.below HR.out FB.out.lt)) ?_
       rotate_left
       ·intro w hSw
        go_simp
        try (with_reducible rfl)
       (try simp only [Act.put, sq])
       refine tU (i := 7) (v := ?_) rfl ?_ (.inr (FB.out.below HR.out FB.out.lt)) ?_
       rotate_left
       ·intro w hSw
        go_simp
        try (with_reducible rfl)
       (try simp only [Act.put, sq])
       refine tU (i := 8) (v := (.pointer (some ⟨fb, q, none⟩))) rfl ?_ (.inr (FB.out.below HR.out FB.out.lt)) ?_
       ·intro w hSw
        go_simp
        try (intro h; exfalso; omega)
       (try simp only [Act.put, sq])
       refine tV (i := 9) (v := (.string SB)) rfl ?_ (FB.out.below HR.out FB.out.lt) ?_
       ·intro w hSw
        have c := hSw.cell q
        rw [HCB.out] at c
        go_simp
       (try simp only [Act.put, sq])
       refine tU (i := 10) (v := (.string P3)) rfl ?_ (.inr (FB.out.below HR.out FB.out.lt)) ?_
       ·intro w hSw
        go_simp
        try rw [hP3]
        try rfl
        try omega
       (try simp only [Act.put, sq])
       refine tU (i := 11) (v := (.string (byt (Pars.lRight p q)))) rfl ?_ (.inr (FB.out.below HR.out FB.out.lt)) ?_
       ·intro w hSw
        go_simp
        try rw [hPT2]
        try rfl
        try omega
       (try simp only [Act.put, sq])
       clear hP1 hP2 hP3 hPT2 z1 z2 z3 u0 u1 u2
       refine wpAnyU_ready (rs := [12, 16]) (by kernel_rfl) (by simp) ?_
       refine AllReadyU.cons rfl (fun K hK => ?_) (AllReadyU.cons rfl (fun K hK => ?_) AllReadyU.nil)
       focus
        go_simp
        refine (parse_e (Pars.lRight p q) _ (HE.out.below (HU.out.trans (HR.out.mono HU.out.size)) hbig) hL2).mono ?_
        rintro e w5 ⟨n2, cs2, k2, rfl, hn, hb, hpc⟩
        have HPC2 := hid hpc
        replace HR := hid (HR.out.trans (hb.mono HR.out.size))
        clear hb hpc
        go_wp2_with fail
        refine hK.out _ _ (.inr (FB.out.below HR.out FB.out.lt)) (fun hHeld => ?_)
        clear hK hHeld K
        (try simp only [Act.put, sq])
        refine tU (i := 13) (v := ?_) rfl ?_ (.inr (FB.out.below HR.out FB.out.lt)) ?_
        rotate_left
        ·intro w hSw
         go_simp
         try (with_reducible rfl)
        (try simp only [Act.put, sq])
        refine tU (i := 14) (v := ?_) rfl ?_ (.inr (FB.out.below HR.out FB.out.lt)) ?_
        rotate_left
        ·intro w hSw
         go_simp
         try (with_reducible rfl)
        (try simp only [Act.put, sq])
        refine tU (i := 15) (v := ?_) rfl ?_ (.inr (FB.out.below HR.out FB.out.lt)) ?_
        rotate_left
        ·intro w hSw
         go_simp
         try (with_reducible rfl)
        (try simp only [Act.put, sq])
        refine rdU 16 rfl fun K hK => ?_
        go_simp
        have bxB := Box.new w5 24 #[.int .i64 0, .int .i64 0, .string ⟨#[]⟩, .slice none 0 0]
        have hb : Below w5.heap.size w5 (w5.alloc (.cells #[.int .i64 0, .int .i64 0, .string ⟨#[]⟩, .slice none 0 0] 24)) := below1 w5 _
        obtain ⟨w6, hwb⟩ : ∃ q, (w5.alloc (.cells #[.int .i64 0, .int .i64 0, .string ⟨#[]⟩, .slice none 0 0] 24)) = q := ⟨_, rfl⟩
        rw [hwb] at bxB hb
        rw [hwb]
        clear hwb
        obtain ⟨nb2, hnb⟩ : ∃ q, w5.heap.size = q := ⟨_, rfl⟩
        rw [hnb] at bxB ⊢
        have NB := hid bxB
        have hnb2 : v1.heap.size ≤ nb2 := by have := HR.out.size; omega
        have HN2 : Hid (NodeAt w6 (fun g => g ≠ nb2) n2 cs2) := hid ((NodeAt.keep (S1 := fun g => g ≠ nb2) (fun g _ hl => by omega) (Nat.le_refl _) (fun _ _ _ => rfl) hn).below (hnb ▸ hb))
        replace HR := hid (HR.out.trans (hb.mono HR.out.size))
        clear hb bxB hn hnb
        refine hK.out _ _ (.inr (FB.out.below HR.out FB.out.lt)) (fun hHeld => ?_)
        clear hK hHeld K
        (try simp only [Act.put, sq])
       rotate_left
       focus
        go_simp
        have bxB := Box.new wd 24 #[.int .i64 0, .int .i64 0, .string ⟨#[]⟩, .slice none 0 0]
        have hb : Below wd.heap.size wd (wd.alloc (.cells #[.int .i64 0, .int .i64 0, .string ⟨#[]⟩, .slice none 0 0] 24)) := below1 wd _
        obtain ⟨w5, hwb⟩ : ∃ q, (wd.alloc (.cells #[.int .i64 0, .int .i64 0, .string ⟨#[]⟩, .slice none 0 0] 24)) = q := ⟨_, rfl⟩
        rw [hwb] at bxB hb
        rw [hwb]
        clear hwb
        obtain ⟨nb2, hnb⟩ : ∃ q, wd.heap.size = q := ⟨_, rfl⟩
        rw [hnb] at bxB ⊢
        have NB := hid bxB
        have hnb2 : v1.heap.size ≤ nb2 := by have := HR.out.size; omega
        replace HR := hid (HR.out.trans (hb.mono HR.out.size))
        clear hb bxB hnb
        refine hK.out _ _ (.inr (FB.out.below HR.out FB.out.lt)) (fun hHeld => ?_)
        clear hK hHeld K
        (try simp only [Act.put, sq])
        refine rdU 12 rfl fun K hK => ?_
        go_simp
        refine (parse_e (Pars.lRight p q) _ (HE.out.below (HU.out.trans (HR.out.mono HU.out.size)) hbig) hL2).mono ?_
        rintro e w6 ⟨n2, cs2, k2, rfl, hn, hb, hpc⟩
        have HPC2 := hid hpc
        have HN2 : Hid (NodeAt w6 (fun g => g ≠ nb2) n2 cs2) := hid (hn.weak (fun g hg => by have := NB.out.lt; omega))
        replace NB := bl NB hb
        replace HR := hid (HR.out.trans (hb.mono HR.out.size))
        clear hn hb hpc
        go_wp2_with fail
        refine hK.out _ _ (.inr (FB.out.below HR.out FB.out.lt)) (fun hHeld => ?_)
        clear hK hHeld K
        (try simp only [Act.put, sq])
        refine tU (i := 13) (v := ?_) rfl ?_ (.inr (FB.out.below HR.out FB.out.lt)) ?_
        rotate_left
        ·intro w hSw
         go_simp
         try (with_reducible rfl)
        (try simp only [Act.put, sq])
        refine tU (i := 14) (v := ?_) rfl ?_ (.inr (FB.out.below HR.out FB.out.lt)) ?_
        rotate_left
        ·intro w hSw
         go_simp
         try (with_reducible rfl)
        (try simp only [Act.put, sq])
        refine tU (i := 15) (v := ?_) rfl ?_ (.inr (FB.out.below HR.out FB.out.lt)) ?_
        rotate_left
        ·intro w hSw
         go_simp
         try (with_reducible rfl)
        (try simp only [Act.put, sq])
       all_goals
        have HINF2 : Hid ((Tryz.prog.info? 24).map (·.size) = some cs2.size) := hid (by rw [NodeAt.size HN2.out]; exact info_nod)
        have H42 : Hid ((4 : Nat) = cs2.size) := hid (NodeAt.size HN2.out).symm
        have HONE2 := hid (NodeAt.one HN2.out)
        refine rdU 17 rfl fun K hK => ?_
        refine step_store_box rfl 24 (.tmp 10) (.tmp 84) rfl nb2 cs2 (by simp [Act.eval, Act.put]) (by simp [Act.eval, Act.put]) 24 _ NB.out HINF2.out H42.out HONE2.out ?_
        intro v2 hx hu hz
        have EB2 := hid hx
        replace HN2 := hid ((HN2.out.upd hu (fun g hg => hg)).weak (S1 := fun _ => True) (fun _ _ => trivial))
        have hb := HR.out.trans (hu.own hnb2 HR.out.size)
        clear hx hu hz NB
        replace HN0 := hid (HN0.out.below hb)
        replace HN1 := hid (HN1.out.below hb)
        replace EB0 := bl EB0 hb
        replace EB1 := bl EB1 hb
        replace FB := bl FB hb
        replace HU := hid (HU.out.trans (hb.mono HU.out.size))
        clear hb HR HR0
        refine hK.out _ _ (.inl rfl) (fun hHeld => ?_)
        clear hK hHeld K
        (try simp only [Act.put, sq])
        refine rdU 18 rfl fun K hK => ?_
        go_simp
        refine hK.out _ _ (.inl rfl) (fun hHeld => ?_)
        clear hK hHeld K
        (try simp only [Act.put, sq])
        refine wpAnyU_done (by kernel_rfl) ?_ _
        have hmm := @run_makeMap Tryz.prog
        have HMF := hid (MapF.made intRdr v2)
        have HMB := hid (below1 v2 (.map #[] 0))
        go_upto_region 8 with (first | (refine wpList_mapf_insert rfl (.tmp 86) _ _ 44 rfl 3 Tryz.underlying44 HMF.out rfl (by unfold maxLen; omega) _ (by unfold maxLen; decide) rfl _ rfl ?_; intro wm hm hu hz; have HZ := hid hz; replace HMB := hid (HMB.out.trans (hu.own (Nat.le_refl _) HMB.out.size)); replace HMF := hid hm; clear hm hu hz))
        have HM : Hid (MapF intRdr wm v2.heap.size 9 rkF) := HMF
        clear HMF hmm
        replace HN0 := hid (HN0.out.below HMB.out)
        replace HN1 := hid (HN1.out.below HMB.out)
        replace HN2 := hid (HN2.out.below HMB.out)
        replace EB0 := hid (EB0.out.below HMB.out EB0.out.lt)
        replace EB1 := hid (EB1.out.below HMB.out EB1.out.lt)
        replace EB2 := hid (EB2.out.below HMB.out EB2.out.lt)
        replace FB := hid (FB.out.below HMB.out FB.out.lt)
        replace HU := hid (HU.out.trans (HMB.out.mono HU.out.size))
        clear HMB
        obtain ⟨mb, hmb⟩ : ∃ q, v2.heap.size = q := ⟨_, rfl⟩
        rw [hmb] at HM ⊢
        clear hmb
        obtain ⟨e0, e1, e2, l1, l2⟩ := left_pc hp9 hq9 HPC0.out HPC1.out HPC2.out
        subst e0 e1 e2
        have HL1 := hid l1
        have HL2 := hid l2
        clear l1 l2
        have eb2 := EB2.out
        go_upto_region 9 with (first | (refine wpList_load_row rfl 24 (.tmp 10) rfl nb2 rfl _ cs2 (0, 0) _ eb2 Tryz.underlying24 rfl HINF2.out ?_) | (refine wpList_store_box rfl 24 (.tmp 13) (.tmp 88) rfl wm.heap.size cs2 rfl (by simp [Act.eval, Act.put]) 24 _ (Box.new wm _ _) HINF2.out H42.out HONE2.out ?_; intro wn hx hu hz; have HZ := hid hz; clear hz))
        have HB : Hid (Below wm.heap.size wm wn) := hid ((below1 wm _).trans (hu.own (Nat.le_refl _) (by simp)))
        have EBW := hid hx
        clear hx hu eb2
        refine wp_region_held_drew (S := fun w' => Box w' fb 9 CS ∧ MapF intRdr w' mb 9 rkF) (by kernel_rfl) ⟨(FB.out.below HB.out FB.out.lt).drew, (HM.out.below HB.out).below (Below.refl _ wn).drew⟩ (fun hHeld => ?_)
        obtain ⟨wd, hwd⟩ : ∃ wd, wn.drew = wd := ⟨_, rfl⟩
        have hb : Below wn.heap.size wn wd := hwd ▸ (Below.refl _ wn).drew
        (try rw [hwd] at hHeld)
        (try rw [hwd])
        clear hwd hHeld
        replace EBW := bl EBW hb
        replace HB := hid (HB.out.trans (hb.mono HB.out.size))
        clear hb
        refine tH (i := 0) (v := ?_) rfl ?_ ⟨FB.out.below HB.out FB.out.lt, HM.out.below HB.out⟩ ?_
        rotate_left
        ·intro w hSw
         go_simp
         try (with_reducible rfl)
        (try simp only [Act.put, sq])
        refine tH (i := 1) (v := ?_) rfl ?_ ⟨FB.out.below HB.out FB.out.lt, HM.out.below HB.out⟩ ?_
        rotate_left
        ·intro w hSw
         go_simp
         try (with_reducible rfl)
        (try simp only [Act.put, sq])
        refine tH (i := 2) (v := ?_) rfl ?_ ⟨FB.out.below HB.out FB.out.lt, HM.out.below HB.out⟩ ?_
        rotate_left
        ·intro w hSw
         go_simp
         try (with_reducible rfl)
        (try simp only [Act.put, sq])
        refine tH (i := 3) (v := (.pointer (some ⟨fb, p, none⟩))) rfl ?_ ⟨FB.out.below HB.out FB.out.lt, HM.out.below HB.out⟩ ?_
        ·intro w hSw
         go_simp
         try (intro h; exfalso; omega)
        (try simp only [Act.put, sq])
        refine tH (i := 4) (v := (.string SA)) rfl ?_ ⟨FB.out.below HB.out FB.out.lt, HM.out.below HB.out⟩ ?_
        ·intro w hSw
         have c := hSw.1.cell p
         rw [HCA.out] at c
         go_simp
        (try simp only [Act.put, sq])
        refine tH (i := 5) (v := (.int .i64 (Pars.rk (Pars.sgn p) : Int))) rfl ?_ ⟨FB.out.below HB.out FB.out.lt, HM.out.below HB.out⟩ ?_
        ·intro w hSw
         have hl := hSw.2.look Tryz.underlying44 (zero_int w) (Pars.sgn p) (by have := sgn_len p hp9; unfold maxLen; omega)
         rw [hSA, rkF_sgn p hp9] at hl
         simp only [intRdr] at hl
         simp [execOp, Act.eval, Act.put, hl, Result.andThen, Sem.run_bind]
        (try simp only [Act.put, sq])
        refine tH (i := 6) (v := ?_) rfl ?_ ⟨FB.out.below HB.out FB.out.lt, HM.out.below HB.out⟩ ?_
        rotate_left
        ·intro w hSw
         go_simp
         try (with_reducible rfl)
        (try simp only [Act.put, sq])
        refine tH (i := 7) (v := ?_) rfl ?_ ⟨FB.out.below HB.out FB.out.lt, HM.out.below HB.out⟩ ?_
        rotate_left
        ·intro w hSw
         go_simp
         try (with_reducible rfl)
        (try simp only [Act.put, sq])
        refine tH (i := 8) (v := ?_) rfl ?_ ⟨FB.out.below HB.out FB.out.lt, HM.out.below HB.out⟩ ?_
        rotate_left
        ·intro w hSw
         go_simp
         try (with_reducible rfl)
        (try simp only [Act.put, sq])
        refine tH (i := 9) (v := (.pointer (some ⟨fb, q, none⟩))) rfl ?_ ⟨FB.out.below HB.out FB.out.lt, HM.out.below HB.out⟩ ?_
        ·intro w hSw
         go_simp
         try (intro h; exfalso; omega)
        (try simp only [Act.put, sq])
        refine tH (i := 10) (v := (.string SB)) rfl ?_ ⟨FB.out.below HB.out FB.out.lt, HM.out.below HB.out⟩ ?_
        ·intro w hSw
         have c := hSw.1.cell q
         rw [HCB.out] at c
         go_simp
        (try simp only [Act.put, sq])
        refine tH (i := 11) (v := (.int .i64 (Pars.rk (Pars.sgn q) : Int))) rfl ?_ ⟨FB.out.below HB.out FB.out.lt, HM.out.below HB.out⟩ ?_
        ·intro w hSw
         have hl := hSw.2.look Tryz.underlying44 (zero_int w) (Pars.sgn q) (by have := sgn_len q hq9; unfold maxLen; omega)
         rw [hSB, rkF_sgn q hq9] at hl
         simp only [intRdr] at hl
         simp [execOp, Act.eval, Act.put, hl, Result.andThen, Sem.run_bind]
        (try simp only [Act.put, sq])
        refine tH (i := 12) (v := ?_) rfl ?_ ⟨FB.out.below HB.out FB.out.lt, HM.out.below HB.out⟩ ?_
        rotate_left
        ·intro w hSw
         go_simp
         try (with_reducible rfl)
        (try simp only [Act.put, sq])
        refine wpAnyH_done (by kernel_rfl) ?_ _
        obtain ⟨rp, hrp⟩ : ∃ x, Pars.rk (Pars.sgn p) = x := ⟨_, rfl⟩
        obtain ⟨rq, hrq⟩ : ∃ x, Pars.rk (Pars.sgn q) = x := ⟨_, rfl⟩
        rw [hrp, hrq] at HL1 HL2 ⊢
        clear hrp hrq
        by_cases hr : rq ≤ rp
        ·have d7 : decide ((rq : Int) ≤ (rp : Int)) = true := decide_eq_true (by omega)
         have d8 : decide ((rp : Int) ≥ (rq : Int)) = true := decide_eq_true (by omega)
         have d9 : (rq : Int) ≤ (rp : Int) := by omega
         have eb1 := EB1.out.below HB.out EB1.out.lt
         go_upto_region 11 with (first | (refine wpList_load_row rfl 24 (.tmp 8) rfl nb1 rfl _ cs1 (0, 0) _ eb1 Tryz.underlying24 rfl HINF1.out ?_) | (refine wpList_store_box rfl 24 (.tmp 13) (.tmp 102) rfl wm.heap.size cs1 rfl (by simp [Act.eval, Act.put]) 24 _ EBW.out HINF1.out (H42.out.symm.trans H41.out) HONE1.out ?_; intro wx hx hu hz; have HZ2 := hid hz; clear hz))
         replace EBW := hid hx
         replace HB := hid (HB.out.trans (hu.own (Nat.le_refl _) HB.out.size))
         clear hx hu eb1 d7 d8 d9
         have HSM := hid (HL1.out hr)
         have hzb := HB.out.size
         go_wp2_with fail
         refine (ok3_any _).mono ?_
         rintro e wo ⟨rfl, hb⟩
         replace EBW := bl EBW hb
         replace HB := hid (HB.out.trans (hb.mono HB.out.size))
         clear hb hzb
         have eb0 := EB0.out.below HB.out EB0.out.lt
         have ebw := EBW.out
         go_wp2_with (first | (refine wpList_load_row_g (by kernel_rfl) 24 (.tmp 6) rfl nb0 rfl _ cs0 _ eb0 Tryz.underlying24 rfl HINF0.out ?_) | (refine wpList_load_row_g (by kernel_rfl) 24 (.tmp 13) rfl wm.heap.size rfl _ cs1 _ ebw Tryz.underlying24 rfl HINF1.out ?_))
         refine (same_any (pc_size HPC0.out) (HN0.out.below HB.out) (HN1.out.below HB.out)).mono ?_
         rintro e wp ⟨rfl, hb⟩
         rw [HSM.out]
         replace HB := hid (HB.out.trans (hb.mono HB.out.size))
         clear hb eb0 ebw
         go_wp2
         go_ret
         exact ⟨rfl, HU.out.trans (HB.out.mono HU.out.size)⟩
        ·have d7 : decide ((rq : Int) ≤ (rp : Int)) = false := decide_eq_false (by omega)
         have d8 : decide ((rp : Int) ≥ (rq : Int)) = false := decide_eq_false (by omega)
         have d9 : ¬ (rq : Int) ≤ (rp : Int) := by omega
         have HSM := hid (HL2.out hr)
         have hzb := HB.out.size
         go_wp2_with fail
         refine (ok3_any _).mono ?_
         rintro e wo ⟨rfl, hb⟩
         replace EBW := bl EBW hb
         replace HB := hid (HB.out.trans (hb.mono HB.out.size))
         clear hb hzb
         have eb0 := EB0.out.below HB.out EB0.out.lt
         have ebw := EBW.out
         go_wp2_with (first | (refine wpList_load_row_g (by kernel_rfl) 24 (.tmp 6) rfl nb0 rfl _ cs0 _ eb0 Tryz.underlying24 rfl HINF0.out ?_) | (refine wpList_load_row_g (by kernel_rfl) 24 (.tmp 13) rfl wm.heap.size rfl _ cs2 _ ebw Tryz.underlying24 rfl HINF2.out ?_))
         refine (same_any (pc_size HPC0.out) (HN0.out.below HB.out) (HN2.out.below HB.out)).mono ?_
         rintro e wp ⟨rfl, hb⟩
         rw [HSM.out]
         replace HB := hid (HB.out.trans (hb.mono HB.out.size))
         clear hb eb0 ebw
         go_wp2
         go_ret
         exact ⟨rfl, HU.out.trans (HB.out.mono HU.out.size)⟩
end Go.Proofs.YtonjdlialejedaaGreatDoor
