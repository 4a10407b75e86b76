/-
  Send: walked. Conditions: the nodes and the listeners read as rows; the listeners' numbers are of 64 bits.
-/
import Derived.Test.YtdommcjlpibpeaaDoorEvS
import Derived.Test.YtdommcjlpibpeaaDoorEvQ
namespace Go.Proofs.YtdommcjlpibpeaaDoor
set_option linter.unusedSimpArgs false
set_option linter.unusedVariables false
open Go.RowKit Go.Maps

/-- what a sending tells: two rows of its own, and two more. -/
def SendOut (w : World) (r : List Evy.Hrd × Bool × List Evy.Lis × Nat) (en : Ending) (w' : World) : Prop :=
  ∃ H L, en = .returned (.tuple #[H, .bool r.2.1, L, .int .i64 (r.2.2.2 : Int)]) ∧ w'.ownsRow w.heap.size 46 3 H r.1.length (flat hc r.1) ∧ w'.ownsRow w.heap.size 43 8 L r.2.2.1.length (flat lc r.2.2.1) ∧ Below w.heap.size w w'
theorem ups_len {p : List Int} {L : Nat} {b : Bool} : ∀ k : Nat, (Evy.ups p L b k).length ≤ k + 1
  | 0 => by rw [Evy.ups]; split <;> simp
  | k + 1 => by rw [Evy.ups]; split; (have := ups_len (p := p) (L := L) (b := b) k; simp; omega); simp
theorem steps_len (p : List Int) (b : Bool) : (Evy.steps p b).length ≤ 2 * p.length := by
  unfold Evy.steps
  split
  · simp
  · next h =>
    have h0 : 0 < p.length := by cases p; exact absurd rfl h; simp
    rw [List.length_append, downs_len]
    have := ups_len (p := p) (L := p.length - 1) (b := b) (p.length - 1)
    omega
theorem goes_step {e : Evy.Ev} {l : List Evy.Lis} {ss : List Evy.Stp} {s : Evy.St} {k : Nat} {a : Evy.Stp} (h : ss[k]? = some a) : (ss.take (k + 1)).foldl (Evy.goes e l) s = Evy.goes e l ((ss.take k).foldl (Evy.goes e l) s) a := by
  rw [List.take_add_one, h, List.foldl_append]; rfl
theorem Rd.ints {w : World} {base e : Nat} {v : Value} {p : List Int} (h : w.ownsRow base e 1 v p.length (ints p)) : RdL w 1 ic p v := by
  have := Rd.own h
  rwa [← flat_ints] at this
set_option maxRecDepth 100000 in
set_option maxHeartbeats 4000000 in
theorem send_any (d : List NodeV) (v : Value) (q : Bool) (l : List Evy.Lis) (u : Value) (e : Evy.Ev) (w : World) (hd : DRd w d v) (hl : RdL w 8 lc l u) (hw : Wfs l) :
    Calls Tryd.prog 11 #[.agg (dag v q), u, .agg (ec e)] w fun en w' => SendOut w (Evy.send (nods d) l e) en w' := by
  have HL := Lib.hid hl
  have HWF := Lib.hid hw
  have HAS : Hid (∀ w', Below w.heap.size w w' → Calls Tryd.prog 26 #[.agg (dag v q), u, .agg (ec e)] w' fun en w'' => PathOut w' (Evy.asked (nods d) l e) en w'') := fun w' h => asked_any d v q l u e w' (hd.below h) (hl.below h) hw
  obtain ⟨p, er, hpe⟩ : ∃ p er, Evy.asked (nods d) l e = (p, er) := ⟨_, _, rfl⟩
  rw [hpe] at HAS
  have HPE := Lib.hid hpe
  obtain ⟨A, cap, rfl, hc1, hc2, -⟩ := hl
  clear hd hw hpe
  go_enter Tryd.func11, Tryd.ntmps11
  go_upto_region 1 with (fail)
  refine gen_world (F := fun W => Box W w.heap.size 24 (dag v q) ∧ Box W (w.heap.size + 1) 37 (ec e) ∧ Below w.heap.size w W) ⟨(Box.new w _ _).alloc _, new2 w _ _ _, (below1 w _).alloc (by simp) _⟩ ?_
  rintro W0 ⟨bd, be, hU0⟩
  have hz0 := hU0.size
  have hzd := bd.lt
  have hze := be.lt
  go_wp2_with (first | (refine wpList_load_row rfl 24 (.tmp 3) rfl w.heap.size rfl _ (dag v q) (0, 0) _ bd Tryd.underlying24 rfl info_doc ?_) | (refine wpList_load_row rfl 37 (.tmp 5) rfl (w.heap.size + 1) rfl _ (ec e) (0, 0) _ be Tryd.underlying37 rfl info_ev ?_))
  refine (HAS.out _ hU0).mono ?_
  rintro en W ⟨pv, rfl, hown, hbW⟩
  have HU := Lib.hid (hU0.trans (hbW.mono hz0))
  have HPV := Lib.hid hown
  have be1 := be.below hbW hze
  have hzW := hbW.size
  clear HAS hU0 hown hbW bd be
  by_cases y : er = 0
  · subst y
    have g1 : (((0 : Nat) : Int) != 0) = false := by simp
    have ha := Evy.ask_of HPE.out
    have hfew : l.length ≤ 60 := ha.few
    have hpl0 : 0 < p.length := ha.pa.pos
    have hpl1 : p.length ≤ 201 := ha.pa.len
    have HS : Hid (Evy.send (nods d) l e = ((Evy.sent (nods d) l e).heard, (Evy.sent (nods d) l e).no, l.filter (fun x => !(Evy.sent (nods d) l e).gone.contains x.id), 0)) := Evy.send_of HPE.out
    have HST : Hid (Evy.sent (nods d) l e = (Evy.steps p e.bubbles).foldl (Evy.goes e l) Evy.st0) := by show _ = _; unfold Evy.sent; rw [HPE.out]
    have HSTP : Hid (∀ w', Below W.heap.size W w' → Calls Tryd.prog 27 #[pv, .bool e.bubbles] w' fun e' w'' => OwnOut w' 66 3 (Evy.steps p e.bubbles).length (flat sc (Evy.steps p e.bubbles)) e' w'') := fun w' h => steps_any p pv e.bubbles w' ((Rd.ints HPV.out).below h) hpl0 (by omega)
    clear ha
    have hmm := @run_makeMap Tryd.prog
    have HMO : Hid ((W.alloc (.map #[] 0)).ownsMap Tryd.prog 3 (plainElem (H := Unit) Tryd.prog 3) W.heap.size 0 (Seeny.seen [])) := by
      have hmo := World.ownsMap_made (H := Unit) W Tryd.prog 3 (plainElem Tryd.prog 3)
      show World.ownsMap _ _ _ _ _ _ _
      simpa [Seeny.seen, setOf] using hmo
    go_upto_region 5 with (refine wpList_load_row rfl 37 (.tmp 5) rfl (w.heap.size + 1) rfl _ (ec e) (0, 0) _ be1 Tryd.underlying37 rfl info_ev ?_)
    refine gen_world (F := fun W3 => Box W3 (W.heap.size + 1) 62 (sg (.slice A l.length cap) e (.slice none 0 0) W.heap.size Evy.st0) ∧ Box W3 (W.heap.size + 2) 60 #[.pointer (some ⟨W.heap.size + 1, 0, none⟩)] ∧ W3.ownsMap Tryd.prog 3 (plainElem (H := Unit) Tryd.prog 3) W.heap.size 0 (Seeny.seen []) ∧ Box W3 (w.heap.size + 1) 37 (ec e) ∧ Below W.heap.size W W3 ∧ W3.heap.size = W.heap.size + 3) ⟨(new2 W _ _ _).alloc _, new3 W _ _ _ _, map_kept (row := none) HMO.out ⟨rfl, rfl, rfl, by simp <;> omega, fun i hi _ => ((below1 (W.alloc (.map #[] 0)) _).alloc (by simp) _).block i hi⟩ (by simp), ((be1.alloc _).alloc _).alloc _, ((below1 W _).alloc (by simp) _).alloc (by simp <;> omega) _, by simp⟩ ?_
    rintro W3 ⟨bs, bc, hm0, be3, hU3, hz3⟩
    have HU3 := Lib.hid (HU.out.trans (hU3.mono HU.out.size))
    have HB3 := Lib.hid hU3
    have ee5 := be3.cell 5
    simp at ee5
    have HSS3 : Hid (SS W3 (W.heap.size + 3) (W.heap.size + 1) W.heap.size (.slice A l.length cap) e Evy.st0 0 (.slice none 0 0)) := ⟨bs, World.ownsRow_nil _ _ _ _, hm0, by omega, by omega, by omega⟩
    have HBC := Lib.hid bc
    have hzb := bs.lt
    have hzc := bc.lt
    clear HMO hm0 bs bc be3 be1 hU3 hmm
    go_wp2_with (fail)
    refine (HSTP.out _ HB3.out).mono ?_
    rintro en W5 ⟨sv, rfl, hown5, hb5⟩
    have hsl := steps_len p e.bubbles
    obtain ⟨ss, hss⟩ : ∃ ss, Evy.steps p e.bubbles = ss := ⟨_, rfl⟩
    rw [hss] at hown5 hsl HST
    have HO5 := Lib.hid hown5
    obtain ⟨A5, cap5, rfl⟩ := own_slice hown5
    have hz5 := hb5.size
    have HSS5 := Lib.hid (HSS3.out.below hb5)
    have HBC5 := Lib.hid (HBC.out.below hb5 HBC.out.lt)
    have HU5 := Lib.hid (HU3.out.trans (hb5.mono HU3.out.size))
    have hzw := HU.out.size
    have HRS := Lib.hid (Rd.own hown5)
    clear hown5 hss HSTP hb5 HSS3 HBC
    go_upto_region 6 with (fail)
    go_loopg [36] ss.length (fun gg s36 wr => ∃ (j kk : Nat) (s' : Evy.St) (H' : Value), j ≤ ss.length ∧ ss.length - j ≤ gg ∧ s36 = .int .i64 (j : Int) ∧ kk ≤ 60 * j ∧ Hid (s'.heard.length ≤ 60 * j) ∧ Hid (s' = (ss.take j).foldl (Evy.goes e l) Evy.st0) ∧ Hid (SS wr (W.heap.size + 3) (W.heap.size + 1) W.heap.size (.slice A l.length cap) e s' kk H') ∧ Hid (Kp W5 wr (fun i => i = W.heap.size + 1 ∨ i = W.heap.size)) ∧ Hid (∀ i, H'.ownBlock = some i → W5.heap.size ≤ i))
    case atStart => exact ⟨0, 0, Evy.st0, .slice none 0 0, Nat.zero_le _, by omega, rfl, by omega, by show _ ≤ _; simp [Evy.st0], rfl, HSS5.out, Kp.refl _ _, fun i hi => by simp [Value.ownBlock] at hi⟩
    case round =>
      obtain ⟨j, kk, s', H', hj, hg, rfl, hkk, HLN, HE, HSS, HKP, HOB⟩ := hrel
      have hzr := HKP.out.size
      have hwr : Hid (Below w.heap.size w wr) := HU5.out.trans (HKP.out.below (B := w.heap.size) (by rintro i (h | h) <;> omega) (by omega))
      by_cases hlt : j < ss.length
      · have hlt2 : decide ((j : Int) < (ss.length : Int)) = true := by simp; omega
        have hltz : (j : Int) < (ss.length : Int) := by omega
        obtain ⟨a, ha⟩ : ∃ a, ss[j]? = some a := ⟨_, List.getElem?_eq_getElem hlt⟩
        obtain ⟨A6, cap6, e0, _, _, hrg0⟩ := HRS.out
        injection e0 with e0 _ e1
        subst e0
        subst e1
        obtain ⟨g0, o, rfl, hg0, hrg⟩ := hrg0 (by omega)
        have hgb : W3.heap.size ≤ g0 := (HO5.out.lt g0 rfl).1
        have hrange : Hid (wr.rangeAt g0 (o + j * 3) (sc a).toList) := fun i u hu => by
          have := RdL.elem (k := 3) (f := sc) (fun _ => rfl) hrg ha i u hu
          have hblk := HKP.out.block g0 hg0 (by rintro (h | h) <;> omega)
          rw [← this]
          simp only [World.cell?, hblk]
        have hst := Lib.hid (goes_step (e := e) (l := l) (s := Evy.st0) ha)
        rw [← HE.out] at hst
        clear hrg hrg0 ha
        go_upto_region 8 with (first | (refine wpList_load_mid rfl 66 (.tmp 38) rfl g0 (o + j * 3) rfl (sc a).toList _ hrange.out Tryd.underlying66 rfl info_stp ?_) | (refine wpList_store_box rfl 66 (.tmp 14) (.tmp 39) rfl wr.heap.size (sc a) rfl rfl 66 _ (Box.new wr _ _) info_stp rfl (sc_one a) ?_; intro w6 hx6 hu6 hz6))
        have hb6 : Below wr.heap.size wr w6 := ((Below.refl _ wr).alloc (Nat.le_refl _) _).trans (hu6.own (Nat.le_refl _) (by simp))
        have hS6 := Lib.hid (HSS.out.below hb6)
        have hK6 : Hid (Kp W5 w6 (fun i => i = W.heap.size + 1 ∨ i = W.heap.size)) := HKP.out.trans (m2 := fun _ => False) (Kp.of_below hb6) (fun _ h => h.elim)
        have hwr6 := Lib.hid (hwr.out.trans (hb6.mono hwr.out.size))
        have hz66 := hb6.size
        have HX6 := Lib.hid hx6
        have hbc6 := hK6.out.box HBC5.out (by rintro (h | h) <;> omega)
        obtain ⟨heard, gone, st, al, no⟩ := s'
        have k0 := hbc6.cell 0
        have c10 := hS6.out.box.cell 10
        have c11 := hS6.out.box.cell 11
        simp at k0 c10 c11
        clear hb6 hu6 hx6 HSS HKP hbc6 ee5 hrange
        cases st with
        | true =>
            have HN : Hid (((ss.take (j + 1)).foldl (Evy.goes e l) Evy.st0) = ⟨heard, gone, true, al, no⟩) := by show _ = _; rw [hst.out]; unfold Evy.goes; rw [if_neg]; simp
            go_wp2
            go_roundg (ss.length - (j + 1))
            case measure => omega
            case rel => exact ⟨j + 1, kk, _, H', by omega, by omega, by go_num, by omega, Nat.le_trans HLN.out (by omega), HN.out.symm, hS6.out, hK6.out, HOB.out⟩
        | false =>
          cases al with
          | true =>
            have HN : Hid (((ss.take (j + 1)).foldl (Evy.goes e l) Evy.st0) = ⟨heard, gone, false, true, no⟩) := by show _ = _; rw [hst.out]; unfold Evy.goes; rw [if_neg]; simp
            go_wp2
            go_roundg (ss.length - (j + 1))
            case measure => omega
            case rel => exact ⟨j + 1, kk, _, H', by omega, by omega, by go_num, by omega, Nat.le_trans HLN.out (by omega), HN.out.symm, hS6.out, hK6.out, HOB.out⟩
          | false =>
            have HN : Hid (((ss.take (j + 1)).foldl (Evy.goes e l) Evy.st0) = Evy.doAll e l ⟨heard, gone, false, false, no⟩ a) := by show _ = _; rw [hst.out]; unfold Evy.goes; rw [if_pos]; rfl
            have hln := HLN.out
            have hal := all_len (e := e) (a := a) l ⟨heard, gone, false, false, no⟩
            have HAL := Lib.hid hal
            have HDO : Hid (Calls Tryd.prog 28 #[.pointer (some ⟨W.heap.size + 1, 0, none⟩), .agg (sc a)] w6 fun en w' => en = .returned (.tuple #[]) ∧ SSOut w6 (W.heap.size + 3) (W.heap.size + 1) W.heap.size (.slice A l.length cap) e (Evy.doAll e l ⟨heard, gone, false, false, no⟩ a) (kk + l.length) H' w') :=
              do_any W.heap.size _ _ _ kk _ H' e _ l a w6 hS6.out (by omega) ⟨by omega, by omega, by omega⟩ (fun w' h => HL.out.below (hwr6.out.trans (h.mono hzw))) HWF.out (by omega) (by simp at hln ⊢; omega)
            clear hal hln
            go_wp2_with (refine wpList_load_row rfl 66 (.tmp 14) rfl wr.heap.size rfl _ (sc a) (0, 0) _ HX6.out Tryd.underlying66 rfl info_stp ?_)
            refine (HDO.out).mono ?_
            rintro en w8 ⟨rfl, H2, k2, hS8, hk8, hkp8, hob8⟩
            have hS8' := Lib.hid hS8
            have hkp8' : Hid (Kp W5 w8 (fun i => i = W.heap.size + 1 ∨ i = W.heap.size)) := hK6.out.trans hkp8 (by
              rintro i (h | h | h)
              · exact .inl (.inl h)
              · exact .inl (.inr h)
              · exact .inr (HOB.out i h))
            have hob8' : Hid (∀ i, H2.ownBlock = some i → W5.heap.size ≤ i) := fun i h => (hob8 i h).elim (HOB.out i) (fun h => by omega)
            clear hS8 hkp8 hob8
            go_wp2
            go_roundg (ss.length - (j + 1))
            case measure => omega
            case rel => exact ⟨j + 1, k2, _, H2, by omega, by omega, by go_num, by omega, by have h1 : heard.length ≤ 60 * j := HLN.out; have h2 : (Evy.doAll e l ⟨heard, gone, false, false, no⟩ a).heard.length ≤ heard.length + l.length := HAL.out; show (Evy.doAll e l _ a).heard.length ≤ _; omega, HN.out.symm, hS8'.out, hkp8'.out, hob8'.out⟩
      · have hlt2 : decide ((j : Int) < (ss.length : Int)) = false := by simp; omega
        have hja : ss.take j = ss := List.take_of_length_le (by omega)
        have HE2 := HE.out
        rw [hja, ← HST.out] at HE2
        have HE3 := Lib.hid HE2
        obtain ⟨wi, rfl⟩ : ∃ wi : World, wi = wr := ⟨_, rfl⟩
        have HSSi := Lib.hid HSS.out
        have HBCi := Lib.hid (HKP.out.box HBC5.out (by rintro (h | h) <;> omega))
        have HCL := Lib.hid (clone_lis l _ wi (HL.out.below hwr.out) (by omega))
        obtain ⟨heard, gone, st, al, no⟩ := s'
        clear hja HE HE2 hlt2 HSS HKP HRS HO5 ee5
        go_wp2_with (fail)
        refine (HCL.out).mono ?_
        rintro en w7 ⟨v7, rfl, hown7, hb7⟩
        have hS7 := Lib.hid (HSSi.out.below hb7)
        have HBC7 := Lib.hid (HBCi.out.below hb7 HBCi.out.lt)
        have hzi := HBCi.out.lt
        have hbi := HSSi.out.box.lt
        have hmi : W.heap.size < wi.heap.size := by omega
        have hz7 := hb7.size
        have hw7 := Lib.hid (hwr.out.trans (hb7.mono hwr.out.size))
        have hv7 := hown7.lt
        have HDF := Lib.hid (delfunc_lis l (fun x => gone.contains x.id) 30 #[.pointer (some ⟨W.heap.size + 2, 0, none⟩)] wi.heap.size v7 w7 egS hown7 (by omega)
          (fun x hx w1 hg => by
            have hb := hS7.out.box.grown hg (by intro h; have := (hv7 _ h.symm).1; omega)
            have hc := HBC7.out.grown hg (by intro h; have := (hv7 _ h.symm).1; omega)
            have hm := map_kept hS7.out.map hg (by intro h; have := (hv7 _ h.symm).1; omega)
            exact gone_any x (W.heap.size + 2) (W.heap.size + 1) W.heap.size kk gone w1 (hc.cell 0) (hb.cell 9) hm (HWF.out x hx)))
        clear hown7 hb7 HCL
        have HV7 := Lib.hid hv7
        clear hv7
        go_wp2_with (fail)
        refine (HDF.out).mono ?_
        rintro en w8 ⟨v8, rfl, hown8, hob8, hg8⟩
        have hb8 : Below wi.heap.size w7 w8 := below_grown hg8 hz7 (fun k hk => (HV7.out k hk).1)
        have HB8 := Lib.hid (hw7.out.trans (hb8.mono hwr.out.size))
        have bx := hS7.out.box.below hb8 hbi
        have HC8 := Lib.hid (HBC7.out.below hb8 hzi)
        have hH8 : Hid (w8.ownsRow w.heap.size 46 3 H' heard.length (flat hc heard)) := by
          refine own_base (own_grown hS7.out.own hg8 ?_) (show w.heap.size ≤ W.heap.size + 3 by omega)
          cases hH : H'.ownBlock with
          | none => exact .inl rfl
          | some g => exact .inr (fun h => by have h1 := (HSSi.out.own.lt g hH).2; have h2 := (HV7.out g (by rw [← h])).1; omega)
        have hL8 := Lib.hid (own_base hown8 (show w.heap.size ≤ wi.heap.size from hwr.out.size))
        have k0 := HC8.out.cell 0
        have c8 := bx.cell 8
        have c12 := bx.cell 12
        simp at k0 c8 c12
        clear hown8 hg8 hob8 bx HDF HPV
        go_upto_region 12 with (fail)
        refine wp_region_held_drew (S := fun w' => w'.cell? ⟨W.heap.size + 2, 0, none⟩ = some (.pointer (some ⟨W.heap.size + 1, 0, none⟩)) ∧ w'.cell? ⟨W.heap.size + 1, 8, none⟩ = some H' ∧ w'.cell? ⟨W.heap.size + 1, 12, none⟩ = some (.bool no)) (by kernel_rfl) ⟨k0, c8, c12⟩ (fun hHeld => ?_)
        refine wpAnyH_take (i := 0) (v := ?_) rfl (by kernel_rfl) (by kernel_rfl) (by kernel_rfl) (fun _ _ _ h => h) (Or.inl ⟨by kernel_rfl, ?_⟩) (by assumption) ?_
        rotate_left
        · intro w hSw
          (try dsimp only at hSw)
          go_simp
          try (with_reducible rfl)
        (try simp only [Act.put, List.getElem_toArray, List.getElem_cons_zero, List.setIfInBounds_toArray, List.set_cons_zero, List.set_cons_succ])
        refine wpAnyH_take (i := 1) (v := ?_) rfl (by kernel_rfl) (by kernel_rfl) (by kernel_rfl) (fun _ _ _ h => h) (Or.inl ⟨by kernel_rfl, ?_⟩) (by assumption) ?_
        rotate_left
        · intro w hSw
          (try dsimp only at hSw)
          go_simp
          try (with_reducible rfl)
        (try simp only [Act.put, List.getElem_toArray, List.getElem_cons_succ, List.getElem_cons_zero, List.setIfInBounds_toArray, List.set_cons_zero, List.set_cons_succ])
        refine wpAnyH_take (i := 2) (v := ?_) rfl (by kernel_rfl) (by kernel_rfl) (by kernel_rfl) (fun _ _ _ h => h) (Or.inl ⟨by kernel_rfl, ?_⟩) (by assumption) ?_
        rotate_left
        · intro w hSw
          (try dsimp only at hSw)
          go_simp
          try (with_reducible rfl)
        (try simp only [Act.put, List.getElem_toArray, List.getElem_cons_succ, List.getElem_cons_zero, List.setIfInBounds_toArray, List.set_cons_zero, List.set_cons_succ])
        refine wpAnyH_take (i := 3) (v := ?_) rfl (by kernel_rfl) (by kernel_rfl) (by kernel_rfl) (fun _ _ _ h => h) (Or.inl ⟨by kernel_rfl, ?_⟩) (by assumption) ?_
        rotate_left
        · intro w hSw
          (try dsimp only at hSw)
          go_simp
          try (with_reducible rfl)
        (try simp only [Act.put, List.getElem_toArray, List.getElem_cons_succ, List.getElem_cons_zero, List.setIfInBounds_toArray, List.set_cons_zero, List.set_cons_succ])
        refine wpAnyH_take (i := 4) (v := ?_) rfl (by kernel_rfl) (by kernel_rfl) (by kernel_rfl) (fun _ _ _ h => h) (Or.inl ⟨by kernel_rfl, ?_⟩) (by assumption) ?_
        rotate_left
        · intro w hSw
          (try dsimp only at hSw)
          go_simp
          try (with_reducible rfl)
        (try simp only [Act.put, List.getElem_toArray, List.getElem_cons_succ, List.getElem_cons_zero, List.setIfInBounds_toArray, List.set_cons_zero, List.set_cons_succ])
        refine wpAnyH_take (i := 5) (v := ?_) rfl (by kernel_rfl) (by kernel_rfl) (by kernel_rfl) (fun _ _ _ h => h) (Or.inl ⟨by kernel_rfl, ?_⟩) (by assumption) ?_
        rotate_left
        · intro w hSw
          (try dsimp only at hSw)
          go_simp
          try (with_reducible rfl)
        (try simp only [Act.put, List.getElem_toArray, List.getElem_cons_succ, List.getElem_cons_zero, List.setIfInBounds_toArray, List.set_cons_zero, List.set_cons_succ])
        refine wpAnyH_take (i := 6) (v := ?_) rfl (by kernel_rfl) (by kernel_rfl) (by kernel_rfl) (fun _ _ _ h => h) (Or.inl ⟨by kernel_rfl, ?_⟩) (by assumption) ?_
        rotate_left
        · intro w hSw
          (try dsimp only at hSw)
          go_simp
          try (with_reducible rfl)
        (try simp only [Act.put, List.getElem_toArray, List.getElem_cons_succ, List.getElem_cons_zero, List.setIfInBounds_toArray, List.set_cons_zero, List.set_cons_succ])
        refine wpAnyH_take (i := 7) (v := ?_) rfl (by kernel_rfl) (by kernel_rfl) (by kernel_rfl) (fun _ _ _ h => h) (Or.inl ⟨by kernel_rfl, ?_⟩) (by assumption) ?_
        rotate_left
        · intro w hSw
          (try dsimp only at hSw)
          go_simp
          try (with_reducible rfl)
        (try simp only [Act.put, List.getElem_toArray, List.getElem_cons_succ, List.getElem_cons_zero, List.setIfInBounds_toArray, List.set_cons_zero, List.set_cons_succ])
        refine wpAnyH_take (i := 8) (v := ?_) rfl (by kernel_rfl) (by kernel_rfl) (by kernel_rfl) (fun _ _ _ h => h) (Or.inl ⟨by kernel_rfl, ?_⟩) (by assumption) ?_
        rotate_left
        · intro w hSw
          (try dsimp only at hSw)
          go_simp
          try (with_reducible rfl)
        (try simp only [Act.put, List.getElem_toArray, List.getElem_cons_succ, List.getElem_cons_zero, List.setIfInBounds_toArray, List.set_cons_zero, List.set_cons_succ])
        refine wpAnyH_take (i := 9) (v := ?_) rfl (by kernel_rfl) (by kernel_rfl) (by kernel_rfl) (fun _ _ _ h => h) (Or.inl ⟨by kernel_rfl, ?_⟩) (by assumption) ?_
        rotate_left
        · intro w hSw
          (try dsimp only at hSw)
          go_simp
          try (with_reducible rfl)
        (try simp only [Act.put, List.getElem_toArray, List.getElem_cons_succ, List.getElem_cons_zero, List.setIfInBounds_toArray, List.set_cons_zero, List.set_cons_succ])
        refine wpAnyH_take (i := 10) (v := ?_) rfl (by kernel_rfl) (by kernel_rfl) (by kernel_rfl) (fun _ _ _ h => h) (Or.inl ⟨by kernel_rfl, ?_⟩) (by assumption) ?_
        rotate_left
        · intro w hSw
          (try dsimp only at hSw)
          go_simp
          try (with_reducible rfl)
        (try simp only [Act.put, List.getElem_toArray, List.getElem_cons_succ, List.getElem_cons_zero, List.setIfInBounds_toArray, List.set_cons_zero, List.set_cons_succ])
        refine wpAnyH_take (i := 11) (v := ?_) rfl (by kernel_rfl) (by kernel_rfl) (by kernel_rfl) (fun _ _ _ h => h) (Or.inl ⟨by kernel_rfl, ?_⟩) (by assumption) ?_
        rotate_left
        · intro w hSw
          (try dsimp only at hSw)
          go_simp
          try (with_reducible rfl)
        (try simp only [Act.put, List.getElem_toArray, List.getElem_cons_succ, List.getElem_cons_zero, List.setIfInBounds_toArray, List.set_cons_zero, List.set_cons_succ])
        refine wpAnyH_take (i := 12) (v := ?_) rfl (by kernel_rfl) (by kernel_rfl) (by kernel_rfl) (fun _ _ _ h => h) (Or.inl ⟨by kernel_rfl, ?_⟩) (by assumption) ?_
        rotate_left
        · intro w hSw
          (try dsimp only at hSw)
          go_simp
          try (with_reducible rfl)
        (try simp only [Act.put, List.getElem_toArray, List.getElem_cons_succ, List.getElem_cons_zero, List.setIfInBounds_toArray, List.set_cons_zero, List.set_cons_succ])
        refine wpAnyH_done (by kernel_rfl) ?_ _
        go_wp2
        go_returns
        exact ⟨_, _, by rw [HS.out, ← HE3.out]; rfl, by rw [HS.out, ← HE3.out]; exact hH8.out, by rw [HS.out, ← HE3.out]; exact hL8.out, HB8.out.drew⟩
  · have g1 : ((er : Int) != 0) = true := by simp; omega
    have Y := Lib.hid y
    clear y
    have HS : Hid (Evy.send (nods d) l e = ([], false, [], er)) := by
      show _ = _
      rw [Evy.send_no (by rw [HPE.out]; exact Y.out), HPE.out]
    go_wp2
    go_returns
    exact ⟨_, _, by rw [HS.out], by rw [HS.out]; exact World.ownsRow_nil _ _ _ _, by rw [HS.out]; exact World.ownsRow_nil _ _ _ _, HU.out⟩
end Go.Proofs.YtdommcjlpibpeaaDoor
