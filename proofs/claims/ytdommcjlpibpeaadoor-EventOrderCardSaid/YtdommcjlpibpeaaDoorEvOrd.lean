/-
  EventOrder returns true. Conditions: the nodes and the listeners read as rows; the listeners' numbers are of 64 bits.
-/
import Derived.Test.YtdommcjlpibpeaaDoorEvW
import Derived.Test.YtdommcjlpibpeaaDoorEvR
namespace Go.Proofs.YtdommcjlpibpeaaDoor
set_option linter.unusedSimpArgs false
set_option linter.unusedVariables false
open Go.RowKit Go.Maps

theorem idxFrom_idx (n : Int) : ∀ (p : List Int) (i : Nat), Lib.idxFrom p n i = if idx (fun x => decide (x = n)) p < 0 then -1 else idx (fun x => decide (x = n)) p + (i : Int)
  | [], i => by simp [Lib.idxFrom, idx]
  | x :: p, i => by
    have hlo := idx_lo (fun x => decide (x = n)) p
    rw [Lib.idxFrom, idxFrom_idx n p (i + 1), idx]
    by_cases e : x = n
    · simp [e]
    · by_cases h : idx (fun x => decide (x = n)) p < 0
      · simp [e, h]
      · have h2 : ¬ idx (fun x => decide (x = n)) p + 1 < 0 := by omega
        simp only [e, h, h2, decide_false, Bool.false_eq_true, if_false]
        omega
theorem idxOf_idx (n : Int) (p : List Int) : Lib.idxOf p n = idx (fun x => decide (x = n)) p := by
  have hlo := idx_lo (fun x => decide (x = n)) p
  unfold Lib.idxOf
  rw [idxFrom_idx]
  split <;> omega
theorem who_hit {l : List Evy.Lis} {y : Evy.Hrd} {x : Evy.Lis} {k : Nat} (hk : Evy.who l y = (k : Int)) (hx : l[k]? = some x) : x.id = y.lis := by
  have h : ∀ (l : List Evy.Lis) (k : Nat) (x : Evy.Lis), idx (fun x => decide (x.id = y.lis)) l = (k : Int) → l[k]? = some x → x.id = y.lis := by
    intro l
    induction l with
    | nil => intro k x h; simp [idx] at h
    | cons z l ih =>
      intro k x h hx
      unfold idx at h
      by_cases e : z.id = y.lis
      · simp [e] at h
        have : k = 0 := by omega
        subst this
        simp at hx
        rw [← hx]; exact e
      · simp only [e, decide_false, Bool.false_eq_true, if_false] at h
        split at h
        · omega
        · obtain ⟨m, rfl⟩ : ∃ m, k = m + 1 := ⟨k - 1, by omega⟩
          exact ih m x (by omega) (by simpa using hx)
  exact h l k x hk hx
theorem getD_cell' {w w7 : World} {B g o : Nat} {p : List Int} (h : w.rangeAt g o (flat ic p)) (hb : Below B w w7) (hg : g < B) : ∀ j, j < p.length → w7.cell? ⟨g, o + j, none⟩ = some (.int .i64 (p.getD j 0)) := fun j hj => by
  obtain ⟨x, hx⟩ : ∃ x, p[j]? = some x := ⟨_, List.getElem?_eq_getElem hj⟩
  have := RdL.elem (k := 1) (f := ic) (fun _ => rfl) h hx 0 _ rfl
  simp only [Nat.mul_one, Nat.add_zero] at this
  rw [hb.cell hg, this, List.getD, hx]; rfl
/-- what one hearing tells the law. -/
structure Told (l : List Evy.Lis) (e : Evy.Ev) (p : List Int) (y : Evy.Hrd) (k i : Nat) (x : Evy.Lis) (bi : Bool) : Prop where
  who : Evy.who l y = (k : Int)
  at_ : l[k]? = some x
  node : x.node = y.node
  typ : x.typ = e.typ
  on : Evy.on p y.node = (i : Int)
  lt : i < p.length
  ph : (y.phase == 2) = bi
  last : ((i : Int) == (p.length : Int) - 1) = bi
  bub : x.capture = false → bi = false → e.bubbles = true
  place : Evy.place l p y = if x.capture then (i : Int) else 2 * (p.length : Int) - 1 - (i : Int)
theorem told_of {l : List Evy.Lis} {e : Evy.Ev} {p : List Int} {y : Evy.Hrd} (h : Evy.Good l e p y) : ∃ k i x bi, Told l e p y k i x bi := by
  obtain ⟨hk, ⟨x, hx, hn, ht, hb⟩, ha, hp⟩ := h
  obtain ⟨k, hk2⟩ : ∃ k : Nat, Evy.who l y = (k : Int) := ⟨(Evy.who l y).toNat, by omega⟩
  obtain ⟨i, hi⟩ : ∃ i : Nat, Evy.on p y.node = (i : Int) := ⟨(Evy.on p y.node).toNat, by omega⟩
  rw [hk2, Int.toNat_natCast] at hx
  rw [hi] at ha hp hb
  refine ⟨k, i, x, decide (y.phase = 2), hk2, hx, hn, ht, hi, by omega, by rw [beq_dec], by rw [beq_dec]; exact hp.symm, fun hc hbi => hb hc ?_, ?_⟩
  · rw [hbi] at hp
    have := of_decide_eq_false hp.symm
    omega
  · unfold Evy.place
    rw [hk2, Int.toNat_natCast, hx, hi]
set_option maxRecDepth 100000 in
set_option maxHeartbeats 20000000 in
theorem order_walk (d : List NodeV) (v : Value) (q : Bool) (l : List Evy.Lis) (u : Value) (e : Evy.Ev) (w : World) (hd : DRd w d v) (hl : RdL w 8 lc l u) (hw : Wfs l) :
    Calls Tryd.prog 7 #[.agg (dag v q), u, .agg (ec e)] w fun en w' => en = .returned (.bool true) ∧ Below w.heap.size w w' := by
  have HL := Lib.hid hl
  have HWF := Lib.hid hw
  have HSE : Hid (∀ w', Below w.heap.size w w' → Calls Tryd.prog 11 #[.agg (dag v q), u, .agg (ec e)] w' fun en w'' => SendOut w' (Evy.send (nods d) l e) en w'') := fun w' h => send_any d v q l u e w' (hd.below h) (hl.below h) hw
  have HPA : Hid (∀ w', Below w.heap.size w w' → Calls Tryd.prog 8 #[.agg (dag v q), .int .i64 e.target] w' fun en w'' => PathOut w' (Evy.path (nods d) e.target) en w'') := fun w' h => path_any d v q e.target w' (hd.below h)
  have HLV := Lib.hid eventLives_true
  obtain ⟨h, no, lf, er, hse⟩ : ∃ h no lf er, Evy.send (nods d) l e = (h, no, lf, er) := ⟨_, _, _, _, rfl⟩
  obtain ⟨p, ep, hpa⟩ : ∃ p ep, Evy.path (nods d) e.target = (p, ep) := ⟨_, _, rfl⟩
  rw [hse] at HSE
  rw [hpa] at HPA
  have HSN := Lib.hid hse
  have HPN := Lib.hid hpa
  obtain ⟨A, cap, rfl, hc1, hc2, -⟩ := hl
  clear hd hw hse hpa
  go_enter Tryd.func7, Tryd.ntmps7
  go_upto_region 1 with (fail)
  refine gen_world (F := fun W => Box W w.heap.size 24 (dag v q) ∧ Box W (w.heap.size + 1) 37 (ec e) ∧ Below w.heap.size w W) ⟨(Box.new w _ _).alloc _, new2 w _ _ _, (below1 w _).alloc (by simp) _⟩ ?_
  rintro W0 ⟨bd, be, hU0⟩
  have hz0 := hU0.size
  have hzd := bd.lt
  have hze := be.lt
  go_wp2_with (first | (refine wpList_load_row rfl 24 (.tmp 3) rfl w.heap.size rfl _ (dag v q) (0, 0) _ bd Tryd.underlying24 rfl info_doc ?_) | (refine wpList_load_row rfl 37 (.tmp 5) rfl (w.heap.size + 1) rfl _ (ec e) (0, 0) _ be Tryd.underlying37 rfl info_ev ?_))
  refine (HSE.out _ hU0).mono ?_
  rintro en W ⟨H, L, rfl, hH, hL, hbW⟩
  have HU := Lib.hid (hU0.trans (hbW.mono hz0))
  have HH : Hid (RdL W 3 hc h H) := Rd.own hH
  obtain ⟨A1, cap1, rfl⟩ := own_slice hH
  obtain ⟨A2, cap2, rfl⟩ := own_slice hL
  have be1 := be.below hbW hze
  have bd1 := bd.below hbW hzd
  have e1 := be1.cell 1
  simp at e1
  have hzW := hbW.size
  clear HSE hU0 hH hL hbW bd be
  simp only
  go_wp2_with (refine wpList_load_row rfl 24 (.tmp 3) rfl w.heap.size rfl _ (dag v q) (0, 0) _ bd1 Tryd.underlying24 rfl info_doc ?_)
  refine (HPA.out _ HU.out).mono ?_
  rintro en V ⟨pv, rfl, hown, hbV⟩
  have HUV := Lib.hid (HU.out.trans (hbV.mono HU.out.size))
  have HPV := Lib.hid (Rd.ints hown)
  obtain ⟨A3, cap3, rfl⟩ := own_slice hown
  have HHV := Lib.hid (HH.out.below hbV)
  have HBE := Lib.hid (be1.below hbV be1.lt)
  have hzV := hbV.size
  clear HPA hown hbV be1 bd1 e1 HH
  simp only
  go_wp2_with (fail)
  refine (HLV.out _).mono ?_
  rintro en W1 ⟨rfl, hb1⟩
  have HU1 := Lib.hid (HUV.out.trans (hb1.mono HUV.out.size))
  have HH1 := Lib.hid (HHV.out.below hb1)
  have HP1 := Lib.hid (HPV.out.below hb1)
  have HBE1 := Lib.hid (HBE.out.below hb1 HBE.out.lt)
  have hz1 := hb1.size
  clear hb1 HHV HPV HBE
  by_cases y : er = 0
  · subst y
    have g1 : (((0 : Nat) : Int) != 0) = false := by simp
    have hsn := HSN.out
    obtain ⟨p', hpe⟩ := Evy.send_zero (d := nods d) (l := l) (e := e) (by rw [hsn])
    have hpt := Evy.asked_path hpe
    rw [HPN.out] at hpt
    injection hpt with hp1 hp2
    subst hp1 hp2
    rw [Evy.send_of hpe] at hsn
    injection hsn with hs1 hsn
    have hfew : l.length ≤ 60 := (Evy.ask_of hpe).few
    have hpl0 : 0 < p.length := (Evy.ask_of hpe).pa.pos
    have hpl1 : p.length ≤ 201 := (Evy.ask_of hpe).pa.len
    have hok := Evy.sent_ok hpe
    rw [hs1] at hok
    have HG : Hid (∀ y ∈ h, Evy.Good l e p y) := hok.1
    have HPW : Hid (h.Pairwise fun v w => v.lis ≠ w.lis ∧ Evy.place l p v ≤ Evy.place l p w) := hok.2
    have HLN : Hid (h.length ≤ 1000000) := by show _ ≤ _; rw [← hs1]; exact heard_len hpe
    have hhl : h.length ≤ 1000000 := HLN.out
    clear hsn hs1 hok hpe
    obtain ⟨LL, hLL⟩ : ∃ LL, p.length = LL + 1 := ⟨p.length - 1, by omega⟩
    have hlm : (p.length : Int) - 1 = (LL : Int) := by omega
    have HLLL := Lib.hid hLL
    obtain ⟨A4, cap4, e4, hc4, hc5, hr4⟩ := HP1.out
    injection e4 with e4 _ e5
    subst e4
    subst e5
    obtain ⟨gp, op, rfl, hgp, hrp⟩ := hr4 hpl0
    have HRP := Lib.hid hrp
    have hmm := @run_makeMap Tryd.prog
    have hmo := World.ownsMap_made (H := Unit) W1 Tryd.prog 3 (plainElem Tryd.prog 3)
    have hmo' : (W1.alloc (.map #[] 0)).ownsMap Tryd.prog 3 (plainElem (H := Unit) Tryd.prog 3) W1.heap.size 0 (Seeny.seen []) := by simpa [Seeny.seen, setOf] using hmo
    have HMO := Lib.hid hmo'
    have HBEW := Lib.hid HBE1.out.lt
    have hzw := HU1.out.size
    clear hr4 hrp hmo hmo' hLL
    go_upto_region 10 with (fail)
    go_loopg [14, 53] h.length (fun gg s14 s53 wr => ∃ (j : Nat) (la : Int), j ≤ h.length ∧ h.length - j ≤ gg ∧ s14 = .int .i64 la ∧ s53 = .int .i64 (j : Int) ∧ (-1 ≤ la ∧ la ≤ 1000) ∧ W1.heap.size < wr.heap.size ∧ Hid (∀ i y, j ≤ i → h[i]? = some y → la ≤ Evy.place l p y) ∧ Hid (Below W1.heap.size W1 wr) ∧ Hid (wr.ownsMap Tryd.prog 3 (plainElem (H := Unit) Tryd.prog 3) W1.heap.size j (Seeny.seen ((h.take j).map (·.lis)))))
    case atStart =>
      refine ⟨0, -1, Nat.zero_le _, by omega, rfl, rfl, ⟨by omega, by omega⟩, by simp, ?_, below1 _ _, HMO.out⟩
      intro i y _ hy
      obtain ⟨k, i, x, bi, t⟩ := told_of (HG.out y (List.mem_of_getElem? hy))
      have hi := t.lt
      rw [t.place]; split <;> omega
    case round =>
      obtain ⟨j, la, hj, hgg, rfl, rfl, ⟨hla1, hla2⟩, hzm, HLA, BW, OM⟩ := hrel
      by_cases hlt : j < h.length
      · have hlt2 : decide ((j : Int) < (h.length : Int)) = true := decide_eq_true (by omega)
        have hltz : (j : Int) < (h.length : Int) := by omega
        obtain ⟨y, hy⟩ : ∃ y, h[j]? = some y := ⟨_, List.getElem?_eq_getElem hlt⟩
        obtain ⟨kk, ii, x, bi, T⟩ := told_of (HG.out y (List.mem_of_getElem? hy))
        have HT := Lib.hid T
        have hii : ii < p.length := T.lt
        have hkl : kk < l.length := (List.getElem?_eq_some_iff.1 T.at_).1
        have HLP : Hid (la ≤ Evy.place l p y) := HLA.out j y (Nat.le_refl _) hy
        have HNX : Hid (∀ i z, j + 1 ≤ i → h[i]? = some z → Evy.place l p y ≤ Evy.place l p z) := fun i z hi hz => by
          obtain ⟨h1, h2⟩ := List.getElem?_eq_some_iff.1 hy
          obtain ⟨h3, h4⟩ := List.getElem?_eq_some_iff.1 hz
          have := (List.pairwise_iff_getElem.1 HPW.out) j i h1 h3 (by omega)
          rw [h2, h4] at this
          exact this.2
        have HNC : Hid (((h.take j).map (·.lis)).contains y.lis = false) := by
          show _ = _
          rw [Bool.eq_false_iff]
          intro hc
          rw [List.contains_iff_mem, List.mem_map] at hc
          obtain ⟨z, hz, he⟩ := hc
          obtain ⟨i, hi⟩ := List.getElem?_of_mem hz
          have hil := (List.getElem?_eq_some_iff.1 hi).1
          rw [List.length_take] at hil
          rw [List.getElem?_take_of_lt (by omega)] at hi
          obtain ⟨h1, h2⟩ := List.getElem?_eq_some_iff.1 hy
          obtain ⟨h3, h4⟩ := List.getElem?_eq_some_iff.1 hi
          have := (List.pairwise_iff_getElem.1 HPW.out) i j h3 h1 (by omega)
          rw [h2, h4] at this
          exact this.1 he
        have htk : Hid ((h.take (j + 1)).map (·.lis) = (h.take j).map (·.lis) ++ [y.lis]) := by show _ = _; rw [List.take_add_one, hy]; simp
        have hwf : (Lit.int .i64 y.lis).wf = true := by rw [← who_hit T.who T.at_]; exact HWF.out x (List.mem_of_getElem? T.at_)
        have HWY := Lib.hid hwf
        obtain ⟨A5, cap5, e5, _, _, hr5⟩ := HH1.out.below BW.out
        injection e5 with e5 _ e6
        subst e5
        subst e6
        obtain ⟨g5, o5, rfl, hg5, hrg5⟩ := hr5 (by omega)
        have hrange : Hid (wr.rangeAt g5 (o5 + j * 3) (hc y).toList) := RdL.elem (k := 3) (f := hc) (fun _ => rfl) hrg5 hy
        have hzr := BW.out.size
        clear hr5 hrg5 hy hwf
        go_upto_region 12 with (first | (refine wpList_load_mid rfl 46 (.tmp 55) rfl g5 (o5 + j * 3) rfl (hc y).toList _ hrange.out Tryd.underlying46 rfl info_hrd ?_) | (refine wpList_store_box rfl 46 (.tmp 16) (.tmp 56) rfl wr.heap.size (hc y) rfl rfl 46 _ (Box.new wr _ _) info_hrd rfl (hc_one y) ?_; intro w6 hx6 hu6 hz6))
        have hb6 : Below wr.heap.size wr w6 := ((Below.refl _ wr).alloc (Nat.le_refl _) _).trans (hu6.own (Nat.le_refl _) (by simp))
        have BW6 := Lib.hid (BW.out.trans (hb6.mono BW.out.size))
        have OM6 : Hid (w6.ownsMap Tryd.prog 3 (plainElem (H := Unit) Tryd.prog 3) W1.heap.size j (Seeny.seen ((h.take j).map (·.lis)))) :=
          OM.out.kept (w' := w6) (row := none) ⟨hb6.os, hb6.tape, hb6.output, hb6.size, fun i hi _ => hb6.block i hi⟩ (by simp)
        have HX6 := Lib.hid hx6
        have hxlt := hx6.lt
        have hz66 := hb6.size
        have HC : Hid (Calls Tryd.prog 20 #[.slice A l.length cap, .func (.func 21) #[] #[.pointer (some ⟨wr.heap.size, 0, none⟩)]] w6 fun e w' => e = .returned (.int .i64 (Evy.who l y)) ∧ Below w6.heap.size w6 w') :=
          index_lis l (fun x => decide (x.id = y.lis)) _ _ _ w6 eg_order1 (fun z _ w1 hb => order1 z y.lis _ w1 ((hb.cell (p := ⟨wr.heap.size, 0, none⟩) hxlt).trans (hx6.cell 0))) (HL.out.below (HU1.out.trans (BW6.out.mono HU1.out.size))) (by omega)
        rw [HT.out.who] at HC
        clear hb6 hu6 hx6 hrange BW OM
        go_wp2_with (fail)
        refine (HC.out).mono ?_
        rintro en w7 ⟨rfl, hb7⟩
        have BW7 := Lib.hid (BW6.out.trans (hb7.mono BW6.out.size))
        have hz7 := hb7.size
        have HX7 := Lib.hid (HX6.out.below hb7 HX6.out.lt)
        have OM7 : Hid (w7.ownsMap Tryd.prog 3 (plainElem (H := Unit) Tryd.prog 3) W1.heap.size j (Seeny.seen ((h.take j).map (·.lis)))) :=
          OM6.out.kept (w' := w7) (row := none) ⟨hb7.os, hb7.tape, hb7.output, hb7.size, fun i hi _ => hb7.block i hi⟩ (by simp)
        have hcells := getD_cell' (HRP.out) BW7.out hgp
        have HIX := Lib.hid (Tryd.slices_Index_int gp op p.length cap3 p y.node w7 (Nat.le_refl _) (by omega) hcells)
        rw [List.take_length, idxOf_idx, show idx (fun x => decide (x = y.node)) p = (ii : Int) from HT.out.on] at HIX
        have n0 := HX7.out.cell 0
        have n1 := HX7.out.cell 1
        simp at n0 n1
        clear hb7 HC HX6 OM6 hcells
        go_wp2_with (fail)
        refine (HIX.out).mono ?_
        rintro en w8 ⟨rfl, hw8⟩
        have hw8' := hw8.symm
        subst hw8'
        clear hw8 HIX
        obtain ⟨A6, cap6, e6, _, _, hr6⟩ := (HL.out.below (HU1.out.trans (BW7.out.mono HU1.out.size)))
        injection e6 with e6 _ e7
        subst e6
        subst e7
        obtain ⟨g6, o6, rfl, hg6, hrg6⟩ := hr6 (by omega)
        have hel := RdL.elem (k := 8) (f := lc) (fun _ => rfl) hrg6 HT.out.at_
        have l1 := hel 1 _ rfl
        have l2 := hel 2 _ rfl
        have l3 := hel 3 _ rfl
        have hg6w : g6 < w.heap.size := by
          obtain ⟨_, _, e8, _, _, h8⟩ := HL.out
          obtain ⟨g9, o9, e9, h9, _⟩ := h8 (by omega)
          injection e8 with e8 _ _
          rw [e9] at e8
          injection e8 with e8
          injection e8 with e8
          rw [e8]; exact h9
        simp only [HT.out.node, HT.out.typ] at l1 l2
        have e0 := (HBE1.out.below BW7.out HBE1.out.lt).cell 0
        simp at e0
        have OM7d : Hid (w7.drew.ownsMap Tryd.prog 3 (plainElem (H := Unit) Tryd.prog 3) W1.heap.size j (Seeny.seen ((h.take j).map (·.lis)))) := OM7.out.kept (w' := w7.drew) (row := none) ⟨rfl, rfl, rfl, Nat.le_refl _, fun i _ _ => rfl⟩ (by simp)
        have hlook := look_seen OM7d.out HWY.out
        rw [HNC.out] at hlook
        simp only [Bool.false_eq_true, if_false] at hlook
        have L3 := Lib.hid l3
        have hkz : (kk : Int) < (l.length : Int) := by omega
        have dk : decide ((kk : Int) < 0) = false := decide_eq_false (by omega)
        have di : decide ((ii : Int) < 0) = false := decide_eq_false (by omega)
        have hnn : (y.node != y.node) = false := by simp
        clear hr6 hrg6 hel l3
        go_upto_region 14 with (fail)
        refine wp_region_held_drew (S := fun w' => w'.cell? ⟨wr.heap.size, 0, none⟩ = some (.int .i64 y.lis) ∧ w'.cell? ⟨wr.heap.size, 1, none⟩ = some (.int .i64 y.node) ∧ w'.cell? ⟨g6, o6 + kk * 8 + 1, none⟩ = some (.int .i64 y.node) ∧ w'.cell? ⟨g6, o6 + kk * 8 + 2, none⟩ = some (.string (byt e.typ)) ∧ w'.cell? ⟨w.heap.size + 1, 0, none⟩ = some (.string (byt e.typ)) ∧ (Instr.lookup 53 (.map (some W1.heap.size)) (.int .i64 y.lis) false).run Tryd.prog w' = .ok (.int .i64 0) w') (by kernel_rfl) ⟨n0, n1, l1, l2, e0, hlook⟩ (fun hHeld => ?_)
        refine wpAnyH_take (i := 0) (v := ?_) rfl (by kernel_rfl) (by kernel_rfl) (by kernel_rfl) (fun _ _ _ h => h) (Or.inl ⟨by kernel_rfl, ?_⟩) (by assumption) ?_
        rotate_left
        · intro w hSw
          (try dsimp only at hSw)
          go_simp
          try (with_reducible rfl)
        (try simp only [Act.put, List.getElem_toArray, List.getElem_cons_zero, List.setIfInBounds_toArray, List.set_cons_zero, List.set_cons_succ])
        refine wpAnyH_take (i := 1) (v := ?_) rfl (by kernel_rfl) (by kernel_rfl) (by kernel_rfl) (fun _ _ _ h => h) (Or.inl ⟨by kernel_rfl, ?_⟩) (by assumption) ?_
        rotate_left
        · intro w hSw
          (try dsimp only at hSw)
          go_simp
          try (with_reducible rfl)
        (try simp only [Act.put, List.getElem_toArray, List.getElem_cons_succ, List.getElem_cons_zero, List.setIfInBounds_toArray, List.set_cons_zero, List.set_cons_succ])
        refine wpAnyH_take (i := 2) (v := ?_) rfl (by kernel_rfl) (by kernel_rfl) (by kernel_rfl) (fun _ _ _ h => h) (Or.inl ⟨by kernel_rfl, ?_⟩) (by assumption) ?_
        rotate_left
        · intro w hSw
          (try dsimp only at hSw)
          go_simp
          try (with_reducible rfl)
        (try simp only [Act.put, List.getElem_toArray, List.getElem_cons_succ, List.getElem_cons_zero, List.setIfInBounds_toArray, List.set_cons_zero, List.set_cons_succ])
        refine wpAnyH_take (i := 3) (v := ?_) rfl (by kernel_rfl) (by kernel_rfl) (by kernel_rfl) (fun _ _ _ h => h) (Or.inl ⟨by kernel_rfl, ?_⟩) (by assumption) ?_
        rotate_left
        · intro w hSw
          (try dsimp only at hSw)
          go_simp
          try (with_reducible rfl)
        (try simp only [Act.put, List.getElem_toArray, List.getElem_cons_succ, List.getElem_cons_zero, List.setIfInBounds_toArray, List.set_cons_zero, List.set_cons_succ])
        refine wpAnyH_take (i := 4) (v := ?_) rfl (by kernel_rfl) (by kernel_rfl) (by kernel_rfl) (fun _ _ _ h => h) (Or.inl ⟨by kernel_rfl, ?_⟩) (by assumption) ?_
        rotate_left
        · intro w hSw
          (try dsimp only at hSw)
          go_simp
          try (with_reducible rfl)
        (try simp only [Act.put, List.getElem_toArray, List.getElem_cons_succ, List.getElem_cons_zero, List.setIfInBounds_toArray, List.set_cons_zero, List.set_cons_succ])
        refine wpAnyH_take (i := 5) (v := ?_) rfl (by kernel_rfl) (by kernel_rfl) (by kernel_rfl) (fun _ _ _ h => h) (Or.inl ⟨by kernel_rfl, ?_⟩) (by assumption) ?_
        rotate_left
        · intro w hSw
          (try dsimp only at hSw)
          go_simp
          try (with_reducible rfl)
        (try simp only [Act.put, List.getElem_toArray, List.getElem_cons_succ, List.getElem_cons_zero, List.setIfInBounds_toArray, List.set_cons_zero, List.set_cons_succ])
        refine wpAnyH_take (i := 6) (v := ?_) rfl (by kernel_rfl) (by kernel_rfl) (by kernel_rfl) (fun _ _ _ h => h) (Or.inl ⟨by kernel_rfl, ?_⟩) (by assumption) ?_
        rotate_left
        · intro w hSw
          (try dsimp only at hSw)
          go_simp
          try (with_reducible rfl)
        (try simp only [Act.put, List.getElem_toArray, List.getElem_cons_succ, List.getElem_cons_zero, List.setIfInBounds_toArray, List.set_cons_zero, List.set_cons_succ])
        refine wpAnyH_take (i := 7) (v := ?_) rfl (by kernel_rfl) (by kernel_rfl) (by kernel_rfl) (fun _ _ _ h => h) (Or.inl ⟨by kernel_rfl, ?_⟩) (by assumption) ?_
        rotate_left
        · intro w hSw
          (try dsimp only at hSw)
          go_simp
          try (with_reducible rfl)
        (try simp only [Act.put, List.getElem_toArray, List.getElem_cons_succ, List.getElem_cons_zero, List.setIfInBounds_toArray, List.set_cons_zero, List.set_cons_succ])
        refine wpAnyH_take (i := 8) (v := ?_) rfl (by kernel_rfl) (by kernel_rfl) (by kernel_rfl) (fun _ _ _ h => h) (Or.inl ⟨by kernel_rfl, ?_⟩) (by assumption) ?_
        rotate_left
        · intro w hSw
          (try dsimp only at hSw)
          go_simp
          try (with_reducible rfl)
        (try simp only [Act.put, List.getElem_toArray, List.getElem_cons_succ, List.getElem_cons_zero, List.setIfInBounds_toArray, List.set_cons_zero, List.set_cons_succ])
        refine wpAnyH_take (i := 9) (v := ?_) rfl (by kernel_rfl) (by kernel_rfl) (by kernel_rfl) (fun _ _ _ h => h) (Or.inl ⟨by kernel_rfl, ?_⟩) (by assumption) ?_
        rotate_left
        · intro w hSw
          (try dsimp only at hSw)
          go_simp
          try (with_reducible rfl)
        (try simp only [Act.put, List.getElem_toArray, List.getElem_cons_succ, List.getElem_cons_zero, List.setIfInBounds_toArray, List.set_cons_zero, List.set_cons_succ])
        refine wpAnyH_take (i := 10) (v := ?_) rfl (by kernel_rfl) (by kernel_rfl) (by kernel_rfl) (fun _ _ _ h => h) (Or.inl ⟨by kernel_rfl, ?_⟩) (by assumption) ?_
        rotate_left
        · intro w hSw
          (try dsimp only at hSw)
          go_simp
          try (with_reducible rfl)
        (try simp only [Act.put, List.getElem_toArray, List.getElem_cons_succ, List.getElem_cons_zero, List.setIfInBounds_toArray, List.set_cons_zero, List.set_cons_succ])
        refine wpAnyH_take (i := 11) (v := ?_) rfl (by kernel_rfl) (by kernel_rfl) (by kernel_rfl) (fun _ _ _ h => h) (Or.inl ⟨by kernel_rfl, ?_⟩) (by assumption) ?_
        rotate_left
        · intro w hSw
          (try dsimp only at hSw)
          go_simp
          try (with_reducible rfl)
        (try simp only [Act.put, List.getElem_toArray, List.getElem_cons_succ, List.getElem_cons_zero, List.setIfInBounds_toArray, List.set_cons_zero, List.set_cons_succ])
        refine wpAnyH_take (i := 12) (v := ?_) rfl (by kernel_rfl) (by kernel_rfl) (by kernel_rfl) (fun _ _ _ h => h) (Or.inl ⟨by kernel_rfl, ?_⟩) (by assumption) ?_
        rotate_left
        · intro w hSw
          (try dsimp only at hSw)
          go_simp
          try (with_reducible rfl)
        (try simp only [Act.put, List.getElem_toArray, List.getElem_cons_succ, List.getElem_cons_zero, List.setIfInBounds_toArray, List.set_cons_zero, List.set_cons_succ])
        refine wpAnyH_take (i := 13) (v := ?_) rfl (by kernel_rfl) (by kernel_rfl) (by kernel_rfl) (fun _ _ _ h => h) (Or.inl ⟨by kernel_rfl, ?_⟩) (by assumption) ?_
        rotate_left
        · intro w hSw
          (try dsimp only at hSw)
          go_simp
          try (with_reducible rfl)
        (try simp only [Act.put, List.getElem_toArray, List.getElem_cons_succ, List.getElem_cons_zero, List.setIfInBounds_toArray, List.set_cons_zero, List.set_cons_succ])
        refine wpAnyH_take (i := 14) (v := ?_) rfl (by kernel_rfl) (by kernel_rfl) (by kernel_rfl) (fun _ _ _ h => h) (Or.inl ⟨by kernel_rfl, ?_⟩) (by assumption) ?_
        rotate_left
        · intro w hSw
          (try dsimp only at hSw)
          go_simp
          try (with_reducible rfl)
        (try simp only [Act.put, List.getElem_toArray, List.getElem_cons_succ, List.getElem_cons_zero, List.setIfInBounds_toArray, List.set_cons_zero, List.set_cons_succ])
        refine wpAnyH_take (i := 15) (v := ?_) rfl (by kernel_rfl) (by kernel_rfl) (by kernel_rfl) (fun _ _ _ h => h) (Or.inl ⟨by kernel_rfl, ?_⟩) (by assumption) ?_
        rotate_left
        · intro w hSw
          (try dsimp only at hSw)
          go_simp
          try (with_reducible rfl)
        (try simp only [Act.put, List.getElem_toArray, List.getElem_cons_succ, List.getElem_cons_zero, List.setIfInBounds_toArray, List.set_cons_zero, List.set_cons_succ])
        refine wpAnyH_take (i := 16) (v := ?_) rfl (by kernel_rfl) (by kernel_rfl) (by kernel_rfl) (fun _ _ _ h => h) (Or.inl ⟨by kernel_rfl, ?_⟩) (by assumption) ?_
        rotate_left
        · intro w hSw
          (try dsimp only at hSw)
          go_simp
          try (with_reducible rfl)
        (try simp only [Act.put, List.getElem_toArray, List.getElem_cons_succ, List.getElem_cons_zero, List.setIfInBounds_toArray, List.set_cons_zero, List.set_cons_succ])
        refine wpAnyH_take (i := 17) (v := ?_) rfl (by kernel_rfl) (by kernel_rfl) (by kernel_rfl) (fun _ _ _ h => h) (Or.inl ⟨by kernel_rfl, ?_⟩) (by assumption) ?_
        rotate_left
        · intro w hSw
          (try dsimp only at hSw)
          go_simp
          try (with_reducible rfl)
        (try simp only [Act.put, List.getElem_toArray, List.getElem_cons_succ, List.getElem_cons_zero, List.setIfInBounds_toArray, List.set_cons_zero, List.set_cons_succ])
        refine wpAnyH_take (i := 18) (v := ?_) rfl (by kernel_rfl) (by kernel_rfl) (by kernel_rfl) (fun _ _ _ h => h) (Or.inl ⟨by kernel_rfl, ?_⟩) (by assumption) ?_
        rotate_left
        · intro w hSw
          (try dsimp only at hSw)
          go_simp
          try (with_reducible rfl)
        (try simp only [Act.put, List.getElem_toArray, List.getElem_cons_succ, List.getElem_cons_zero, List.setIfInBounds_toArray, List.set_cons_zero, List.set_cons_succ])
        refine wpAnyH_take (i := 19) (v := ?_) rfl (by kernel_rfl) (by kernel_rfl) (by kernel_rfl) (fun _ _ _ h => h) (Or.inl ⟨by kernel_rfl, ?_⟩) (by assumption) ?_
        rotate_left
        · intro w hSw
          (try dsimp only at hSw)
          go_simp
          try (with_reducible rfl)
        (try simp only [Act.put, List.getElem_toArray, List.getElem_cons_succ, List.getElem_cons_zero, List.setIfInBounds_toArray, List.set_cons_zero, List.set_cons_succ])
        refine wpAnyH_take (i := 20) (v := ?_) rfl (by kernel_rfl) (by kernel_rfl) (by kernel_rfl) (fun _ _ _ h => h) (Or.inl ⟨by kernel_rfl, ?_⟩) (by assumption) ?_
        rotate_left
        · intro w hSw
          (try dsimp only at hSw)
          go_simp
          try (with_reducible rfl)
        (try simp only [Act.put, List.getElem_toArray, List.getElem_cons_succ, List.getElem_cons_zero, List.setIfInBounds_toArray, List.set_cons_zero, List.set_cons_succ])
        refine wpAnyH_take (i := 21) (v := ?_) rfl (by kernel_rfl) (by kernel_rfl) (by kernel_rfl) (fun _ _ _ h => h) (Or.inl ⟨by kernel_rfl, ?_⟩) (by assumption) ?_
        rotate_left
        · intro w hSw
          (try dsimp only at hSw)
          go_simp
          try (with_reducible rfl)
        (try simp only [Act.put, List.getElem_toArray, List.getElem_cons_succ, List.getElem_cons_zero, List.setIfInBounds_toArray, List.set_cons_zero, List.set_cons_succ])
        refine wpAnyH_take (i := 22) (v := ?_) rfl (by kernel_rfl) (by kernel_rfl) (by kernel_rfl) (fun _ _ _ h => h) (Or.inl ⟨by kernel_rfl, ?_⟩) (by assumption) ?_
        rotate_left
        · intro w hSw
          (try dsimp only at hSw)
          go_simp
          try (with_reducible rfl)
        (try simp only [Act.put, List.getElem_toArray, List.getElem_cons_succ, List.getElem_cons_zero, List.setIfInBounds_toArray, List.set_cons_zero, List.set_cons_succ])
        refine wpAnyH_take (i := 23) (v := ?_) rfl (by kernel_rfl) (by kernel_rfl) (by kernel_rfl) (fun _ _ _ h => h) (Or.inl ⟨by kernel_rfl, ?_⟩) (by assumption) ?_
        rotate_left
        · intro w hSw
          (try dsimp only at hSw)
          go_simp
          try (with_reducible rfl)
        (try simp only [Act.put, List.getElem_toArray, List.getElem_cons_succ, List.getElem_cons_zero, List.setIfInBounds_toArray, List.set_cons_zero, List.set_cons_succ])
        refine wpAnyH_take (i := 24) (v := ?_) rfl (by kernel_rfl) (by kernel_rfl) (by kernel_rfl) (fun _ _ _ h => h) (Or.inl ⟨by kernel_rfl, ?_⟩) (by assumption) ?_
        rotate_left
        · intro w hSw
          (try dsimp only at hSw)
          go_simp
          try (with_reducible rfl)
        (try simp only [Act.put, List.getElem_toArray, List.getElem_cons_succ, List.getElem_cons_zero, List.setIfInBounds_toArray, List.set_cons_zero, List.set_cons_succ])
        refine wpAnyH_take (i := 25) (v := ?_) rfl (by kernel_rfl) (by kernel_rfl) (by kernel_rfl) (fun _ _ _ h => h) (Or.inl ⟨by kernel_rfl, ?_⟩) (by assumption) ?_
        rotate_left
        · intro w hSw
          (try dsimp only at hSw)
          go_simp
          try (with_reducible rfl)
        (try simp only [Act.put, List.getElem_toArray, List.getElem_cons_succ, List.getElem_cons_zero, List.setIfInBounds_toArray, List.set_cons_zero, List.set_cons_succ])
        refine wpAnyH_take (i := 26) (v := ?_) rfl (by kernel_rfl) (by kernel_rfl) (by kernel_rfl) (fun _ _ _ h => h) (Or.inl ⟨by kernel_rfl, ?_⟩) (by assumption) ?_
        rotate_left
        · intro w hSw
          (try dsimp only at hSw)
          go_simp
          try (with_reducible rfl)
        (try simp only [Act.put, List.getElem_toArray, List.getElem_cons_succ, List.getElem_cons_zero, List.setIfInBounds_toArray, List.set_cons_zero, List.set_cons_succ])
        refine wpAnyH_take (i := 27) (v := ?_) rfl (by kernel_rfl) (by kernel_rfl) (by kernel_rfl) (fun _ _ _ h => h) (Or.inl ⟨by kernel_rfl, ?_⟩) (by assumption) ?_
        rotate_left
        · intro w hSw
          (try dsimp only at hSw)
          go_simp
          try (with_reducible rfl)
        (try simp only [Act.put, List.getElem_toArray, List.getElem_cons_succ, List.getElem_cons_zero, List.setIfInBounds_toArray, List.set_cons_zero, List.set_cons_succ])
        refine wpAnyH_take (i := 28) (v := ?_) rfl (by kernel_rfl) (by kernel_rfl) (by kernel_rfl) (fun _ _ _ h => h) (Or.inl ⟨by kernel_rfl, ?_⟩) (by assumption) ?_
        rotate_left
        · intro w hSw
          (try dsimp only at hSw)
          go_simp
          try (with_reducible rfl)
        (try simp only [Act.put, List.getElem_toArray, List.getElem_cons_succ, List.getElem_cons_zero, List.setIfInBounds_toArray, List.set_cons_zero, List.set_cons_succ])
        refine wpAnyH_take (i := 29) (v := ?_) rfl (by kernel_rfl) (by kernel_rfl) (by kernel_rfl) (fun _ _ _ h => h) (Or.inl ⟨by kernel_rfl, ?_⟩) (by assumption) ?_
        rotate_left
        · intro w hSw
          (try dsimp only at hSw)
          go_simp
          try (with_reducible rfl)
        (try simp only [Act.put, List.getElem_toArray, List.getElem_cons_succ, List.getElem_cons_zero, List.setIfInBounds_toArray, List.set_cons_zero, List.set_cons_succ])
        refine wpAnyH_take (i := 30) (v := ?_) rfl (by kernel_rfl) (by kernel_rfl) (by kernel_rfl) (fun _ _ _ h => h) (Or.inl ⟨by kernel_rfl, ?_⟩) (by assumption) ?_
        rotate_left
        · intro w hSw
          (try dsimp only at hSw)
          go_simp
          try (with_reducible rfl)
        (try simp only [Act.put, List.getElem_toArray, List.getElem_cons_succ, List.getElem_cons_zero, List.setIfInBounds_toArray, List.set_cons_zero, List.set_cons_succ])
        refine wpAnyH_take (i := 31) (v := ?_) rfl (by kernel_rfl) (by kernel_rfl) (by kernel_rfl) (fun _ _ _ h => h) (Or.inl ⟨by kernel_rfl, ?_⟩) (by assumption) ?_
        rotate_left
        · intro w hSw
          (try dsimp only at hSw)
          go_simp
          try (with_reducible rfl)
        (try simp only [Act.put, List.getElem_toArray, List.getElem_cons_succ, List.getElem_cons_zero, List.setIfInBounds_toArray, List.set_cons_zero, List.set_cons_succ])
        refine wpAnyH_take (i := 32) (v := ?_) rfl (by kernel_rfl) (by kernel_rfl) (by kernel_rfl) (fun _ _ _ h => h) (Or.inl ⟨by kernel_rfl, ?_⟩) (by assumption) ?_
        rotate_left
        · intro w hSw
          (try dsimp only at hSw)
          go_simp
          try (with_reducible rfl)
        (try simp only [Act.put, List.getElem_toArray, List.getElem_cons_succ, List.getElem_cons_zero, List.setIfInBounds_toArray, List.set_cons_zero, List.set_cons_succ])
        refine wpAnyH_done (by kernel_rfl) ?_ _
        have hkey := keyOf_int_mk (P := Tryd.prog) Tryd.underlying3 HWY.out
        have HKEY := Lib.hid hkey
        clear hlook hkey l1 l2 n1 e0 hHeld
        go_upto_region 17 with (at_mapUpdate; refine wpList_mapUpdate_own _ rfl _ _ _ 53 rfl 3 3 intKey Tryd.underlying53 _ W1.heap.size j _ rfl OM7d.out (by unfold maxLen; omega) _ _ _ rfl rfl HKEY.out _ [] (plainElem_int Tryd.underlying3 (by decide)) ?_; intro w9 hown9 hgrow9)
        have hb79 : Below W1.heap.size w7 w9 := (Below.refl _ w7).drew.trans (below_grown hgrow9 (by show W1.heap.size ≤ w7.heap.size; omega) (fun k hk => by injection hk with hk; omega))
        have BW9 := Lib.hid (BW7.out.trans hb79)
        have HX9 : Box w9 wr.heap.size 46 (hc y) := (HX7.out.drew).grown hgrow9 (by intro h; injection h with h; omega)
        have OM9 : Hid (w9.ownsMap Tryd.prog 3 (plainElem (H := Unit) Tryd.prog 3) W1.heap.size (j + 1) (Seeny.seen ((h.take (j + 1)).map (·.lis)))) := by
          show World.ownsMap _ _ _ _ _ _ _
          rw [htk.out, Seeny.seen_snoc]; exact hown9
        have l3 := (hb79.cell (p := ⟨g6, o6 + kk * 8 + 3, none⟩) (by show g6 < W1.heap.size; omega)).trans L3.out
        have e5 := (HBE1.out.below BW9.out HBE1.out.lt).cell 5
        have n2 := HX9.cell 2
        simp at e5 n2
        have hz9 : W1.heap.size < w9.heap.size := by have h1 := hgrow9.size; have h2 : w7.drew.heap.size = w7.heap.size := rfl; omega
        have hph := HT.out.ph
        have hla := HT.out.last
        rw [hlm] at hla
        have hbub := HT.out.bub
        have hpl := HT.out.place
        have HPW2 := Lib.hid HLP.out
        have hlp := HLP.out
        rw [hpl] at hlp
        have hlaN : (ii == LL) = bi := by rw [← hla, Bool.eq_iff_iff]; simp; omega
        obtain ⟨xi, xn, xt, xc, xo, xs, xa, xp⟩ := x
        simp only at l3 hbub hpl hlp
        clear hown9 hgrow9 HX9 hb79 HX7 OM7 OM7d n0
        cases xc with
        | true =>
          simp only [if_true] at hpl hlp
          have HPL := Lib.hid hpl
          have dlt : decide ((ii : Int) < la) = false := decide_eq_false (by omega)
          clear hpl hlp hbub
          cases bi with
          | true =>
            go_wp2
            go_roundg (h.length - (j + 1))
            case measure => omega
            case rel => exact ⟨j + 1, (ii : Int), by omega, by omega, rfl, by go_num, ⟨by omega, by omega⟩, hz9, fun i z hi hz => by rw [← HPL.out]; exact HNX.out i z hi hz, BW9.out, OM9.out⟩
          | false =>
            go_wp2
            go_roundg (h.length - (j + 1))
            case measure => omega
            case rel => exact ⟨j + 1, (ii : Int), by omega, by omega, rfl, by go_num, ⟨by omega, by omega⟩, hz9, fun i z hi hz => by rw [← HPL.out]; exact HNX.out i z hi hz, BW9.out, OM9.out⟩
        | false =>
          simp only [Bool.false_eq_true, if_false] at hpl hlp
          have HPL := Lib.hid hpl
          have dlt : decide (2 * (p.length : Int) - 1 - (ii : Int) < la) = false := decide_eq_false (by omega)
          clear hpl hlp
          cases bi with
          | true =>
            have di3 : decide ((ii : Int) < (LL : Int)) = false := decide_eq_false (by have := eq_of_beq hlaN; omega)
            have di4 : decide (ii < LL) = false := decide_eq_false (by have := eq_of_beq hlaN; omega)
            clear hbub
            go_wp2
            go_roundg (h.length - (j + 1))
            case measure => omega
            case rel => exact ⟨j + 1, 2 * (p.length : Int) - 1 - (ii : Int), by omega, by omega, rfl, by go_num, ⟨by omega, by omega⟩, hz9, fun i z hi hz => by rw [← HPL.out]; exact HNX.out i z hi hz, BW9.out, OM9.out⟩
          | false =>
            have di3 : decide ((ii : Int) < (LL : Int)) = true := decide_eq_true (by have h2 : ii ≠ LL := (by simpa using hlaN); have h3 := HLLL.out; omega)
            have di4 : decide (ii < LL) = true := decide_eq_true (by have h2 : ii ≠ LL := (by simpa using hlaN); have h3 := HLLL.out; omega)
            rw [hbub rfl rfl] at e5
            clear hbub
            go_wp2
            go_roundg (h.length - (j + 1))
            case measure => omega
            case rel => exact ⟨j + 1, 2 * (p.length : Int) - 1 - (ii : Int), by omega, by omega, rfl, by go_num, ⟨by omega, by omega⟩, hz9, fun i z hi hz => by rw [← HPL.out]; exact HNX.out i z hi hz, BW9.out, OM9.out⟩
      · have hlt2 : decide ((j : Int) < (h.length : Int)) = false := decide_eq_false (by omega)
        have HE := Lib.hid (HU1.out.trans (BW.out.mono HU1.out.size))
        go_wp2
        go_ret
        exact ⟨rfl, HE.out⟩
  · have g1 : ((er : Int) != 0) = true := by simp; omega
    have hn : h = [] := by
      have := HSN.out
      by_cases h1 : (Evy.asked (nods d) l e).2 = 0
      · have h2 := Evy.send_of (d := nods d) (l := l) (e := e) (p := (Evy.asked (nods d) l e).1) (by rw [← h1])
        rw [h2] at this
        injection this with _ this
        injection this with _ this
        injection this with _ this
        exact absurd this.symm y
      · rw [Evy.send_no h1] at this
        injection this with this _
        exact this.symm
    subst hn
    clear y
    go_wp2_with (fail)
    refine (HLV.out _).mono ?_
    rintro en W2 ⟨rfl, hb2⟩
    go_wp2
    go_ret
    exact ⟨rfl, HU1.out.trans (hb2.mono HU1.out.size)⟩
end Go.Proofs.YtdommcjlpibpeaaDoor
