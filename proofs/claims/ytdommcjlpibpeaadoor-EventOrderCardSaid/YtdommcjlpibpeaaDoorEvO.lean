/-
  slices.DeleteFunc at listeners. Conditions: the row is one's own; the function asked leaves it alone.
-/
import Derived.Test.YtdommcjlpibpeaaDoorEvN
namespace Go.Proofs.YtdommcjlpibpeaaDoor
set_option linter.unusedSimpArgs false
set_option linter.unusedVariables false
open Go.RowKit

theorem splice_drop {α : Type} (L : List α) (o : Nat) (cs : List α) (k : Nat) (hk : o + cs.length ≤ k) (h : o ≤ L.length) : (splice L o cs).drop k = L.drop k := by
  have h1 : (L.take o).length = o := by simp; omega
  unfold splice
  rw [List.drop_append, h1, List.drop_append, List.drop_of_length_le (by omega), List.drop_of_length_le (by omega), List.drop_drop]
  simp only [List.nil_append]
  congr 1
  omega
section
variable {P : Program} {ops : Array Oper} {rest : List Oper} {o : Oper} {a : Act} {w : World} {Q : Exit → Act → World → Prop}
theorem zeros_one {z : Array Value} (h1 : ∀ u ∈ z.toList, u.oneCell' = true) (n : Nat) : ∀ u ∈ (Builtin.zeroCells z n).toList, u.oneCell' = true := by
  intro u hu
  unfold Builtin.zeroCells at hu
  simp only [Array.toList_map, List.mem_map, Array.toList_range, List.mem_range] at hu
  obtain ⟨i, hi, rfl⟩ := hu
  have hz : 0 < z.size := by rcases Nat.eq_zero_or_pos z.size with h | h; (rw [h] at hi; simp at hi); exact h
  have := Nat.mod_lt i hz
  exact h1 _ (by rw [getElem!_pos z (i % z.size) this]; simp)
/-- clear: the cells of n elements, wherever they lie in a row that is known whole. -/
theorem wpList_clear_some (hgd : o.guard = none) (s : Operand) (t : TypeId) (hop : o.op = .call { callee := .builtin .clear, args := #[s], argTypes := #[t] })
    (e : TypeId) (z : Value) (ht : P.underlying t = some (.slice e)) (hv : ∀ w, (zeroValue e).run P w = .ok z w) (h1 : ∀ u ∈ z.cells.toList, u.oneCell' = true)
    (g off n c n1 : Nat) (hs : a.eval s = .slice (some ⟨g, off, none⟩) n1 c) (hn : n1 = n + 1) (cur : List Value) (te : TypeId) (hg : Box w g te cur.toArray) (hfit : off + (n + 1) * z.cells.size ≤ cur.length)
    (h : ∀ w' Z, Z.length = (n + 1) * z.cells.size → Hid (Box w' g te (splice cur off Z).toArray) → Upd w w' g → w'.heap.size = w.heap.size → wpList P ops Q rest (a.put o.dst (.tuple #[])) w') : wpList P ops Q (o :: rest) a w := by
  subst hn
  refine wpList_plain hgd fun K hK => ?_
  have hZ : (Builtin.zeroCells z.cells (n + 1)).toList.length = (n + 1) * z.cells.size := by rw [Array.length_toList, size_zeroCells]
  have hst := run_storeCells_at P g off te (Builtin.zeroCells z.cells (n + 1)).toList 0 cur.toArray w hg (by simp only [List.size_toArray]; rw [hZ]; omega) (zeros_one h1 _)
  simp only [Nat.add_zero, List.append_assoc] at hst
  have hrun : (Builtin.clear_ #[t] o.type #[.slice (some ⟨g, off, none⟩) (n + 1) c]).run P w = .ok (.tuple #[]) (w.setRow g (splice cur off (Builtin.zeroCells z.cells (n + 1)).toList).toArray) := by
    simp [Builtin.clear_, run_underlying ht, hv, hst, splice]
  unfold Oper.wp execOp
  simp only [hop, resolve, invoke, builtin, Sem.run_bind, Sem.run_pure, Result.andThen_ok, List.map_toArray, List.map_cons, List.map_nil, hs, hrun]
  exact hK _ _ (h _ _ hZ (setRow_heap w g _ _ te _ hg) (upd_setRow w g _) (by simp))
end
theorem Box.there {w : World} {b o n : Nat} {t : TypeId} {cur : List Value} (h : Box w b t cur.toArray) (hn : o + n ≤ cur.length) : w.there b o n := fun j hj => by
  rw [h.cell, h.frozen, List.getElem?_toArray, List.getElem?_eq_getElem (by omega)]
  exact ⟨rfl, rfl⟩
theorem size_cells {b : Nat} : ∀ (vs : List Value) (o : Nat) (w : World), (w.setCells b o vs).heap.size = w.heap.size
  | [], _, _ => rfl
  | v :: vs, o, w => (size_cells vs (o + 1) (w.setCell ⟨b, o, none⟩ v)).trans (by simp [World.setCell])
/-- a struct is stored whole into the middle of a row that is known whole. -/
theorem wpList_store_midbox {P : Program} {ops : Array Oper} {rest : List Oper} {op : Oper} {a : Act} {w : World} {Q : Exit → Act → World → Prop} (hgd : op.guard = none) (ty : TypeId) (x y : Operand) (ho : op.op = .store ty x y)
    (b o : Nat) (cells : Array Value) (hx : a.eval x = .pointer (some ⟨b, o, none⟩)) (hy : a.eval y = .agg cells) (cur : List Value) (te : TypeId) (hg : Box w b te cur.toArray) (hfit : o + cells.size ≤ cur.length)
    (hi : (P.info? ty).map (·.size) = some cells.size) (h1 : cells.all (·.oneCell') = true)
    (h : ∀ w', Hid (Box w' b te (splice cur o cells.toList).toArray) → Upd w w' b → w'.heap.size = w.heap.size → wpList P ops Q rest (a.put op.dst undef) w') : wpList P ops Q (op :: rest) a w := by
  refine wpList_store_mid hgd ty x y ho b o cells hx hy (Box.there hg hfit) hi h1 (h _ ?_ (upd_cells _ _ _) (size_cells _ _ _))
  have := box_cells (w := w) (b := b) (t := te) cells.toList o cur w hg (by simpa using hfit)
  show Box _ _ _ _
  unfold splice
  simpa [List.append_assoc] using this
theorem filter_take {α : Type} {q : α → Bool} {l : List α} {j : Nat} {x : α} (h : l[j]? = some x) : (l.take (j + 1)).filter q = (l.take j).filter q ++ (if q x then [x] else []) := by
  rw [List.take_add_one, h, List.filter_append]
  simp [List.filter_cons]
theorem idx_two {α : Type} (q : α → Bool) : ∀ l : List α, (idx q l = -1 ∧ l.filter (fun x => !q x) = l) ∨ ∃ k x, idx q l = (k : Nat) ∧ l[k]? = some x ∧ q x = true ∧ (l.take k).filter (fun x => !q x) = l.take k
  | [] => .inl ⟨rfl, rfl⟩
  | y :: l => by
    cases hy : q y with
    | true => exact .inr ⟨0, y, by simp [idx, hy], rfl, hy, rfl⟩
    | false =>
      rcases idx_two q l with ⟨h1, h2⟩ | ⟨k, x, h1, h2, h3, h4⟩
      · left
        refine ⟨by simp [idx, hy, h1], by rw [List.filter_cons]; simp [hy, h2]⟩
      · right
        refine ⟨k + 1, x, ?_, by simpa using h2, h3, by rw [List.take_succ_cons, List.filter_cons]; simp [hy, h4]⟩
        rw [idx, hy, h1, if_neg (by simp), if_neg (by omega)]; rfl
set_option maxRecDepth 100000 in
set_option maxHeartbeats 4000000 in
theorem delfunc_lis (l : List Evy.Lis) (q : Evy.Lis → Bool) (g : Nat) (lb : Array Value) (base : Nat) (v : Value) (w : World) (eg : ∀ args w, (callFunc g args).run Tryd.prog w = .ok (.enter g args) w)
    (hown : w.ownsRow base 43 8 v l.length (flat lc l)) (hl : l.length ≤ 1000000)
    (hp : ∀ x ∈ l, ∀ w1, w.grownBy w1 v.ownBlock → Calls Tryd.prog g (#[.agg (lc x)] ++ lb) w1 fun e w' => e = .returned (.bool (q x)) ∧ Below w1.heap.size w1 w') :
    Calls Tryd.prog 29 #[v, .func (.func g) #[] lb] w fun e w' => RowOut w base 43 8 (l.filter (fun x => !q x)).length v.ownBlock (flat lc (l.filter (fun x => !q x))) e w' := by
  have HP := Lib.hid hp
  have HO := Lib.hid hown
  have HI := Lib.hid (index_lis l q g lb v w eg (fun x hx w1 hb => hp x hx w1 ⟨hb.os, hb.tape, hb.output, hb.size, fun i hi _ => hb.block i hi⟩) (Rd.own hown) hl)
  have hlen := Lib.hid (flat_len (f := lc) (k := 8) (fun _ => rfl) l)
  obtain ⟨A, cap, rfl⟩ := own_slice hown
  rcases idx_two q l with ⟨h1, h2⟩ | ⟨k, x0, h1, h2, h3, h4⟩
  · rw [h1] at HI
    have H2 := Lib.hid h2
    clear hp hown h1 h2
    go_enter Tryd.func29, Tryd.ntmps29
    go_wp2_with (fail)
    refine (HI.out).mono ?_
    rintro e W ⟨rfl, hb⟩
    go_wp2
    go_ret
    refine ⟨_, rfl, ?_, rfl, ⟨hb.os, hb.tape, hb.output, hb.size, fun i hi _ => hb.block i hi⟩⟩
    rw [H2.out]
    exact own_below HO.out hb
  · have hk : k < l.length := (List.getElem?_eq_some_iff.1 h2).1
    rw [h1] at HI
    have hf0 : Hid ((l.take (k + 1)).filter (fun x => !q x) = l.take k) := by
      show _ = _
      rw [filter_take h2, h4, h3]; simp
    obtain ⟨g0, cap', R, hv, hbase, hbox, hcap1, hcap2, hsz⟩ := own_box hown (by omega)
    injection hv with hA _ hc
    subst hA
    subst hc
    have HB := Lib.hid hbox
    have HZ := Lib.hid hsz
    have hg0 := hbox.lt
    have hcl : cap * 8 ≥ l.length * 8 := by omega
    have hne1 : ((k : Int) == -1) = false := by rw [beq_eq_false_iff_ne]; omega
    clear hp hown h1 h2 h3 h4 hbox hsz
    go_enter Tryd.func29, Tryd.ntmps29
    go_wp2_with (fail)
    refine (HI.out).mono ?_
    rintro e W ⟨rfl, hb⟩
    have hBW := Lib.hid (HB.out.below hb hg0)
    have HWW := Lib.hid hb
    have hzW := hb.size
    clear hb
    go_upto_region 5 with (fail)
    go_loopg [5, 6] l.length (fun gg s5 s6 wr => ∃ (i j : Nat) (cur : List Value), j ≤ l.length ∧ l.length - j ≤ gg ∧ i < j ∧ s5 = .int .i64 (i : Int) ∧ s6 = .int .i64 (j : Int) ∧ Hid (i = ((l.take j).filter (fun x => !q x)).length) ∧ Hid (cur.length = cap * 8) ∧ Hid (cur.take (i * 8) = flat lc ((l.take j).filter (fun x => !q x))) ∧ Hid (cur.drop (j * 8) = (flat lc l ++ R).drop (j * 8)) ∧ Hid (Box wr g0 43 cur.toArray) ∧ Hid (Upd W wr g0))
    case atStart =>
      refine ⟨k, k + 1, flat lc l ++ R, by omega, by omega, by omega, rfl, by go_num, ?_, HZ.out, ?_, rfl, hBW.out, Upd.refl _ _⟩
      · show _ = _
        rw [hf0.out, List.length_take]; omega
      · show _ = _
        have e1 : flat lc l = flat lc (l.take k) ++ flat lc (l.drop k) := by rw [← flat_append, List.take_append_drop]
        have e2 := flat_len (f := lc) (k := 8) (fun _ => rfl) (l.take k)
        rw [List.length_take, Nat.min_eq_left (by omega)] at e2
        rw [hf0.out, e1, List.append_assoc, List.take_append_of_le_length (by omega), List.take_of_length_le (by omega)]
    case round =>
      obtain ⟨i, j, cur, hj, hgg, hij, rfl, rfl, HIL, HCL, HCT, HCD, HBX, HUW⟩ := hrel
      have hzr := HUW.out.size
      have hg0r := HBX.out.lt
      by_cases hlt : j < l.length
      · have hlt2 : decide ((j : Int) < (l.length : Int)) = true := by simp; omega
        have hltz : (j : Int) < (l.length : Int) := by omega
        have hiz : (i : Int) < (l.length : Int) := by omega
        obtain ⟨x, hx⟩ : ∃ x, l[j]? = some x := ⟨_, List.getElem?_eq_getElem hlt⟩
        have hft := Lib.hid (filter_take (q := fun x => !q x) hx)
        have hrange : Hid (wr.rangeAt g0 (j * 8) (lc x).toList) := fun t u hu => by
          have ht : t < 8 := by have := (List.getElem?_eq_some_iff.1 hu).1; simpa using this
          rw [HBX.out.cell, List.getElem?_toArray]
          have e1 := congrArg (fun z : List Value => z[t]?) HCD.out
          simp only [List.getElem?_drop] at e1
          rw [e1, List.getElem?_append_left (by rw [hlen.out]; omega)]
          exact flat_at (f := lc) (fun _ => rfl) l j x hx t u hu
        have hcall0 : ∀ w1, w.grownBy w1 (some g0) → Calls Tryd.prog g (#[.agg (lc x)] ++ lb) w1 fun e w' => e = .returned (.bool (q x)) ∧ Below w1.heap.size w1 w' := fun w1 h => HP.out x (List.mem_of_getElem? hx) w1 h
        clear hx
        have hcd2 : Hid (cur.drop ((j + 1) * 8) = (flat lc l ++ R).drop ((j + 1) * 8)) := by
          show _ = _
          have := congrArg (fun z : List Value => z.drop 8) HCD.out
          simp only [List.drop_drop] at this
          rw [show (j + 1) * 8 = j * 8 + 8 by omega]; exact this
        cases hq : q x with
        | true =>
          rw [hq] at hcall0 hft
          have hcall := Lib.hid hcall0
          clear hcall0
          go_upto_region 8 with (first | (refine wpList_load_mid rfl 43 (.tmp 24) rfl g0 (j * 8) rfl (lc x).toList _ hrange.out Tryd.underlying43 rfl info_lis ?_) | (refine wpList_store_box rfl 43 (.tmp 7) (.tmp 25) rfl wr.heap.size (lc x) rfl rfl 43 _ (Box.new wr _ _) info_lis rfl (lc_one x) ?_; intro w6 hx6 hu6 hz6))
          have hb6 : Below wr.heap.size wr w6 := ((Below.refl _ wr).alloc (Nat.le_refl _) _).trans (hu6.own (Nat.le_refl _) (by simp))
          have HX6 := Lib.hid hx6
          have HBX6 := Lib.hid (HBX.out.below hb6 hg0r)
          have HU6 : Hid (Upd W w6 g0) := HUW.out.trans (Upd.below hb6 g0)
          have HGR : Hid (w.grownBy w6 (some g0)) := (Upd.below HWW.out g0).trans HU6.out
          clear hb6 hu6 hx6 hrange
          go_wp2_with (refine wpList_load_row rfl 43 (.tmp 7) rfl wr.heap.size rfl _ (lc x) (0, 0) _ HX6.out Tryd.underlying43 rfl info_lis ?_)
          refine (hcall.out _ HGR.out).mono ?_
          rintro e w8 ⟨rfl, hb8⟩
          have HB8 := Lib.hid hb8
          clear hb8
          go_wp2
          go_roundg (l.length - (j + 1))
          case measure => omega
          case rel =>
            have hf : (l.take (j + 1)).filter (fun x => !q x) = (l.take j).filter (fun x => !q x) := by rw [hft.out]; simp
            exact ⟨i, j + 1, cur, by omega, by omega, by omega, rfl, by go_num, by show _ = _; rw [hf]; exact HIL.out, HCL.out, by show _ = _; rw [hf]; exact HCT.out, hcd2.out, HBX6.out.below HB8.out HBX6.out.lt, HU6.out.trans (Upd.below HB8.out g0)⟩
        | false =>
          rw [hq] at hcall0 hft
          have hcall := Lib.hid hcall0
          clear hcall0
          go_upto_region 8 with (first | (refine wpList_load_mid rfl 43 (.tmp 24) rfl g0 (j * 8) rfl (lc x).toList _ hrange.out Tryd.underlying43 rfl info_lis ?_) | (refine wpList_store_box rfl 43 (.tmp 7) (.tmp 25) rfl wr.heap.size (lc x) rfl rfl 43 _ (Box.new wr _ _) info_lis rfl (lc_one x) ?_; intro w6 hx6 hu6 hz6))
          have hb6 : Below wr.heap.size wr w6 := ((Below.refl _ wr).alloc (Nat.le_refl _) _).trans (hu6.own (Nat.le_refl _) (by simp))
          have HX6 := Lib.hid hx6
          have HBX6 := Lib.hid (HBX.out.below hb6 hg0r)
          have HU6 : Hid (Upd W w6 g0) := HUW.out.trans (Upd.below hb6 g0)
          have HGR : Hid (w.grownBy w6 (some g0)) := (Upd.below HWW.out g0).trans HU6.out
          clear hb6 hu6 hx6 hrange
          have hfit : i * 8 + (lc x).size ≤ cur.length := by rw [HCL.out]; show i * 8 + 8 ≤ _; omega
          have HFIT := Lib.hid hfit
          clear hfit
          go_wp2_with (refine wpList_load_row rfl 43 (.tmp 7) rfl wr.heap.size rfl _ (lc x) (0, 0) _ HX6.out Tryd.underlying43 rfl info_lis ?_)
          refine (hcall.out _ HGR.out).mono ?_
          rintro e w8 ⟨rfl, hb8⟩
          have HB8 := Lib.hid hb8
          have hx8 := HX6.out.below hb8 HX6.out.lt
          have hbx8 := HBX6.out.below hb8 HBX6.out.lt
          have HBX8 := Lib.hid hbx8
          have HX8 := Lib.hid hx8
          clear hb8 hx8 hbx8
          go_wp2_with (first | (refine wpList_load_row rfl 43 (.tmp 7) rfl wr.heap.size rfl _ (lc x) (0, 0) _ HX8.out Tryd.underlying43 rfl info_lis ?_) | (refine wpList_store_midbox rfl 43 (.tmp 33) (.tmp 32) rfl g0 (i * 8) (lc x) rfl rfl cur 43 HBX8.out HFIT.out info_lis (lc_one x) ?_; intro w9 hb9 hu9 hz9))
          go_roundg (l.length - (j + 1))
          case measure => omega
          case rel =>
            have hf : (l.take (j + 1)).filter (fun x => !q x) = (l.take j).filter (fun x => !q x) ++ [x] := by rw [hft.out]; simp
            have hF := HFIT.out
            have h8 : (lc x).toList.length = 8 := rfl
            refine ⟨i + 1, j + 1, splice cur (i * 8) (lc x).toList, by omega, by omega, by omega, by go_num, by go_num, ?_, ?_, ?_, ?_, hb9.out, (HU6.out.trans (Upd.below HB8.out g0)).trans hu9⟩
            · show _ = _; rw [hf, List.length_append, ← HIL.out]; rfl
            · show _ = _; rw [splice_size _ _ _ (by simpa using hF)]; exact HCL.out
            · show _ = _
              have := splice_take cur (i * 8) (lc x).toList (by omega)
              rw [h8] at this
              rw [show (i + 1) * 8 = i * 8 + 8 by omega, this, HCT.out, hf, flat_append]; simp [flat]
            · show _ = _
              rw [splice_drop _ _ _ _ (by rw [h8]; omega) (by omega)]
              exact hcd2.out
      · have hlt2 : decide ((j : Int) < (l.length : Int)) = false := by simp; omega
        have hja : l.take j = l := List.take_of_length_le (by omega)
        rw [hja] at HIL HCT
        have hil := HIL.out
        obtain ⟨wi, rfl⟩ : ∃ wi : World, wi = wr := ⟨_, rfl⟩
        obtain ⟨m, hm⟩ : ∃ m, l.length = i + (m + 1) := ⟨l.length - i - 1, by omega⟩
        have hfit : i * 8 + (m + 1) * 8 ≤ cur.length := by rw [HCL.out]; omega
        have HFIT := Lib.hid hfit
        have HM := Lib.hid hm
        have HIL2 := Lib.hid hil
        have hi1 : (i : Int) ≤ (l.length : Int) := by omega
        have hi2 : i ≤ cap := by omega
        have hi3 : i ≤ l.length := by omega
        have hi4 : ¬ cap = i := by omega
        have hi5 : (i == cap) = false := by rw [beq_eq_false_iff_ne]; omega
        clear hja hfit hm hil hlt2 HIL
        go_wp2_with (refine wpList_clear_some rfl (.tmp 38) 35 rfl 43 _ Tryd.underlying35 zero_lis (by decide) g0 (i * 8) m (cap - i) (l.length - i) rfl (by have := HM.out; omega) cur 43 HBX.out (by exact HFIT.out) ?_; intro w9 Z hZ hb9 hu9 hz9)
        go_ret
        have h8 : Z.length = (m + 1) * 8 := hZ
        have hF := HFIT.out
        have hI := HIL2.out
        rw [← hI]
        refine ⟨_, rfl, box_own hbase hb9.out (by omega) hcap2 ?_ ?_ ?_, rfl, ((Upd.below HWW.out g0).trans HUW.out).trans hu9⟩
        · rw [splice_size _ _ _ (by rw [h8]; exact hF)]; exact HCL.out
        · rw [splice_low _ _ _ _ (Nat.le_refl _) (by omega)]; exact HCT.out
        · rw [flat_len (k := 8) (fun _ => rfl), hI]
end Go.Proofs.YtdommcjlpibpeaaDoor
