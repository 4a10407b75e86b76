/-
  Sweep: walked. Conditions: the cells and the roots read as rows.
-/
import Derived.Test.YtbhccidchjmjlaaHpG
import Derived.Test.YtbhccidchjmjlaaMid
namespace Go.Proofs.Ytbhccidchjmjlaa
set_option linter.unusedSimpArgs false
set_option linter.unusedVariables false
open Go.RowKit

def zeroV : CellV := ⟨Hepy.none_, none, 0, none, 0⟩
theorem parts_cell : (Try.prog.info? 46).map (fun i => (i.zero, i.size, i.bytes)) = some (some (.agg #[.int .i64 0, .slice none 0 0, .slice none 0 0]), 3, 56) := by kernel_rfl
theorem flat_rep {α : Type} (f : α → Array Value) (x : α) : ∀ n : Nat, flat f (List.replicate n x) = (List.replicate n (f x).toList).flatten
  | 0 => rfl
  | n + 1 => by rw [List.replicate_succ, flat_cons, flat_rep f x n, List.replicate_succ]; rfl
theorem made_cells (n : Nat) : madeCells (Value.agg #[.int .i64 0, .slice none 0 0, .slice none 0 0]).cells (n * 3) = (flat cc (List.replicate n zeroV)).toArray := by
  have hk : ∀ x : CellV, (cc x).size = 3 := fun _ => rfl
  have hlen : (flat cc (List.replicate n zeroV)).length = n * 3 := by rw [flat_len hk]; simp
  apply Array.ext
  · simp [madeCells, Value.cells, hlen]
  · intro i h1 h2
    have hi : i < n * 3 := by simpa [hlen] using h2
    have hd : i / 3 < n := by omega
    have hx : (List.replicate n zeroV)[i / 3]? = some zeroV := by rw [List.getElem?_replicate, if_pos hd]
    have hm : i % 3 < 3 := Nat.mod_lt _ (by omega)
    obtain ⟨u, hu⟩ : ∃ u, (cc zeroV).toList[i % 3]? = some u := ⟨_, List.getElem?_eq_getElem (by show i % 3 < 3; exact hm)⟩
    have h3 := flat_at (f := cc) hk _ _ _ hx _ _ hu
    rw [show i / 3 * 3 + i % 3 = i by omega] at h3
    have h4 : (flat cc (List.replicate n zeroV)).toArray[i] = u := by
      have h5 := (List.getElem?_eq_some_iff.1 h3).2
      simpa using h5
    rw [h4]
    have h6 : [Value.int .i64 0, .slice none 0 0, .slice none 0 0][i % 3]? = some u := hu
    simp [madeCells, Value.cells, h6]
theorem make_cells (n : Nat) (hn : n ≤ 1000) (w : World) :
    (Instr.makeSlice 22 (.int .i64 (n : Int)) (.int .i64 (n : Int))).run Try.prog w = .ok (.slice (some ⟨w.heap.size, 0, none⟩) n n) (w.alloc (.cells (flat cc (List.replicate n zeroV)).toArray 46)) := by
  obtain ⟨i0, hi0, hz0, hz1, hz2⟩ := info_parts parts_cell
  have := run_make (P := Try.prog) w 22 46 i0 _ Try.underlying22 hi0 hz0 .i64 .i64 (n : Int) (n : Int) (by omega) (Int.le_refl _) (by rw [hz2]; omega) (by omega)
  rw [hz1, Int.toNat_natCast, made_cells] at this
  exact this
theorem splice_flat {α : Type} {f : α → Array Value} {k : Nat} (hk : ∀ x, (f x).size = k) (l : List α) (i : Nat) (y : α) (hi : i < l.length) : splice (flat f l) (i * k) (f y).toList = flat f (l.set i y) := by
  have hd : l = l.take i ++ l[i] :: l.drop (i + 1) := by rw [← List.drop_eq_getElem_cons hi, List.take_append_drop]
  have e1 : (flat f (l.take i)).length = i * k := by rw [flat_len hk, List.length_take, Nat.min_eq_left (by omega)]
  have e2 : (f l[i]).toList.length = k := by simp [hk]
  have e3 : (f y).toList.length = k := by simp [hk]
  have h1 : flat f l = flat f (l.take i) ++ ((f l[i]).toList ++ flat f (l.drop (i + 1))) := by
    conv => lhs; rw [hd, flat_append, flat_cons]
  rw [List.set_eq_take_append_cons_drop, if_pos hi, flat_append, flat_cons]
  unfold splice
  rw [h1, List.take_left' e1, e3, ← e1, List.drop_append, show (flat f (l.take i)).length + k - (flat f (l.take i)).length = k by omega, List.drop_of_length_le (by omega), List.nil_append, List.drop_left' e2]
/-- the swept heap, as far as it has come. -/
def sweptIn (h : List Hepy.Cell) (W : List Nat) : List Hepy.Cell := Hepy.sweptW h W
theorem swept_set {h : List Hepy.Cell} {W : List Nat} {n : Nat} (hn : n < h.length) : (Hepy.sweptW h W).set n (Hepy.at_ h n) = Hepy.sweptW h (W ++ [n]) := by
  unfold Hepy.sweptW
  apply List.ext_getElem?
  intro j
  by_cases e : n = j
  · subst e
    rw [List.getElem?_set_self (by simpa using hn)]
    simp [hn]
  · rw [List.getElem?_set_ne e]
    simp only [List.getElem?_map]
    by_cases hj : j < h.length
    · rw [List.getElem?_range hj, Option.map_some, Option.map_some]
      have : (j ∈ W ++ [n]) ↔ j ∈ W := by simp; exact fun h => absurd h.symm e
      simp only [this]
    · rw [List.getElem?_eq_none (by simp; omega)]; rfl
theorem swept_none (h : List Hepy.Cell) : Hepy.sweptW h [] = List.replicate h.length Hepy.none_ := by
  unfold Hepy.sweptW
  apply List.ext_getElem?
  intro j
  by_cases hj : j < h.length
  · simp [hj]
  · simp [hj]
def SweepOut (w : World) (r : List Hepy.Cell × Nat) (e : Ending) (w' : World) : Prop :=
  ∃ v h', e = .returned (.tuple #[v, .int .i64 (r.2 : Int)]) ∧ cells h' = r.1 ∧ w'.ownsRow w.heap.size 46 3 v h'.length (flat cc h') ∧ (∀ x ∈ h', COwn w' w.heap.size x ∧ Apart x.as v ∧ Apart x.ks v) ∧ Below w.heap.size w w'
theorem apart_far {w : World} {base e k n : Nat} {u : Value} {xs : List Value} {g m c : Nat} (h : w.ownsRow base e k u n xs) (hg : g < base) : Apart u (.slice (some ⟨g, 0, none⟩) m c) := fun b hb hg2 => by
  have h1 := (h.lt b hb).1
  simp [Value.ownBlock] at hg2
  omega
set_option maxRecDepth 100000 in
set_option maxHeartbeats 4000000 in
theorem Sweep_any (h : List CellV) (hv : Value) (l : List Valu.V) (v : Value) (w : World) (hr : HRd w h hv) (hl : RdL w 3 vc l v) (hz : Szs l) :
    Calls Try.prog 15 #[hv, v] w fun e w' => SweepOut w (Hepy.sweep (cells h) l) e w' := by
  have HAS := Lib.hid (asked_any h hv l v w hr hl hz)
  obtain ⟨C, hC⟩ : ∃ C, Hepy.askedH (cells h) l = C := ⟨_, rfl⟩
  have HRE : Hid (Hepy.sweep (cells h) l = if C ≠ 0 then ([], C) else (Hepy.sweptW (cells h) (Hepy.walked (cells h) l), 0)) := by show _ = _; unfold Hepy.sweep Hepy.swept; rw [hC]
  rw [hC] at HAS
  have HC := Lib.hid hC
  have HH := Lib.hid hr
  have HL := Lib.hid hl
  obtain ⟨UA, ucap, rfl, hu1, hu2, _⟩ := hr.r
  obtain ⟨A, cap, rfl, hc1, hc2, -⟩ := hl
  clear hr hC
  go_enter Try.func15, Try.ntmps15
  go_wp2_with (fail)
  refine (HAS.out).mono ?_
  rintro en W ⟨rfl, hbW⟩
  have HU := Lib.hid hbW
  clear hbW
  by_cases y : C = 0
  · subst y
    have g1 : (((0 : Nat) : Int) != 0) = false := by simp
    obtain ⟨hright, hfit⟩ := Hepy.asked_zero.1 HC.out
    have hle : h.length ≤ 300 := by have := hright.le; rw [cells_len] at this; exact this
    have hld : ∀ v ∈ l, Hepy.Leads (cells h) v := fun v hv => (Hepy.fits_leads (List.all_eq_true.1 hfit v hv)).1
    have HRT := Lib.hid hright
    have HWK := Lib.hid (walked_any h _ l _ W (HH.out.below HU.out) (HL.out.below HU.out) hle hright.sound hld)
    have hokl := (Hepy.walked_came hright.sound hld).ok
    obtain ⟨al, hale⟩ : ∃ al, Hepy.walked (cells h) l = al := ⟨_, rfl⟩
    rw [hale] at HWK HRE hokl
    have hal : al.length ≤ 300 := by have := hokl.len; rw [cells_len] at this; omega
    have HOKL := Lib.hid hokl
    clear hright hfit hld hale hokl
    have hmk := fun w => make_cells h.length (by omega) w
    go_upto_region 4 with (fail)
    go_wp2_with (fail)
    refine (HWK.out).mono ?_
    rintro en W1 ⟨b, t, B, av, rfl, hb1, hb2, hb3, hb4, hws, hbe⟩
    have HU1 := Lib.hid (HU.out.trans (hbe.mono HU.out.size))
    have hzU := HU.out.size
    have hzU1 := HU1.out.size
    obtain ⟨A2, cap2, rfl⟩ := own_slice hws.own
    have HAL : Hid (RdL W1 1 ic (al.map fun n : Nat => (n : Int)) (.slice A2 al.length cap2)) := by
      refine Rd.ints (base := B) (e := 3) ?_
      rw [← nums_ints]
      have hln : (al.map fun n : Nat => (n : Int)).length = al.length := by simp
      rw [hln]; exact hws.own
    have HBX := Lib.hid hws.box
    clear hws hbe HWK
    go_upto_region 6 with (fail)
    refine gen_world (F := fun W2 => Box W2 W1.heap.size 46 (flat cc (List.replicate h.length zeroV)).toArray ∧ Below W1.heap.size W1 W2 ∧ W1.heap.size + 1 ≤ W2.heap.size) ⟨Box.new W1 _ _, below1 W1 _, by simp⟩ ?_
    rintro W2 ⟨bo, hU2, hzW2⟩
    have HBO := Lib.hid bo
    have HU2 := Lib.hid hU2
    have c2 := (HBX.out.below hU2 HBX.out.lt).cell 2
    simp at c2
    clear hmk bo hU2 HBX
    go_upto_region 7 with (fail)
    clear c2
    go_loopg [28] al.length (fun gg s28 wr => ∃ (j : Nat) (cur : List CellV), j ≤ al.length ∧ al.length - j ≤ gg ∧ s28 = .int .i64 (j : Int) ∧ cur.length = h.length ∧ Hid (cells cur = Hepy.sweptW (cells h) (al.take j)) ∧ Hid (Box wr W1.heap.size 46 (flat cc cur).toArray) ∧ Hid (∀ x ∈ cur, COwn wr (W1.heap.size + 1) x) ∧ Hid (Below W1.heap.size W1 wr) ∧ W1.heap.size + 1 ≤ wr.heap.size)
    case atStart =>
      refine ⟨0, List.replicate h.length zeroV, Nat.zero_le _, by omega, rfl, by simp, ?_, HBO.out, ?_, HU2.out, hzW2⟩
      · show _ = _
        rw [List.take_zero, swept_none, cells_len]
        simp [cells, zeroV]
      · show ∀ x ∈ _, _
        intro x hx
        rw [(List.mem_replicate.1 hx).2]
        exact ⟨World.ownsRow_nil _ _ _ _, World.ownsRow_nil _ _ _ _, fun v hv => by simp [zeroV, Hepy.none_] at hv⟩
    case round =>
      obtain ⟨j, cur, hj, hgg, rfl, hcl, HCU, HBC, HCO, BW, hzr⟩ := hrel
      by_cases hlt : j < al.length
      · have hlt2 : decide ((j : Int) < (al.length : Int)) = true := decide_eq_true (by omega)
        have hltz : (j : Int) < (al.length : Int) := by omega
        obtain ⟨N, hN⟩ : ∃ N, al[j]? = some N := ⟨_, List.getElem?_eq_getElem hlt⟩
        have hNl : N < h.length := by have := HOKL.out.lt N (List.mem_of_getElem? hN); rw [cells_len] at this; exact this
        have hNz : (N : Int) < (h.length : Int) := by omega
        have hNc : N < cur.length := by omega
        obtain ⟨x, hx⟩ : ∃ x, h[N]? = some x := ⟨_, List.getElem?_eq_getElem hNl⟩
        have hxm : x.c ∈ cells h := by unfold cells; exact List.mem_map.2 ⟨x, List.mem_of_getElem? hx, rfl⟩
        obtain ⟨A3, cap3, e3, _, _, hr3⟩ := HAL.out.below BW.out
        injection e3 with e3 e3' e4
        clear e3'
        subst e3
        subst e4
        obtain ⟨ga, oa, rfl, hga, hra⟩ := hr3 (by simp; omega)
        have ca := RdL.elem (k := 1) (f := ic) (fun _ => rfl) hra (j := j) (x := (N : Int)) (by rw [List.getElem?_map, hN]; rfl) 0 _ rfl
        simp only [Nat.mul_one, Nat.add_zero] at ca
        have HUr := Lib.hid (HU1.out.trans (BW.out.mono hzU1))
        have hrr := HH.out.below HUr.out
        have HCP := Lib.hid (copied_any x wr (hrr.n x (List.mem_of_getElem? hx)) (by have := HRT.out.names hxm; omega) (by have := HRT.out.vl x.c hxm; omega))
        obtain ⟨A4, cap4, e4, _, _, hr4⟩ := hrr.r
        injection e4 with e4 _ e5
        subst e4
        subst e5
        obtain ⟨g, o, rfl, hg, hrg⟩ := hr4 (by omega)
        have hrange : Hid (wr.rangeAt g (o + N * 3) (cc x).toList) := RdL.elem (k := 3) (f := cc) (fun _ => rfl) hrg hx
        have hat := at_cells hx
        have htk : Hid (al.take (j + 1) = al.take j ++ [N]) := by show _ = _; rw [List.take_add_one, hN]; rfl
        have hcat : Hid (Hepy.sweptW (cells h) (al.take (j + 1)) = (cells cur).set N x.c) := by
          show _ = _
          rw [htk.out, ← swept_set (by rw [cells_len]; exact hNl), HCU.out, hat]
        clear hr3 hra hN hx hxm hrr hr4 hrg hat
        go_upto_region 9 with (fail)
        clear ca
        go_wp2_with (refine wpList_load_mid rfl 46 (.tmp 36) rfl g (o + N * 3) rfl (cc x).toList _ hrange.out Try.underlying46 rfl info_cell ?_)
        refine (HCP.out).mono ?_
        rintro en w8 ⟨x', rfl, hxc, hco8, hb8⟩
        have BW8 := Lib.hid (BW.out.trans (hb8.mono (by omega)))
        have HB8 := Lib.hid (HBC.out.below hb8 HBC.out.lt)
        have hz8 := hb8.size
        have HCO8 : Hid (∀ y ∈ cur, COwn w8 (W1.heap.size + 1) y) := fun y hy => (HCO.out y hy).below hb8
        have HCX := Lib.hid (hco8.base (show W1.heap.size + 1 ≤ wr.heap.size from hzr))
        have HXC := Lib.hid hxc
        have HFIT : Hid (N * 3 + (cc x').size ≤ (flat cc cur).length) := by
          show N * 3 + 3 ≤ _
          rw [flat_len (k := 3) (fun _ => rfl)]; omega
        clear hb8 hco8 hxc HCP hrange
        go_upto_region 10 with (refine wpList_store_midbox rfl 46 (.tmp 39) (.tmp 38) rfl W1.heap.size (N * 3) (cc x') rfl rfl (flat cc cur) 46 HB8.out HFIT.out info_cell (cc_one x') ?_; intro w9 hx9 hu9 hz9)
        have hx9' := hx9.out
        rw [splice_flat (k := 3) (fun _ => rfl) cur N x' hNc] at hx9'
        have HX9 := Lib.hid hx9'
        have hb9 : Below W1.heap.size w8 w9 := hu9.own (Nat.le_refl _) (by omega)
        have BW9 := Lib.hid (BW8.out.trans hb9)
        have HCO9 : Hid (∀ y ∈ cur.set N x', COwn w9 (W1.heap.size + 1) y) := fun y hy => by
          rcases List.mem_or_eq_of_mem_set hy with h1 | h1
          · exact (HCO8.out y h1).grown hu9 (fun k hk => by injection hk with hk; omega)
          · rw [h1]; exact HCX.out.grown hu9 (fun k hk => by injection hk with hk; omega)
        have hz99 := hb9.size
        clear hx9 hx9' hu9 hb9
        go_wp2
        go_roundg (al.length - (j + 1))
        case measure => omega
        case rel =>
          refine ⟨j + 1, cur.set N x', by omega, by omega, by go_num, by rw [List.length_set]; exact hcl, ?_, HX9.out, HCO9.out, BW9.out, by omega⟩
          show _ = _
          rw [hcat.out]
          unfold cells
          rw [List.map_set, HXC.out]
      · have hlt2 : decide ((j : Int) < (al.length : Int)) = false := decide_eq_false (by omega)
        have HFIN : Hid (cells cur = Hepy.sweptW (cells h) al) := by have := HCU.out; rw [List.take_of_length_le (by omega)] at this; exact this
        have hzw := HU1.out.size
        go_wp2
        go_returns
        refine ⟨_, cur, by rw [HRE.out]; rfl, by rw [HRE.out]; exact HFIN.out, ?_, fun x hx => ⟨(HCO.out x hx).base (by omega), apart_far (HCO.out x hx).a (by omega), apart_far (HCO.out x hx).k (by omega)⟩, HU1.out.trans (BW.out.mono hzw)⟩
        rw [hcl]
        exact box_own hzw HBC.out (Nat.le_refl _) (by omega) (by rw [flat_len (k := 3) (fun _ => rfl), hcl]) (by rw [List.take_of_length_le]; rw [flat_len (k := 3) (fun _ => rfl), hcl]; exact Nat.le_refl _) (by rw [flat_len (k := 3) (fun _ => rfl), hcl])
  · have g1 : ((C : Int) != 0) = true := by simp; omega
    have Y := Lib.hid y
    clear y
    go_wp2
    go_returns
    exact ⟨_, [], by rw [HRE.out, if_pos Y.out]; rfl, by rw [HRE.out, if_pos Y.out]; rfl, World.ownsRow_nil _ _ _ _, fun x hx => by simp at hx, HU.out⟩
end Go.Proofs.Ytbhccidchjmjlaa
