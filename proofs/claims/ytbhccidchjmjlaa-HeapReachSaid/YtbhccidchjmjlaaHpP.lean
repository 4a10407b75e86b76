/-
  HeapReach returns true. Conditions: the cells and the roots read as rows; the roots take no more bytes than a row may.
-/
import Derived.Test.YtbhccidchjmjlaaHpM
import Derived.Test.YtbhccidchjmjlaaSeen
import Derived.Maps.OwnSet
namespace Hepy
set_option linter.unusedSimpArgs false
theorem reach_up {h : List Cell} (hs : Sound h) {l : List Valu.V} (hl : ∀ v ∈ l, Leads h v) {v : Valu.V} (hv : v ∈ l) : ∀ n ∈ walked h [v], n ∈ walked h l := by
  have c := walked_came hs hl
  refine walked_in (T := fun n => n ∈ walked h l) (fun n hn x hx h0 => c.cl n hn (by simp) x hx h0) (fun x hx h0 => ?_)
  rw [List.mem_singleton] at hx
  subst hx
  exact c.has x hv h0
theorem reach_down {h : List Cell} (hs : Sound h) {l : List Valu.V} (hl : ∀ v ∈ l, Leads h v) : ∀ n ∈ walked h l, ∃ v ∈ l, n ∈ walked h [v] := by
  refine walked_in (T := fun n => ∃ v ∈ l, n ∈ walked h [v]) (fun n hn x hx h0 => ?_) (fun x hx h0 => ?_)
  · obtain ⟨v, hv, hm⟩ := hn
    have c := walked_came hs (roots := [v]) (fun y hy => by rw [List.mem_singleton] at hy; subst hy; exact hl _ hv)
    exact ⟨v, hv, c.cl n hm (by simp) x hx h0⟩
  · have c := walked_came hs (roots := [x]) (fun y hy => by rw [List.mem_singleton] at hy; subst hy; exact hl _ hx)
    exact ⟨x, hx, c.has x (List.mem_singleton.2 rfl) h0⟩
theorem mem_sorted {l : List Nat} {x : Int} : x ∈ sorted l ↔ ∃ n ∈ l, x = (n : Int) := by
  unfold sorted
  rw [List.mem_mergeSort, List.mem_map]
  constructor
  · rintro ⟨n, hn, rfl⟩; exact ⟨n, hn, rfl⟩
  · rintro ⟨n, hn, rfl⟩; exact ⟨n, hn, rfl⟩
theorem sorted_len (l : List Nat) : (sorted l).length = l.length := by unfold sorted; simp
def keysOf (h : List Cell) (l : List Valu.V) : List Int := l.flatMap fun v => sorted (walked h [v])
theorem mem_keys {h : List Cell} (hs : Sound h) {l : List Valu.V} (hl : ∀ v ∈ l, Leads h v) {x : Int} : x ∈ keysOf h l ↔ ∃ n ∈ walked h l, x = (n : Int) := by
  unfold keysOf
  rw [List.mem_flatMap]
  constructor
  · rintro ⟨v, hv, hx⟩
    obtain ⟨n, hn, rfl⟩ := mem_sorted.1 hx
    exact ⟨n, reach_up hs hl hv n hn, rfl⟩
  · rintro ⟨n, hn, rfl⟩
    obtain ⟨v, hv, hm⟩ := reach_down hs hl n hn
    exact ⟨v, hv, mem_sorted.2 ⟨n, hm, rfl⟩⟩
theorem keys_snoc {h : List Cell} {l : List Valu.V} {k : Nat} {v : Valu.V} (hx : l[k]? = some v) : keysOf h (l.take (k + 1)) = keysOf h (l.take k) ++ sorted (walked h [v]) := by
  unfold keysOf
  rw [List.take_add_one, hx]
  simp
theorem nodup_sub : ∀ {l m : List Int}, l.Nodup → (∀ x ∈ l, x ∈ m) → l.length ≤ m.length
  | [], _, _, _ => Nat.zero_le _
  | a :: l, m, hd, h => by
    rw [List.nodup_cons] at hd
    have ha := h a (List.mem_cons_self ..)
    have h1 := nodup_sub (l := l) (m := m.erase a) hd.2 (fun x hx => (List.mem_erase_of_ne (fun e => by subst e; exact hd.1 hx)).2 (h x (List.mem_cons_of_mem _ hx)))
    rw [List.length_erase_of_mem ha] at h1
    have h2 : 0 < m.length := List.length_pos_of_mem ha
    rw [List.length_cons]; omega
def addI (acc : List Int) (x : Int) : List Int := if acc.contains x then acc else acc ++ [x]
theorem addI_ok : ∀ (ks acc : List Int), acc.Nodup → (ks.foldl addI acc).Nodup ∧ ∀ x, x ∈ ks.foldl addI acc ↔ x ∈ acc ∨ x ∈ ks
  | [], acc, h => ⟨h, fun x => by simp⟩
  | k :: ks, acc, h => by
    rw [List.foldl_cons]
    have h2 : (addI acc k).Nodup ∧ ∀ x, x ∈ addI acc k ↔ x ∈ acc ∨ x = k := by
      unfold addI
      by_cases hc : acc.contains k = true
      · rw [if_pos hc]
        refine ⟨h, fun x => ⟨.inl, fun hx => hx.elim id (fun e => ?_)⟩⟩
        subst e
        simpa using hc
      · rw [if_neg hc]
        have hn : k ∉ acc := by simpa using hc
        refine ⟨?_, fun x => by simp⟩
        rw [List.nodup_append]
        exact ⟨h, by simp, fun a ha b hb e => by simp at hb; subst hb; exact hn (e ▸ ha)⟩
    obtain ⟨h3, h4⟩ := addI_ok ks (addI acc k) h2.1
    refine ⟨h3, fun x => ?_⟩
    rw [h4, h2.2, List.mem_cons]
    constructor
    · rintro ((h | h) | h)
      · exact .inl h
      · exact .inr (.inl h)
      · exact .inr (.inr h)
    · rintro (h | h | h)
      · exact .inl (.inl h)
      · exact .inl (.inr h)
      · exact .inr h
theorem addKey_ints : ∀ (ks acc : List Int), (ks.map (Go.Lit.int .i64)).foldl Go.Maps.addKey (acc.map (Go.Lit.int .i64)) = (ks.foldl addI acc).map (Go.Lit.int .i64)
  | [], _ => rfl
  | k :: ks, acc => by
    rw [List.map_cons, List.foldl_cons, List.foldl_cons, ← addKey_ints ks (addI acc k)]
    congr 1
    unfold Go.Maps.addKey addI
    have : (acc.map (Go.Lit.int .i64)).any (fun y => y.sameKey (.int .i64 k)) = acc.contains k := by
      rw [List.any_map, Bool.eq_iff_iff, List.any_eq_true, List.contains_iff_mem]
      constructor
      · rintro ⟨x, hx, h⟩
        simp [Go.Lit.sameKey] at h
        rw [← h]; exact hx
      · intro h; exact ⟨k, h, by simp [Go.Lit.sameKey]⟩
    rw [this]
    split
    · rfl
    · simp
theorem size_keys {h : List Cell} (hs : Sound h) {l : List Valu.V} (hl : ∀ v ∈ l, Leads h v) : Go.Maps.size (Seeny.seen (keysOf h l)) = (walked h l).length := by
  have e1 : Go.Maps.size (Seeny.seen (keysOf h l)) = ((keysOf h l).foldl addI []).length := by
    unfold Seeny.seen
    rw [Go.Maps.size_setOf _ _ (Seeny.seen_keys _), show ([] : List Go.Lit) = ([] : List Int).map (Go.Lit.int .i64) from rfl, addKey_ints, List.length_map]
  obtain ⟨h1, h2⟩ := addI_ok (keysOf h l) [] List.nodup_nil
  have hw := (walked_came hs hl).ok.nd
  have h3 : ((walked h l).map fun n : Nat => (n : Int)).Nodup := by
    unfold List.Nodup
    rw [List.pairwise_map]
    exact hw.imp (fun hab he => hab (by omega))
  rw [e1]
  have h4 := nodup_sub h1 (m := (walked h l).map fun n : Nat => (n : Int)) (fun x hx => by
    have := (h2 x).1 hx
    simp only [List.not_mem_nil, false_or] at this
    obtain ⟨n, hn, rfl⟩ := (mem_keys hs hl).1 this
    exact List.mem_map.2 ⟨n, hn, rfl⟩)
  have h5 := nodup_sub h3 (m := (keysOf h l).foldl addI []) (fun x hx => by
    obtain ⟨n, hn, rfl⟩ := List.mem_map.1 hx
    exact (h2 _).2 (.inr ((mem_keys hs hl).2 ⟨n, hn, rfl⟩)))
  rw [List.length_map] at h4 h5
  omega
end Hepy
namespace Go.Proofs.Ytbhccidchjmjlaa
set_option linter.unusedSimpArgs false
set_option linter.unusedVariables false
open Go.RowKit Go.Maps

theorem map_kept {w w1 : World} {m k : Nat} {d : DataW Unit} {row : Option Nat} (h : w.ownsMap Try.prog 3 (plainElem (H := Unit) Try.prog 3) m k d) (hg : w.grownBy w1 row) (hr : some m ≠ row) : w1.ownsMap Try.prog 3 (plainElem (H := Unit) Try.prog 3) m k d := h.kept hg hr
theorem map_below {w w1 : World} {m k : Nat} {d : DataW Unit} (h : w.ownsMap Try.prog 3 (plainElem (H := Unit) Try.prog 3) m k d) (hb : Below w.heap.size w w1) : w1.ownsMap Try.prog 3 (plainElem (H := Unit) Try.prog 3) m k d :=
  map_kept (row := none) h ⟨hb.os, hb.tape, hb.output, hb.size, fun i hi _ => hb.block i hi⟩ (by simp)
theorem look_seen {w : World} {m k : Nat} {gone : List Int} {n : Int} (h : w.ownsMap Try.prog 3 (plainElem (H := Unit) Try.prog 3) m k (Seeny.seen gone)) (hw : (Lit.int .i64 n).wf = true) :
    (Instr.lookup 29 (.map (some m)) (.int .i64 n) false).run Try.prog w = .ok (.int .i64 (if gone.contains n then 1 else 0)) w := by
  have hkey := keyOf_int_mk (P := Try.prog) Try.underlying3 hw
  obtain ⟨c, hrun, hat, _⟩ := h.lookup_int (t := 29) intKey Try.underlying29 Try.underlying3 (zero_intv _) hkey
  have ha := Seeny.atKey_seen n (.lit (.int .i64 0)) gone.reverse
  rw [List.reverse_reverse, hat] at ha
  have hcr : gone.reverse.contains n = gone.contains n := by simp
  rw [hcr] at ha
  rw [hrun]
  by_cases hc : gone.contains n = true
  · rw [if_pos hc] at ha ⊢; injection ha with ha; injection ha with _ ha; rw [ha]
  · rw [if_neg hc] at ha ⊢; injection ha with ha; injection ha with _ ha; rw [ha]
theorem map_ne {w : World} {b n : Nat} {d : DataW Unit} (h : w.ownsMap Try.prog 3 (plainElem (H := Unit) Try.prog 3) b n d) {g o : Nat} {v : Value} (hc : w.cell? ⟨g, o, none⟩ = some v) : g ≠ b := by
  obtain ⟨es, clock, hb, _⟩ := h
  intro e
  subst e
  simp [World.cell?, hb] at hc
theorem wf_small {n : Nat} (h : n ≤ 1000000) : (Lit.int .i64 (n : Int)).wf = true := by
  simp only [Lit.wf, Bool.and_eq_true, decide_eq_true_eq]
  constructor
  · exact Int.le_trans (by decide) (Int.natCast_nonneg n)
  · exact Int.le_trans (Int.ofNat_le.2 h) (by decide)
set_option maxRecDepth 100000 in
set_option maxHeartbeats 8000000 in
theorem reach_walk (h : List CellV) (hv : Value) (l : List Valu.V) (v : Value) (w : World) (hr : HRd w h hv) (hl : RdL w 3 vc l v) (hz : Szs l) (hlz : l.length * 32 ≤ 140737488355328) :
    Calls Try.prog 3 #[hv, v] w fun en w' => en = .returned (.bool true) ∧ Below w.heap.size w w' := by
  have HRE := Lib.hid (Reach_any h hv l v w hr hl hz)
  have HRY : Hid (∀ y ∈ l, ∀ w' v', Below w.heap.size w w' → RdL w' 3 vc [y] v' → Calls Try.prog 8 #[hv, v'] w' fun e w'' => ReachOut w' (Hepy.reach (cells h) [y]) e w'') := fun y hy w' v' hb hv' => Reach_any h hv [y] v' w' (hr.below hb) hv' (fun x hx => by rw [List.mem_singleton] at hx; subst hx; exact hz _ hy)
  have HLV := Lib.hid heapLives_true
  obtain ⟨C, hC⟩ : ∃ C, Hepy.askedH (cells h) l = C := ⟨_, rfl⟩
  have HREQ : Hid (Hepy.reach (cells h) l = if C ≠ 0 then ([], C) else (Hepy.sorted (Hepy.walked (cells h) l), 0)) := by show _ = _; unfold Hepy.reach; rw [hC]
  have HC := Lib.hid hC
  have HL := Lib.hid hl
  obtain ⟨UA, ucap, rfl, _⟩ := hr.r
  obtain ⟨A, cap, rfl, hc1, hc2, -⟩ := hl
  obtain ⟨rl, re, hre⟩ : ∃ rl re, Hepy.reach (cells h) l = (rl, re) := ⟨_, _, rfl⟩
  rw [hre] at HRE HREQ
  clear hr hC hre
  go_enter Try.func3, Try.ntmps3
  go_wp2_with (fail)
  refine (HRE.out).mono ?_
  rintro en W ⟨v1, rfl, hrd1, hbW⟩
  have HU := Lib.hid hbW
  have HR1 : Hid (RdL W 1 ic rl v1) := hrd1
  obtain ⟨A1, cap1, rfl, _⟩ := hrd1
  clear hbW HRE
  simp only
  go_wp2_with (fail)
  refine (HLV.out _).mono ?_
  rintro en W1 ⟨rfl, hb1⟩
  have HU1 := Lib.hid (HU.out.trans (hb1.mono HU.out.size))
  have HR2 := Lib.hid (HR1.out.below hb1)
  have hz1 := HU1.out.size
  clear hb1 HR1
  by_cases y : C = 0
  · subst y
    have hq := HREQ.out
    simp only [ne_eq, not_true_eq_false, if_false] at hq
    injection hq with hq1 hq2
    subst hq2
    have HRL := Lib.hid hq1
    have g1 : (((0 : Nat) : Int) != 0) = false := by simp
    obtain ⟨hright, hfit⟩ := Hepy.asked_zero.1 HC.out
    have hld : ∀ v ∈ l, Hepy.Leads (cells h) v := fun v hv => (Hepy.fits_leads (List.all_eq_true.1 hfit v hv)).1
    have hle : h.length ≤ 300 := by have := hright.le; rw [cells_len] at this; exact this
    have HRT := Lib.hid hright
    have HFT := Lib.hid hfit
    have HLD := Lib.hid hld
    have HSM : Hid (∀ (y : Valu.V), y ∈ l → (Hepy.sorted (Hepy.walked (cells h) [y])).length ≤ 300 ∧ ∀ x ∈ Hepy.sorted (Hepy.walked (cells h) [y]), ∃ n : Nat, x = (n : Int) ∧ n ≤ 300) := fun y hy => by
      have hok := (Hepy.walked_came hright.sound (roots := [y]) (fun x hx => by rw [List.mem_singleton] at hx; subst hx; exact hld _ hy)).ok
      refine ⟨by rw [Hepy.sorted_len]; have := hok.len; rw [cells_len] at this; omega, fun x hx => ?_⟩
      obtain ⟨n, hn, rfl⟩ := Hepy.mem_sorted.1 hx
      exact ⟨n, rfl, by have := hok.lt n hn; rw [cells_len] at this; omega⟩
    have hmm := @run_makeMap Try.prog
    have hmo := World.ownsMap_made (H := Unit) W1 Try.prog 3 (plainElem Try.prog 3)
    have hmo' : (W1.alloc (.map #[] 0)).ownsMap Try.prog 3 (plainElem (H := Unit) Try.prog 3) W1.heap.size 0 (Seeny.seen []) := by simpa [Seeny.seen, setOf] using hmo
    have HMO := Lib.hid hmo'
    clear hq1 hright hfit hld hmo hmo'
    go_upto_region 6 with (fail)
    clear hmm
    go_loopg [37] l.length (fun gg s37 wr => ∃ (j n : Nat), j ≤ l.length ∧ l.length - j ≤ gg ∧ s37 = .int .i64 (j : Int) ∧ n ≤ 300 * j ∧ W1.heap.size < wr.heap.size ∧ Hid (Below W1.heap.size W1 wr) ∧ Hid (wr.ownsMap Try.prog 3 (plainElem (H := Unit) Try.prog 3) W1.heap.size n (Seeny.seen (Hepy.keysOf (cells h) (l.take j)))))
    case atStart => exact ⟨0, 0, Nat.zero_le _, by omega, rfl, by omega, by simp, below1 _ _, HMO.out⟩
    case round =>
      obtain ⟨j, n, hj, hgg, rfl, hn, hzm, BW, OM⟩ := hrel
      have hzr := BW.out.size
      by_cases hlt : j < l.length
      · have hlt2 : decide ((j : Int) < (l.length : Int)) = true := decide_eq_true (by omega)
        have hltz : (j : Int) < (l.length : Int) := by omega
        obtain ⟨y, hy⟩ : ∃ y, l[j]? = some y := ⟨_, List.getElem?_eq_getElem hlt⟩
        have hym := List.mem_of_getElem? hy
        have hks := Hepy.keys_snoc (h := cells h) hy
        have HKS := Lib.hid hks
        have hsm := HSM.out y hym
        have hasy : Hepy.askedH (cells h) [y] = 0 := Hepy.asked_zero.2 ⟨HRT.out, by simp [List.all_eq_true.1 HFT.out y hym]⟩
        have hrey : Hepy.reach (cells h) [y] = (Hepy.sorted (Hepy.walked (cells h) [y]), 0) := by unfold Hepy.reach; rw [hasy]; rfl
        have hry := HRY.out y hym
        rw [hrey] at hry
        obtain ⟨sl, hsl⟩ : ∃ sl, Hepy.sorted (Hepy.walked (cells h) [y]) = sl := ⟨_, rfl⟩
        rw [hsl] at hry hsm HKS
        have HRYY := Lib.hid hry
        have hslen : sl.length ≤ 300 := hsm.1
        have HSMX := Lib.hid hsm.2
        obtain ⟨A5, cap5, e5, _, _, hr5⟩ := HL.out.below (HU1.out.trans (BW.out.mono hz1))
        injection e5 with e5 _ e6
        subst e5
        subst e6
        obtain ⟨g5, o5, rfl, hg5, hrg5⟩ := hr5 (by omega)
        have hrange : Hid (wr.rangeAt g5 (o5 + j * 3) (vc y).toList) := RdL.elem (k := 3) (f := vc) (fun _ => rfl) hrg5 hy
        clear hr5 hrg5 hy hym hks hsm hasy hrey hry hsl
        go_upto_region 8 with (first | (refine wpList_load_mid rfl 31 (.tmp 39) rfl g5 (o5 + j * 3) rfl (vc y).toList _ hrange.out Try.underlying31 rfl info_val ?_) | (refine wpList_store_box rfl 31 (.tmp 9) (.tmp 40) rfl wr.heap.size (vc y) rfl rfl 31 _ (Box.new wr _ _) info_val rfl (vc_one y) ?_; intro w6 hx6 hu6 hz6))
        have hb6 : Below wr.heap.size wr w6 := ((Below.refl _ wr).alloc (Nat.le_refl _) _).trans (hu6.own (Nat.le_refl _) (by simp))
        have BW6 := Lib.hid (BW.out.trans (hb6.mono hzr))
        have OM6 := Lib.hid (map_below OM.out hb6)
        have HX6 := Lib.hid hx6
        have hz66 := hb6.size
        have hz6W := BW6.out.size
        clear hb6 hu6 hx6 hz6 hrange BW OM
        go_wp2_with (refine wpList_load_row rfl 31 (.tmp 9) rfl wr.heap.size rfl _ (vc y) (0, 0) _ HX6.out Try.underlying31 rfl info_val ?_)
        refine (HRYY.out _ (.slice (some ⟨w6.heap.size, 0, none⟩) 1 1) (HU1.out.trans ((BW6.out.trans ((below1 w6 _).mono hz6W)).mono hz1)) (rd_box (Box.new w6 _ _) (by rfl) rfl (by omega))).mono ?_
        rintro en w7 ⟨v7, rfl, hrd7, hb7⟩
        have hb67 : Below w6.heap.size w6 w7 := (below1 w6 _).trans (hb7.mono (by simp))
        have BW7 := Lib.hid (BW6.out.trans (hb67.mono hz6W))
        have OM7 := Lib.hid (map_below OM6.out hb67)
        have HR7 : Hid (RdL w7 1 ic sl v7) := hrd7
        obtain ⟨A7, cap7, rfl, _⟩ := hrd7
        have hz77 := hb67.size
        clear hb7 hb67 OM6
        simp only
        have g2 : (((0 : Nat) : Int) != 0) = false := by simp
        go_upto_region 12 with (fail)
        obtain ⟨wo, rfl⟩ : ∃ wo : World, wo = wr := ⟨_, rfl⟩
        go_loopg [52] sl.length (fun gg s52 wr => ∃ (i n2 : Nat), i ≤ sl.length ∧ sl.length - i ≤ gg ∧ s52 = .int .i64 (i : Int) ∧ n2 ≤ 300 * j + i ∧ w7.heap.size ≤ wr.heap.size ∧ Hid (Upd w7 wr W1.heap.size) ∧ Hid (wr.ownsMap Try.prog 3 (plainElem (H := Unit) Try.prog 3) W1.heap.size n2 (Seeny.seen (Hepy.keysOf (cells h) (l.take j) ++ sl.take i))))
        case atStart => exact ⟨0, n, Nat.zero_le _, by omega, rfl, by omega, Nat.le_refl _, Upd.refl _ _, by show World.ownsMap _ _ _ _ _ _ _; simpa using OM7.out⟩
        case round =>
          obtain ⟨i, n2, hi, hgg2, rfl, hn2, hzz, BU, OM2⟩ := hrel
          by_cases hlt3 : i < sl.length
          · have hlt4 : decide ((i : Int) < (sl.length : Int)) = true := decide_eq_true (by omega)
            have hltz4 : (i : Int) < (sl.length : Int) := by omega
            obtain ⟨x, hx⟩ : ∃ x, sl[i]? = some x := ⟨_, List.getElem?_eq_getElem hlt3⟩
            obtain ⟨N, hxN, hN⟩ := HSMX.out x (List.mem_of_getElem? hx)
            have htk : Hid (Hepy.keysOf (cells h) (l.take j) ++ sl.take (i + 1) = (Hepy.keysOf (cells h) (l.take j) ++ sl.take i) ++ [x]) := by
              show _ = _
              rw [List.take_add_one, hx]; simp
            obtain ⟨A8, cap8, e8, _, _, hr8⟩ := HR7.out
            injection e8 with e8 _ e9
            subst e8
            subst e9
            obtain ⟨g8, o8, rfl, hg8, hrg8⟩ := hr8 (by omega)
            have hc8 := RdL.elem (k := 1) (f := ic) (fun _ => rfl) hrg8 hx 0 _ rfl
            simp only [Nat.mul_one, Nat.add_zero] at hc8
            have c8 := (upd_cell (i := o8 + i) BU.out (map_ne OM7.out hc8) hg8).trans hc8
            subst hxN
            have hkey := keyOf_int_mk (P := Try.prog) Try.underlying3 (wf_small (show N ≤ 1000000 by omega))
            have HKEY := Lib.hid hkey
            have hN2 : (N : Int) ≤ 300 := by omega
            clear hr8 hrg8 hx hc8 hkey
            go_wp2_with (at_mapUpdate; refine wpList_mapUpdate_own _ rfl _ _ _ 29 rfl 3 3 intKey Try.underlying29 _ W1.heap.size n2 _ rfl OM2.out (by unfold maxLen; omega) _ _ _ rfl rfl HKEY.out _ [] (plainElem_int Try.underlying3 (by decide)) ?_; intro w9 hown9 hgrow9)
            have hz9 := hgrow9.size
            go_roundg (sl.length - (i + 1))
            case measure => omega
            case rel => exact ⟨i + 1, n2 + 1, by omega, by omega, by go_num, by omega, by omega, BU.out.trans hgrow9, by show World.ownsMap _ _ _ _ _ _ _; rw [htk.out, Seeny.seen_snoc]; exact hown9⟩
          · have hlt4 : decide ((i : Int) < (sl.length : Int)) = false := decide_eq_false (by omega)
            obtain rfl : i = sl.length := by omega
            have hbu : Below W1.heap.size w7 wr := BU.out.own (Nat.le_refl _) (by omega)
            have BW9 := Lib.hid (BW7.out.trans hbu)
            have OM9 : Hid (wr.ownsMap Try.prog 3 (plainElem (H := Unit) Try.prog 3) W1.heap.size n2 (Seeny.seen (Hepy.keysOf (cells h) (l.take (j + 1))))) := by
              show World.ownsMap _ _ _ _ _ _ _
              have h1 := OM2.out
              rw [List.take_length, ← HKS.out] at h1
              exact h1
            clear hbu BU OM2
            go_wp2
            go_roundg (l.length - (j + 1))
            case measure => omega
            case rel => exact ⟨j + 1, n2, by omega, by omega, by go_num, by omega, by omega, BW9.out, OM9.out⟩
      · have hlt2 : decide ((j : Int) < (l.length : Int)) = false := decide_eq_false (by omega)
        obtain rfl : j = l.length := by omega
        obtain ⟨wi, rfl⟩ : ∃ wi : World, wi = wr := ⟨_, rfl⟩
        have HSZ : Hid (Maps.size (Seeny.seen (Hepy.keysOf (cells h) l)) = rl.length) := by
          show _ = _
          rw [Hepy.size_keys HRT.out.sound HLD.out, HRL.out, Hepy.sorted_len]
        have HMEM : Hid (∀ x ∈ rl, (Hepy.keysOf (cells h) l).contains x = true ∧ (Lit.int .i64 x).wf = true) := fun x hx => by
          rw [HRL.out] at hx
          obtain ⟨m, hm, rfl⟩ := Hepy.mem_sorted.1 hx
          refine ⟨by rw [List.contains_iff_mem]; exact (Hepy.mem_keys HRT.out.sound HLD.out).2 ⟨m, hm, rfl⟩, wf_small ?_⟩
          have := (Hepy.walked_came HRT.out.sound HLD.out).ok.lt m hm
          rw [cells_len] at this
          omega
        have OMi := OM.out
        rw [List.take_length] at OMi
        obtain ⟨ks, hks⟩ : ∃ ks, Hepy.keysOf (cells h) l = ks := ⟨_, rfl⟩
        rw [hks] at OMi HMEM HSZ
        have HOM := Lib.hid OMi
        have HRI := Lib.hid (HR2.out.below BW.out)
        have HUi := Lib.hid (HU1.out.trans (BW.out.mono hz1))
        have hrll : rl.length ≤ 9223372036854775807 := by
          obtain ⟨_, _, e, h1, h2, _⟩ := HR2.out
          injection e with _ _ e
          omega
        clear OMi OM BW hks
        go_upto_region 18 with (fail)
        go_loopg [62] rl.length (fun gg s62 wr => ∃ i : Nat, i ≤ rl.length ∧ rl.length - i ≤ gg ∧ s62 = .int .i64 (i : Int) ∧ wr = wi)
        case atStart => exact ⟨0, Nat.zero_le _, by omega, rfl, rfl⟩
        case round =>
          obtain ⟨i, hi, hgg2, rfl, rfl⟩ := hrel
          by_cases hlt3 : i < rl.length
          · have hlt4 : decide ((i : Int) < (rl.length : Int)) = true := decide_eq_true (by omega)
            have hltz4 : (i : Int) < (rl.length : Int) := by omega
            obtain ⟨x, hx⟩ : ∃ x, rl[i]? = some x := ⟨_, List.getElem?_eq_getElem hlt3⟩
            have hm := HMEM.out x (List.mem_of_getElem? hx)
            have hlook := look_seen HOM.out hm.2
            rw [hm.1] at hlook
            simp only [if_true] at hlook
            obtain ⟨A8, cap8, e8, _, _, hr8⟩ := HRI.out
            injection e8 with e8 _ e9
            subst e8
            subst e9
            obtain ⟨g8, o8, rfl, hg8, hrg8⟩ := hr8 (by omega)
            have c8 := RdL.elem (k := 1) (f := ic) (fun _ => rfl) hrg8 hx 0 _ rfl
            simp only [Nat.mul_one, Nat.add_zero] at c8
            clear hr8 hrg8 hx hm
            go_wp2
            go_roundg (rl.length - (i + 1))
            case measure => omega
            case rel => exact ⟨i + 1, by omega, by omega, by go_num, rfl⟩
          · have hlt4 : decide ((i : Int) < (rl.length : Int)) = false := decide_eq_false (by omega)
            have hse : ((Maps.size (Seeny.seen ks) : Int) == (rl.length : Int)) = true := by rw [HSZ.out]; simp
            have hseN : (Maps.size (Seeny.seen ks) == rl.length) = true := by rw [HSZ.out]; simp
            go_wp2_with (at_len; refine wpList_len_own _ rfl _ 29 rfl 3 3 Try.underlying29 _ W1.heap.size n _ rfl HOM.out ?_)
            go_ret
            exact ⟨rfl, HUi.out⟩
  · have hq := HREQ.out
    rw [if_pos y] at hq
    injection hq with hq1 hq2
    subst hq1
    subst hq2
    have g1 : ((re : Int) != 0) = true := by simp; omega
    clear y
    go_wp2_with (fail)
    refine (HLV.out _).mono ?_
    rintro en W2 ⟨rfl, hb2⟩
    go_wp2
    go_ret
    exact ⟨rfl, HU1.out.trans (hb2.mono hz1)⟩
end Go.Proofs.Ytbhccidchjmjlaa
