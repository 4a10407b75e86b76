/-
  slices at listeners and at hearings: copied, compared, looked for. Conditions: as each says.
-/
import Derived.Test.YtdommcjlpibpeaaDoorEvL
namespace Go.Proofs.YtdommcjlpibpeaaDoor
set_option linter.unusedSimpArgs false
set_option linter.unusedVariables false
open Go.RowKit

set_option maxRecDepth 100000 in
theorem neq_of_eql {t : TypeId} {x y : Array Value} {b : Bool} {w : World} (h : (binOp .eql t (.agg x) (.agg y)).run Tryd.prog w = .ok (.bool b) w) : (binOp .neq t (.agg x) (.agg y)).run Tryd.prog w = .ok (.bool (!b)) w := by
  rw [run_eql_struct] at h
  rw [run_neq_struct]
  cases hr : (Op.equalIn 10000 t (.agg x) (.agg y)).run Tryd.prog w with
  | ok x w1 =>
    rw [hr] at h
    simp only [Result.andThen_ok] at h ⊢
    injection h with h1 h2
    injection h1 with h1
    rw [h1, h2]
  | halt x w1 => rw [hr] at h; simp [Result.andThen] at h
theorem lis_ext (a b : Evy.Lis) : (decide (a = b)) = (decide (a.id = b.id) && (decide (a.node = b.node) && (decide ((byt a.typ).toList = (byt b.typ).toList) && (decide (a.capture = b.capture) && (decide (a.once = b.once) && (decide (a.stops = b.stops) && (decide (a.all = b.all) && decide (a.prevents = b.prevents)))))))) := by
  rw [byt_list, byt_list, Bool.eq_iff_iff]
  obtain ⟨a0, a1, a2, a3, a4, a5, a6, a7⟩ := a
  obtain ⟨b0, b1, b2, b3, b4, b5, b6, b7⟩ := b
  simp only [Evy.Lis.mk.injEq, Bool.and_eq_true, decide_eq_true_eq]
theorem eql_lis (a b : Evy.Lis) (w : World) : (binOp .eql 43 (.agg (lc a)) (.agg (lc b))).run Tryd.prog w = .ok (.bool (decide (a = b))) w := by
  have uli := Tryd.underlying3
  have agi := Tryd.isAgg3
  have szi := Tryd.sizeOf3
  have uls := Tryd.underlying9
  have ags := Tryd.isAgg9
  have szs := Tryd.sizeOf9
  have ulb := Tryd.underlying4
  have agb := Tryd.isAgg4
  have szb := Tryd.sizeOf4
  have hS : Tryd.prog.underlying 43 = some (.struct (Tryd.prog.fieldsOf 43)) := by kernel_rfl
  have hp : Tryd.prog.stoodInHeld 43 = false := by kernel_rfl
  rw [lis_ext]
  rw [run_eql_struct, show (10000 : Nat) = 9999 + 1 from rfl, run_equalIn_agg w 9999 43 _ _ hS hp]
  simp only [Program.fieldsOf, Tryd.underlying43]
  go_simp
  by_cases h0 : a.id = b.id <;> by_cases h1 : a.node = b.node <;> by_cases h2 : (byt a.typ).toList = (byt b.typ).toList <;> by_cases h3 : a.capture = b.capture <;> by_cases h4 : a.once = b.once <;> by_cases h5 : a.stops = b.stops <;> by_cases h6 : a.all = b.all <;> by_cases h7 : a.prevents = b.prevents <;> simp [h0, h1, h2, h3, h4, h5, h6, h7]
theorem neq_lis (a b : Evy.Lis) (w : World) : (binOp .neq 43 (.agg (lc a)) (.agg (lc b))).run Tryd.prog w = .ok (.bool (!decide (a = b))) w := neq_of_eql (eql_lis a b w)
theorem hrd_ext (a b : Evy.Hrd) : (decide (a = b)) = (decide (a.lis = b.lis) && (decide (a.node = b.node) && decide (a.phase = b.phase))) := by
  rw [Bool.eq_iff_iff]
  obtain ⟨a0, a1, a2⟩ := a
  obtain ⟨b0, b1, b2⟩ := b
  simp only [Evy.Hrd.mk.injEq, Bool.and_eq_true, decide_eq_true_eq]
theorem eql_hrd (a b : Evy.Hrd) (w : World) : (binOp .eql 46 (.agg (hc a)) (.agg (hc b))).run Tryd.prog w = .ok (.bool (decide (a = b))) w := by
  have uli := Tryd.underlying3
  have agi := Tryd.isAgg3
  have szi := Tryd.sizeOf3
  have hS : Tryd.prog.underlying 46 = some (.struct (Tryd.prog.fieldsOf 46)) := by kernel_rfl
  have hp : Tryd.prog.stoodInHeld 46 = false := by kernel_rfl
  rw [hrd_ext]
  rw [run_eql_struct, show (10000 : Nat) = 9999 + 1 from rfl, run_equalIn_agg w 9999 46 _ _ hS hp]
  simp only [Program.fieldsOf, Tryd.underlying46]
  go_simp
  by_cases h0 : a.lis = b.lis <;> by_cases h1 : a.node = b.node <;> by_cases h2 : a.phase = b.phase <;> simp [h0, h1, h2]
theorem neq_hrd (a b : Evy.Hrd) (w : World) : (binOp .neq 46 (.agg (hc a)) (.agg (hc b))).run Tryd.prog w = .ok (.bool (!decide (a = b))) w := neq_of_eql (eql_hrd a b w)
theorem parts_lis : (Tryd.prog.info? 43).map (fun i => (i.zero, i.size, i.bytes)) = some (some (.agg #[.int .i64 0, .int .i64 0, .string ⟨#[]⟩, .bool false, .bool false, .bool false, .bool false, .bool false]), 8, 40) := by kernel_rfl
theorem zero_lis (w : World) : (zeroValue 43).run Tryd.prog w = .ok (.agg #[.int .i64 0, .int .i64 0, .string ⟨#[]⟩, .bool false, .bool false, .bool false, .bool false, .bool false]) w := by kernel_rfl
set_option maxHeartbeats 1000000 in
theorem index_lis (l : List Evy.Lis) (p : Evy.Lis → Bool) (g : Nat) (lb : Array Value) (v : Value) (w : World) (eg : ∀ args w, (callFunc g args).run Tryd.prog w = .ok (.enter g args) w)
    (hp : ∀ x ∈ l, ∀ w1, Below w.heap.size w w1 → Calls Tryd.prog g (#[.agg (lc x)] ++ lb) w1 fun e w' => e = .returned (.bool (p x)) ∧ Below w1.heap.size w1 w')
    (hR : RdL w 8 lc l v) (hl : l.length ≤ 1000000) :
    Calls Tryd.prog 20 #[v, .func (.func g) #[] lb] w fun e w' => e = .returned (.int .i64 (idx p l)) ∧ Below w.heap.size w w' := by
  obtain ⟨A, cap, rfl, hcap1, hcap2, hrow⟩ := hR
  have HP := Lib.hid hp
  have HR := Lib.hid hrow
  clear hp hrow
  go_enter Tryd.func20, Tryd.ntmps20
  go_wp2
  go_loopg [5, 8] l.length (fun gg _ s8 wr => ∃ kk : Nat, kk ≤ l.length ∧ l.length - kk ≤ gg ∧ s8 = .int .i64 (kk : Int) ∧ Hid (Below w.heap.size w wr) ∧ Hid (∀ j y, j < kk → l[j]? = some y → p y = false))
  case atStart => exact ⟨0, Nat.zero_le _, by omega, rfl, Below.refl _ w, fun j y hj => absurd hj (Nat.not_lt_zero _)⟩
  case round =>
    obtain ⟨kk, hkk, hg, rfl, BW, AA⟩ := hrel
    by_cases hlt : kk < l.length
    · have hltz : (kk : Int) < (l.length : Int) := by omega
      obtain ⟨y, hy⟩ : ∃ y, l[kk]? = some y := ⟨_, List.getElem?_eq_getElem hlt⟩
      obtain ⟨g0, o, rfl, hg0, hrg⟩ := HR.out (by omega)
      have hrange : Hid (wr.rangeAt g0 (o + kk * 8) (lc y).toList) := fun i u hu => by
        rw [BW.out.cell (p := ⟨g0, o + kk * 8 + i, none⟩) hg0]
        exact RdL.elem (f := lc) (fun _ => rfl) hrg hy i u hu
      have hcall0 := HP.out y (List.mem_of_getElem? hy) wr BW.out
      have HY := Lib.hid hy
      clear hy hrg
      cases hq : p y with
      | true =>
        rw [hq] at hcall0
        have hcall := Lib.hid hcall0
        clear hcall0
        go_wp2_with (refine wpList_load_mid rfl 43 (.tmp 14) rfl g0 (o + kk * 8) rfl (lc y).toList _ hrange.out Tryd.underlying43 rfl info_lis ?_)
        refine (hcall.out).mono ?_
        rintro e w1 ⟨rfl, hb'⟩
        go_wp2
        go_ret
        refine ⟨?_, BW.out.trans (hb'.mono BW.out.size)⟩
        rw [idx_hit p l kk y HY.out hq AA.out]; rfl
      | false =>
        rw [hq] at hcall0
        have hcall := Lib.hid hcall0
        clear hcall0
        go_wp2_with (refine wpList_load_mid rfl 43 (.tmp 14) rfl g0 (o + kk * 8) rfl (lc y).toList _ hrange.out Tryd.underlying43 rfl info_lis ?_)
        refine (hcall.out).mono ?_
        rintro e w1 ⟨rfl, hb'⟩
        go_wp2
        go_roundg (l.length - (kk + 1))
        case measure => omega
        case rel =>
          refine ⟨kk + 1, by omega, by omega, by go_num, BW.out.trans (hb'.mono BW.out.size), (show Hid _ from fun j z hj hz => ?_)⟩
          by_cases e : j = kk
          · subst e
            have := HY.out
            rw [hz] at this
            injection this with this
            rw [this]; exact hq
          · exact AA.out j z (by omega) hz
    · have hltz : ¬ (kk : Int) < (l.length : Int) := by omega
      go_wp2
      go_ret
      refine ⟨?_, BW.out⟩
      rw [idx_miss p l (fun j y hy => AA.out j y (by have := (List.getElem?_eq_some_iff.1 hy).1; omega) hy)]; rfl
set_option maxHeartbeats 1000000 in
theorem contains_lis (l : List Evy.Lis) (p : Evy.Lis → Bool) (g : Nat) (lb : Array Value) (v : Value) (w : World) (eg : ∀ args w, (callFunc g args).run Tryd.prog w = .ok (.enter g args) w)
    (hp : ∀ x ∈ l, ∀ w1, Below w.heap.size w w1 → Calls Tryd.prog g (#[.agg (lc x)] ++ lb) w1 fun e w' => e = .returned (.bool (p x)) ∧ Below w1.heap.size w1 w')
    (hR : RdL w 8 lc l v) (hl : l.length ≤ 1000000) :
    Calls Tryd.prog 17 #[v, .func (.func g) #[] lb] w fun e w' => e = .returned (.bool (l.any p)) ∧ Below w.heap.size w w' := by
  have H := Lib.hid (index_lis l p g lb v w eg hp hR hl)
  have HI := Lib.hid (idx_any p l)
  clear hp hR
  go_enter Tryd.func17, Tryd.ntmps17
  go_wp2_with (fail)
  refine (H.out).mono ?_
  rintro e w1 ⟨rfl, hb⟩
  go_wp2
  go_ret
  exact ⟨ret_bool (by simpa using HI.out), hb⟩
set_option maxRecDepth 100000 in
set_option maxHeartbeats 1000000 in
theorem clone_lis (l : List Evy.Lis) (v : Value) (w : World) (hR : RdL w 8 lc l v) (hl : l.length * 40 ≤ 140737488355328) :
    Calls Tryd.prog 12 #[v] w fun e w' => OwnOut w 43 8 l.length (flat lc l) e w' := by
  obtain ⟨A, cap, rfl, hcap1, hcap2, hrow⟩ := hR
  obtain ⟨i0, hi0, hz0, hz1, hz2⟩ := info_parts parts_lis
  have hlen := flat_len (f := lc) (k := 8) (fun _ => rfl) l
  have hone := Lib.hid (flat_one (f := lc) lc_one l)
  cases A with
  | none =>
    have h0 : l = [] := by
      cases l with
      | nil => rfl
      | cons x l => obtain ⟨_, _, h, _⟩ := hrow (by simp); cases h
    subst h0
    have hnil := fun w => Lib.run_eql_slice_nil (P := Tryd.prog) w 35 43 none 0 cap 0 0 Tryd.underlying35
    go_enter Tryd.func12, Tryd.ntmps12
    go_wp2
    go_ret
    exact ⟨_, rfl, World.ownsRow_nil _ _ _ _, Below.refl _ _⟩
  | some ad =>
    have hnil := fun w => Lib.run_eql_slice_nil (P := Tryd.prog) w 35 43 (some ad) l.length cap 0 0 Tryd.underlying35
    have hnews : Hid (∀ o j u, (flat lc l)[j]? = some u → (w.alloc o).cell? (ad.add j) = some u) := by
      intro o j u hu
      have hj : j < l.length * 8 := by rw [← hlen]; exact (List.getElem?_eq_some_iff.1 hu).1
      obtain ⟨g, o2, e, hg, hr⟩ := hrow (by omega)
      injection e with e
      subst e
      rw [Addr.add_mid]
      exact Lib.cell?_alloc_some o (hr j u hu)
    have HL := Lib.hid hlen
    clear hlen hrow
    go_enter Tryd.func12, Tryd.ntmps12
    go_wp2_with (at_builtin; refine wpList_append_own _ rfl (.tmp 5) (.tmp 6) 35 rfl w.heap.size 43 i0 _ 8 40 Tryd.underlying35 hi0 hz0 hz1 hz2 rfl (by decide) (.slice (some ⟨w.heap.size, 0, none⟩) 0 0) 0 [] rfl (World.ownsRow_made w #[] 0 (Nat.le_refl _) (by decide) rfl) ad l.length cap (flat lc l) rfl HL.out (hnews.out _) hone.out (by unfold maxLen; omega) (by omega) (by simp) ?_; intro v' w1 hown hgr _)
    go_ret
    refine ⟨v', rfl, by simpa using hown, ?_⟩
    refine Below.trans (below1 w _) (below_grown hgr (by simp) (fun k hk => ?_))
    simp [Value.ownBlock] at hk
    omega
set_option maxHeartbeats 1000000 in
theorem index_hrd (l : List Evy.Hrd) (p : Evy.Hrd → Bool) (g : Nat) (lb : Array Value) (v : Value) (w : World) (eg : ∀ args w, (callFunc g args).run Tryd.prog w = .ok (.enter g args) w)
    (hp : ∀ x ∈ l, ∀ w1, Below w.heap.size w w1 → Calls Tryd.prog g (#[.agg (hc x)] ++ lb) w1 fun e w' => e = .returned (.bool (p x)) ∧ Below w1.heap.size w1 w')
    (hR : RdL w 3 hc l v) (hl : l.length ≤ 1000000) :
    Calls Tryd.prog 31 #[v, .func (.func g) #[] lb] w fun e w' => e = .returned (.int .i64 (idx p l)) ∧ Below w.heap.size w w' := by
  obtain ⟨A, cap, rfl, hcap1, hcap2, hrow⟩ := hR
  have HP := Lib.hid hp
  have HR := Lib.hid hrow
  clear hp hrow
  go_enter Tryd.func31, Tryd.ntmps31
  go_wp2
  go_loopg [5, 8] l.length (fun gg _ s8 wr => ∃ kk : Nat, kk ≤ l.length ∧ l.length - kk ≤ gg ∧ s8 = .int .i64 (kk : Int) ∧ Hid (Below w.heap.size w wr) ∧ Hid (∀ j y, j < kk → l[j]? = some y → p y = false))
  case atStart => exact ⟨0, Nat.zero_le _, by omega, rfl, Below.refl _ w, fun j y hj => absurd hj (Nat.not_lt_zero _)⟩
  case round =>
    obtain ⟨kk, hkk, hg, rfl, BW, AA⟩ := hrel
    by_cases hlt : kk < l.length
    · have hltz : (kk : Int) < (l.length : Int) := by omega
      obtain ⟨y, hy⟩ : ∃ y, l[kk]? = some y := ⟨_, List.getElem?_eq_getElem hlt⟩
      obtain ⟨g0, o, rfl, hg0, hrg⟩ := HR.out (by omega)
      have hrange : Hid (wr.rangeAt g0 (o + kk * 3) (hc y).toList) := fun i u hu => by
        rw [BW.out.cell (p := ⟨g0, o + kk * 3 + i, none⟩) hg0]
        exact RdL.elem (f := hc) (fun _ => rfl) hrg hy i u hu
      have hcall0 := HP.out y (List.mem_of_getElem? hy) wr BW.out
      have HY := Lib.hid hy
      clear hy hrg
      cases hq : p y with
      | true =>
        rw [hq] at hcall0
        have hcall := Lib.hid hcall0
        clear hcall0
        go_wp2_with (refine wpList_load_mid rfl 46 (.tmp 14) rfl g0 (o + kk * 3) rfl (hc y).toList _ hrange.out Tryd.underlying46 rfl info_hrd ?_)
        refine (hcall.out).mono ?_
        rintro e w1 ⟨rfl, hb'⟩
        go_wp2
        go_ret
        refine ⟨?_, BW.out.trans (hb'.mono BW.out.size)⟩
        rw [idx_hit p l kk y HY.out hq AA.out]; rfl
      | false =>
        rw [hq] at hcall0
        have hcall := Lib.hid hcall0
        clear hcall0
        go_wp2_with (refine wpList_load_mid rfl 46 (.tmp 14) rfl g0 (o + kk * 3) rfl (hc y).toList _ hrange.out Tryd.underlying46 rfl info_hrd ?_)
        refine (hcall.out).mono ?_
        rintro e w1 ⟨rfl, hb'⟩
        go_wp2
        go_roundg (l.length - (kk + 1))
        case measure => omega
        case rel =>
          refine ⟨kk + 1, by omega, by omega, by go_num, BW.out.trans (hb'.mono BW.out.size), (show Hid _ from fun j z hj hz => ?_)⟩
          by_cases e : j = kk
          · subst e
            have := HY.out
            rw [hz] at this
            injection this with this
            rw [this]; exact hq
          · exact AA.out j z (by omega) hz
    · have hltz : ¬ (kk : Int) < (l.length : Int) := by omega
      go_wp2
      go_ret
      refine ⟨?_, BW.out⟩
      rw [idx_miss p l (fun j y hy => AA.out j y (by have := (List.getElem?_eq_some_iff.1 hy).1; omega) hy)]; rfl
set_option maxHeartbeats 1000000 in
theorem contains_hrd (l : List Evy.Hrd) (p : Evy.Hrd → Bool) (g : Nat) (lb : Array Value) (v : Value) (w : World) (eg : ∀ args w, (callFunc g args).run Tryd.prog w = .ok (.enter g args) w)
    (hp : ∀ x ∈ l, ∀ w1, Below w.heap.size w w1 → Calls Tryd.prog g (#[.agg (hc x)] ++ lb) w1 fun e w' => e = .returned (.bool (p x)) ∧ Below w1.heap.size w1 w')
    (hR : RdL w 3 hc l v) (hl : l.length ≤ 1000000) :
    Calls Tryd.prog 14 #[v, .func (.func g) #[] lb] w fun e w' => e = .returned (.bool (l.any p)) ∧ Below w.heap.size w w' := by
  have H := Lib.hid (index_hrd l p g lb v w eg hp hR hl)
  have HI := Lib.hid (idx_any p l)
  clear hp hR
  go_enter Tryd.func14, Tryd.ntmps14
  go_wp2_with (fail)
  refine (H.out).mono ?_
  rintro e w1 ⟨rfl, hb⟩
  go_wp2
  go_ret
  exact ⟨ret_bool (by simpa using HI.out), hb⟩
theorem take_ne {α : Type} {l m : List α} {k : Nat} {x y : α} (hx : l[k]? = some x) (hy : m[k]? = some y) (h : x ≠ y) : l ≠ m := fun e => h (by rw [e, hy] at hx; injection hx with hx; exact hx.symm)
theorem take_all {α : Type} {l m : List α} (hl : l.length = m.length) (h : ∀ (j : Nat) (x y : α), j < l.length → l[j]? = some x → m[j]? = some y → x = y) : l = m := by
  apply List.ext_getElem hl
  intro i h1 h2
  exact h i _ _ h1 (List.getElem?_eq_getElem h1) (List.getElem?_eq_getElem h2)
set_option maxRecDepth 100000 in
set_option maxHeartbeats 2000000 in
theorem equal_lis (l m : List Evy.Lis) (v u : Value) (w : World) (hv : RdL w 8 lc l v) (hu : RdL w 8 lc m u) (hl : l.length ≤ 1000000) (hm : m.length ≤ 1000000) :
    Calls Tryd.prog 16 #[v, u] w fun e w' => e = .returned (.bool (decide (l = m))) ∧ Below w.heap.size w w' := by
  obtain ⟨A, cap, rfl, hcap1, hcap2, hrow⟩ := hv
  obtain ⟨A2, cap2, rfl, hcap3, hcap4, hrow2⟩ := hu
  have HR := Lib.hid hrow
  have HR2 := Lib.hid hrow2
  clear hrow hrow2
  go_enter Tryd.func16, Tryd.ntmps16
  by_cases hlm : l.length = m.length
  · have hne : ((l.length : Int) != (m.length : Int)) = false := by simp [hlm]
    have HLM := Lib.hid hlm
    clear hlm
    go_wp2
    go_loopg [5, 13] l.length (fun gg _ s13 wr => ∃ kk : Nat, kk ≤ l.length ∧ l.length - kk ≤ gg ∧ s13 = .int .i64 (kk : Int) ∧ Hid (Below w.heap.size w wr) ∧ Hid (∀ (j : Nat) (x y : Evy.Lis), j < kk → l[j]? = some x → m[j]? = some y → x = y))
    case atStart => exact ⟨0, Nat.zero_le _, by omega, rfl, Below.refl _ w, fun j x y hj => absurd hj (Nat.not_lt_zero _)⟩
    case round =>
      obtain ⟨kk, hkk, hg, rfl, BW, AA⟩ := hrel
      by_cases hlt : kk < l.length
      · have hltz : (kk : Int) < (l.length : Int) := by omega
        have hltz2 : (kk : Int) < (m.length : Int) := by have := HLM.out; omega
        obtain ⟨x, hx⟩ : ∃ x, l[kk]? = some x := ⟨_, List.getElem?_eq_getElem hlt⟩
        obtain ⟨y, hy⟩ : ∃ y, m[kk]? = some y := ⟨_, List.getElem?_eq_getElem (by have := HLM.out; omega)⟩
        obtain ⟨g0, o0, rfl, hg0, hrg⟩ := HR.out (by omega)
        obtain ⟨g1, o1, rfl, hg1, hrg1⟩ := HR2.out (by have := HLM.out; omega)
        have hr0 : Hid (wr.rangeAt g0 (o0 + kk * 8) (lc x).toList) := fun i u hu => by
          rw [BW.out.cell (p := ⟨g0, o0 + kk * 8 + i, none⟩) hg0]
          exact RdL.elem (f := lc) (fun _ => rfl) hrg hx i u hu
        have hr1 : Hid (wr.rangeAt g1 (o1 + kk * 8) (lc y).toList) := fun i u hu => by
          rw [BW.out.cell (p := ⟨g1, o1 + kk * 8 + i, none⟩) hg1]
          exact RdL.elem (f := lc) (fun _ => rfl) hrg1 hy i u hu
        have HX := Lib.hid hx
        have HY := Lib.hid hy
        clear hx hy hrg hrg1
        obtain ⟨b, hb⟩ : ∃ b, decide (x = y) = b := ⟨_, rfl⟩
        have hnq := fun w => neq_lis x y w
        rw [hb] at hnq
        have HB := Lib.hid hb
        clear hb
        cases b with
        | false =>
          go_upto_region 6 with (fail)
          refine wp_region_held_drew (S := fun w' => w'.rangeAt g0 (o0 + kk * 8) (lc x).toList ∧ w'.rangeAt g1 (o1 + kk * 8) (lc y).toList) (by kernel_rfl) ⟨hr0.out, hr1.out⟩ (fun hHeld => ?_)
          refine wpAnyH_take (i := 0) (v := ?_) rfl (by kernel_rfl) (by kernel_rfl) (by kernel_rfl) (fun _ _ _ h => h) (Or.inl ⟨by kernel_rfl, ?_⟩) (by assumption) ?_
          rotate_left
          · intro w hSw
            (try dsimp only at hSw)
            go_simp
            try (with_reducible rfl)
          (try simp only [Act.put, List.getElem_toArray, List.getElem_cons_zero, List.setIfInBounds_toArray, List.set_cons_zero, List.set_cons_succ])
          refine wpAnyH_take (i := 1) (v := ?_) rfl (by kernel_rfl) (by kernel_rfl) (by kernel_rfl) (fun _ _ _ h => h) (Or.inl ⟨by kernel_rfl, ?_⟩) (by assumption) ?_
          rotate_left
          · intro w hSw
            (try dsimp only at hSw)
            go_simp
            try (with_reducible rfl)
          (try simp only [Act.put, List.getElem_toArray, List.getElem_cons_succ, List.getElem_cons_zero, List.setIfInBounds_toArray, List.set_cons_zero, List.set_cons_succ])
          refine wpAnyH_take (i := 2) (v := ?_) rfl (by kernel_rfl) (by kernel_rfl) (by kernel_rfl) (fun _ _ _ h => h) (Or.inl ⟨by kernel_rfl, ?_⟩) (by assumption) ?_
          rotate_left
          · intro w hSw
            (try dsimp only at hSw)
            go_simp
            try (with_reducible rfl)
          (try simp only [Act.put, List.getElem_toArray, List.getElem_cons_succ, List.getElem_cons_zero, List.setIfInBounds_toArray, List.set_cons_zero, List.set_cons_succ])
          refine wpAnyH_take (i := 3) (v := _) rfl (by kernel_rfl) (by kernel_rfl) (by kernel_rfl) (fun _ _ _ h => h) (yieldsIf_load_mid (by kernel_rfl) 43 (.tmp 18) rfl (g0) (o0 + kk * 8) rfl ((lc x).toList) _ (fun _ h => h.1) Tryd.underlying43 rfl info_lis) (by assumption) ?_
          (try simp only [Act.put, List.getElem_toArray, List.getElem_cons_succ, List.getElem_cons_zero, List.setIfInBounds_toArray, List.set_cons_zero, List.set_cons_succ])
          refine wpAnyH_take (i := 4) (v := ?_) rfl (by kernel_rfl) (by kernel_rfl) (by kernel_rfl) (fun _ _ _ h => h) (Or.inl ⟨by kernel_rfl, ?_⟩) (by assumption) ?_
          rotate_left
          · intro w hSw
            (try dsimp only at hSw)
            go_simp
            try (with_reducible rfl)
          (try simp only [Act.put, List.getElem_toArray, List.getElem_cons_succ, List.getElem_cons_zero, List.setIfInBounds_toArray, List.set_cons_zero, List.set_cons_succ])
          refine wpAnyH_take (i := 5) (v := ?_) rfl (by kernel_rfl) (by kernel_rfl) (by kernel_rfl) (fun _ _ _ h => h) (Or.inl ⟨by kernel_rfl, ?_⟩) (by assumption) ?_
          rotate_left
          · intro w hSw
            (try dsimp only at hSw)
            go_simp
            try (with_reducible rfl)
          (try simp only [Act.put, List.getElem_toArray, List.getElem_cons_succ, List.getElem_cons_zero, List.setIfInBounds_toArray, List.set_cons_zero, List.set_cons_succ])
          refine wpAnyH_take (i := 6) (v := ?_) rfl (by kernel_rfl) (by kernel_rfl) (by kernel_rfl) (fun _ _ _ h => h) (Or.inl ⟨by kernel_rfl, ?_⟩) (by assumption) ?_
          rotate_left
          · intro w hSw
            (try dsimp only at hSw)
            go_simp
            try (with_reducible rfl)
          (try simp only [Act.put, List.getElem_toArray, List.getElem_cons_succ, List.getElem_cons_zero, List.setIfInBounds_toArray, List.set_cons_zero, List.set_cons_succ])
          refine wpAnyH_take (i := 7) (v := _) rfl (by kernel_rfl) (by kernel_rfl) (by kernel_rfl) (fun _ _ _ h => h) (yieldsIf_load_mid (by kernel_rfl) 43 (.tmp 22) rfl (g1) (o1 + kk * 8) rfl ((lc y).toList) _ (fun _ h => h.2) Tryd.underlying43 rfl info_lis) (by assumption) ?_
          (try simp only [Act.put, List.getElem_toArray, List.getElem_cons_succ, List.getElem_cons_zero, List.setIfInBounds_toArray, List.set_cons_zero, List.set_cons_succ])
          refine wpAnyH_take (i := 8) (v := ?_) rfl (by kernel_rfl) (by kernel_rfl) (by kernel_rfl) (fun _ _ _ h => h) (Or.inl ⟨by kernel_rfl, ?_⟩) (by assumption) ?_
          rotate_left
          · intro w hSw
            (try dsimp only at hSw)
            go_simp
            try (with_reducible rfl)
          (try simp only [Act.put, List.getElem_toArray, List.getElem_cons_succ, List.getElem_cons_zero, List.setIfInBounds_toArray, List.set_cons_zero, List.set_cons_succ])
          refine wpAnyH_done (by kernel_rfl) ?_ _
          go_wp2
          go_ret
          refine ⟨?_, BW.out.drew⟩
          rw [decide_eq_false (take_ne HX.out HY.out (of_decide_eq_false HB.out))]; rfl
        | true =>
          go_upto_region 6 with (fail)
          refine wp_region_held_drew (S := fun w' => w'.rangeAt g0 (o0 + kk * 8) (lc x).toList ∧ w'.rangeAt g1 (o1 + kk * 8) (lc y).toList) (by kernel_rfl) ⟨hr0.out, hr1.out⟩ (fun hHeld => ?_)
          refine wpAnyH_take (i := 0) (v := ?_) rfl (by kernel_rfl) (by kernel_rfl) (by kernel_rfl) (fun _ _ _ h => h) (Or.inl ⟨by kernel_rfl, ?_⟩) (by assumption) ?_
          rotate_left
          · intro w hSw
            (try dsimp only at hSw)
            go_simp
            try (with_reducible rfl)
          (try simp only [Act.put, List.getElem_toArray, List.getElem_cons_zero, List.setIfInBounds_toArray, List.set_cons_zero, List.set_cons_succ])
          refine wpAnyH_take (i := 1) (v := ?_) rfl (by kernel_rfl) (by kernel_rfl) (by kernel_rfl) (fun _ _ _ h => h) (Or.inl ⟨by kernel_rfl, ?_⟩) (by assumption) ?_
          rotate_left
          · intro w hSw
            (try dsimp only at hSw)
            go_simp
            try (with_reducible rfl)
          (try simp only [Act.put, List.getElem_toArray, List.getElem_cons_succ, List.getElem_cons_zero, List.setIfInBounds_toArray, List.set_cons_zero, List.set_cons_succ])
          refine wpAnyH_take (i := 2) (v := ?_) rfl (by kernel_rfl) (by kernel_rfl) (by kernel_rfl) (fun _ _ _ h => h) (Or.inl ⟨by kernel_rfl, ?_⟩) (by assumption) ?_
          rotate_left
          · intro w hSw
            (try dsimp only at hSw)
            go_simp
            try (with_reducible rfl)
          (try simp only [Act.put, List.getElem_toArray, List.getElem_cons_succ, List.getElem_cons_zero, List.setIfInBounds_toArray, List.set_cons_zero, List.set_cons_succ])
          refine wpAnyH_take (i := 3) (v := _) rfl (by kernel_rfl) (by kernel_rfl) (by kernel_rfl) (fun _ _ _ h => h) (yieldsIf_load_mid (by kernel_rfl) 43 (.tmp 18) rfl (g0) (o0 + kk * 8) rfl ((lc x).toList) _ (fun _ h => h.1) Tryd.underlying43 rfl info_lis) (by assumption) ?_
          (try simp only [Act.put, List.getElem_toArray, List.getElem_cons_succ, List.getElem_cons_zero, List.setIfInBounds_toArray, List.set_cons_zero, List.set_cons_succ])
          refine wpAnyH_take (i := 4) (v := ?_) rfl (by kernel_rfl) (by kernel_rfl) (by kernel_rfl) (fun _ _ _ h => h) (Or.inl ⟨by kernel_rfl, ?_⟩) (by assumption) ?_
          rotate_left
          · intro w hSw
            (try dsimp only at hSw)
            go_simp
            try (with_reducible rfl)
          (try simp only [Act.put, List.getElem_toArray, List.getElem_cons_succ, List.getElem_cons_zero, List.setIfInBounds_toArray, List.set_cons_zero, List.set_cons_succ])
          refine wpAnyH_take (i := 5) (v := ?_) rfl (by kernel_rfl) (by kernel_rfl) (by kernel_rfl) (fun _ _ _ h => h) (Or.inl ⟨by kernel_rfl, ?_⟩) (by assumption) ?_
          rotate_left
          · intro w hSw
            (try dsimp only at hSw)
            go_simp
            try (with_reducible rfl)
          (try simp only [Act.put, List.getElem_toArray, List.getElem_cons_succ, List.getElem_cons_zero, List.setIfInBounds_toArray, List.set_cons_zero, List.set_cons_succ])
          refine wpAnyH_take (i := 6) (v := ?_) rfl (by kernel_rfl) (by kernel_rfl) (by kernel_rfl) (fun _ _ _ h => h) (Or.inl ⟨by kernel_rfl, ?_⟩) (by assumption) ?_
          rotate_left
          · intro w hSw
            (try dsimp only at hSw)
            go_simp
            try (with_reducible rfl)
          (try simp only [Act.put, List.getElem_toArray, List.getElem_cons_succ, List.getElem_cons_zero, List.setIfInBounds_toArray, List.set_cons_zero, List.set_cons_succ])
          refine wpAnyH_take (i := 7) (v := _) rfl (by kernel_rfl) (by kernel_rfl) (by kernel_rfl) (fun _ _ _ h => h) (yieldsIf_load_mid (by kernel_rfl) 43 (.tmp 22) rfl (g1) (o1 + kk * 8) rfl ((lc y).toList) _ (fun _ h => h.2) Tryd.underlying43 rfl info_lis) (by assumption) ?_
          (try simp only [Act.put, List.getElem_toArray, List.getElem_cons_succ, List.getElem_cons_zero, List.setIfInBounds_toArray, List.set_cons_zero, List.set_cons_succ])
          refine wpAnyH_take (i := 8) (v := ?_) rfl (by kernel_rfl) (by kernel_rfl) (by kernel_rfl) (fun _ _ _ h => h) (Or.inl ⟨by kernel_rfl, ?_⟩) (by assumption) ?_
          rotate_left
          · intro w hSw
            (try dsimp only at hSw)
            go_simp
            try (with_reducible rfl)
          (try simp only [Act.put, List.getElem_toArray, List.getElem_cons_succ, List.getElem_cons_zero, List.setIfInBounds_toArray, List.set_cons_zero, List.set_cons_succ])
          refine wpAnyH_done (by kernel_rfl) ?_ _
          go_wp2
          go_roundg (l.length - (kk + 1))
          case measure => omega
          case rel =>
            refine ⟨kk + 1, by omega, by omega, by go_num, BW.out.drew, (show Hid _ from fun j x' y' hj hx' hy' => ?_)⟩
            by_cases e : j = kk
            · subst e
              have h1 := HX.out
              have h2 := HY.out
              rw [hx'] at h1
              rw [hy'] at h2
              injection h1 with h1
              injection h2 with h2
              rw [h1, h2]; exact of_decide_eq_true HB.out
            · exact AA.out j x' y' (by omega) hx' hy'
      · have hltz : ¬ (kk : Int) < (l.length : Int) := by omega
        go_wp2
        go_ret
        refine ⟨?_, BW.out⟩
        rw [decide_eq_true (take_all HLM.out (fun j x y hj h1 h2 => AA.out j x y (by omega) h1 h2))]; rfl
  · have hne : ((l.length : Int) != (m.length : Int)) = true := by simp; omega
    have HLM := Lib.hid hlm
    go_wp2
    go_ret
    refine ⟨?_, Below.refl _ w⟩
    rw [decide_eq_false (fun e => HLM.out (by rw [e]))]; rfl
set_option maxRecDepth 100000 in
set_option maxHeartbeats 2000000 in
theorem equal_hrd (l m : List Evy.Hrd) (v u : Value) (w : World) (hv : RdL w 3 hc l v) (hu : RdL w 3 hc m u) (hl : l.length ≤ 1000000) (hm : m.length ≤ 1000000) :
    Calls Tryd.prog 13 #[v, u] w fun e w' => e = .returned (.bool (decide (l = m))) ∧ Below w.heap.size w w' := by
  obtain ⟨A, cap, rfl, hcap1, hcap2, hrow⟩ := hv
  obtain ⟨A2, cap2, rfl, hcap3, hcap4, hrow2⟩ := hu
  have HR := Lib.hid hrow
  have HR2 := Lib.hid hrow2
  clear hrow hrow2
  go_enter Tryd.func13, Tryd.ntmps13
  by_cases hlm : l.length = m.length
  · have hne : ((l.length : Int) != (m.length : Int)) = false := by simp [hlm]
    have HLM := Lib.hid hlm
    clear hlm
    go_wp2
    go_loopg [5, 13] l.length (fun gg _ s13 wr => ∃ kk : Nat, kk ≤ l.length ∧ l.length - kk ≤ gg ∧ s13 = .int .i64 (kk : Int) ∧ Hid (Below w.heap.size w wr) ∧ Hid (∀ (j : Nat) (x y : Evy.Hrd), j < kk → l[j]? = some x → m[j]? = some y → x = y))
    case atStart => exact ⟨0, Nat.zero_le _, by omega, rfl, Below.refl _ w, fun j x y hj => absurd hj (Nat.not_lt_zero _)⟩
    case round =>
      obtain ⟨kk, hkk, hg, rfl, BW, AA⟩ := hrel
      by_cases hlt : kk < l.length
      · have hltz : (kk : Int) < (l.length : Int) := by omega
        have hltz2 : (kk : Int) < (m.length : Int) := by have := HLM.out; omega
        obtain ⟨x, hx⟩ : ∃ x, l[kk]? = some x := ⟨_, List.getElem?_eq_getElem hlt⟩
        obtain ⟨y, hy⟩ : ∃ y, m[kk]? = some y := ⟨_, List.getElem?_eq_getElem (by have := HLM.out; omega)⟩
        obtain ⟨g0, o0, rfl, hg0, hrg⟩ := HR.out (by omega)
        obtain ⟨g1, o1, rfl, hg1, hrg1⟩ := HR2.out (by have := HLM.out; omega)
        have hr0 : Hid (wr.rangeAt g0 (o0 + kk * 3) (hc x).toList) := fun i u hu => by
          rw [BW.out.cell (p := ⟨g0, o0 + kk * 3 + i, none⟩) hg0]
          exact RdL.elem (f := hc) (fun _ => rfl) hrg hx i u hu
        have hr1 : Hid (wr.rangeAt g1 (o1 + kk * 3) (hc y).toList) := fun i u hu => by
          rw [BW.out.cell (p := ⟨g1, o1 + kk * 3 + i, none⟩) hg1]
          exact RdL.elem (f := hc) (fun _ => rfl) hrg1 hy i u hu
        have HX := Lib.hid hx
        have HY := Lib.hid hy
        clear hx hy hrg hrg1
        obtain ⟨b, hb⟩ : ∃ b, decide (x = y) = b := ⟨_, rfl⟩
        have hnq := fun w => neq_hrd x y w
        rw [hb] at hnq
        have HB := Lib.hid hb
        clear hb
        cases b with
        | false =>
          go_upto_region 6 with (fail)
          refine wp_region_held_drew (S := fun w' => w'.rangeAt g0 (o0 + kk * 3) (hc x).toList ∧ w'.rangeAt g1 (o1 + kk * 3) (hc y).toList) (by kernel_rfl) ⟨hr0.out, hr1.out⟩ (fun hHeld => ?_)
          refine wpAnyH_take (i := 0) (v := ?_) rfl (by kernel_rfl) (by kernel_rfl) (by kernel_rfl) (fun _ _ _ h => h) (Or.inl ⟨by kernel_rfl, ?_⟩) (by assumption) ?_
          rotate_left
          · intro w hSw
            (try dsimp only at hSw)
            go_simp
            try (with_reducible rfl)
          (try simp only [Act.put, List.getElem_toArray, List.getElem_cons_zero, List.setIfInBounds_toArray, List.set_cons_zero, List.set_cons_succ])
          refine wpAnyH_take (i := 1) (v := ?_) rfl (by kernel_rfl) (by kernel_rfl) (by kernel_rfl) (fun _ _ _ h => h) (Or.inl ⟨by kernel_rfl, ?_⟩) (by assumption) ?_
          rotate_left
          · intro w hSw
            (try dsimp only at hSw)
            go_simp
            try (with_reducible rfl)
          (try simp only [Act.put, List.getElem_toArray, List.getElem_cons_succ, List.getElem_cons_zero, List.setIfInBounds_toArray, List.set_cons_zero, List.set_cons_succ])
          refine wpAnyH_take (i := 2) (v := ?_) rfl (by kernel_rfl) (by kernel_rfl) (by kernel_rfl) (fun _ _ _ h => h) (Or.inl ⟨by kernel_rfl, ?_⟩) (by assumption) ?_
          rotate_left
          · intro w hSw
            (try dsimp only at hSw)
            go_simp
            try (with_reducible rfl)
          (try simp only [Act.put, List.getElem_toArray, List.getElem_cons_succ, List.getElem_cons_zero, List.setIfInBounds_toArray, List.set_cons_zero, List.set_cons_succ])
          refine wpAnyH_take (i := 3) (v := _) rfl (by kernel_rfl) (by kernel_rfl) (by kernel_rfl) (fun _ _ _ h => h) (yieldsIf_load_mid (by kernel_rfl) 46 (.tmp 18) rfl (g0) (o0 + kk * 3) rfl ((hc x).toList) _ (fun _ h => h.1) Tryd.underlying46 rfl info_hrd) (by assumption) ?_
          (try simp only [Act.put, List.getElem_toArray, List.getElem_cons_succ, List.getElem_cons_zero, List.setIfInBounds_toArray, List.set_cons_zero, List.set_cons_succ])
          refine wpAnyH_take (i := 4) (v := ?_) rfl (by kernel_rfl) (by kernel_rfl) (by kernel_rfl) (fun _ _ _ h => h) (Or.inl ⟨by kernel_rfl, ?_⟩) (by assumption) ?_
          rotate_left
          · intro w hSw
            (try dsimp only at hSw)
            go_simp
            try (with_reducible rfl)
          (try simp only [Act.put, List.getElem_toArray, List.getElem_cons_succ, List.getElem_cons_zero, List.setIfInBounds_toArray, List.set_cons_zero, List.set_cons_succ])
          refine wpAnyH_take (i := 5) (v := ?_) rfl (by kernel_rfl) (by kernel_rfl) (by kernel_rfl) (fun _ _ _ h => h) (Or.inl ⟨by kernel_rfl, ?_⟩) (by assumption) ?_
          rotate_left
          · intro w hSw
            (try dsimp only at hSw)
            go_simp
            try (with_reducible rfl)
          (try simp only [Act.put, List.getElem_toArray, List.getElem_cons_succ, List.getElem_cons_zero, List.setIfInBounds_toArray, List.set_cons_zero, List.set_cons_succ])
          refine wpAnyH_take (i := 6) (v := ?_) rfl (by kernel_rfl) (by kernel_rfl) (by kernel_rfl) (fun _ _ _ h => h) (Or.inl ⟨by kernel_rfl, ?_⟩) (by assumption) ?_
          rotate_left
          · intro w hSw
            (try dsimp only at hSw)
            go_simp
            try (with_reducible rfl)
          (try simp only [Act.put, List.getElem_toArray, List.getElem_cons_succ, List.getElem_cons_zero, List.setIfInBounds_toArray, List.set_cons_zero, List.set_cons_succ])
          refine wpAnyH_take (i := 7) (v := _) rfl (by kernel_rfl) (by kernel_rfl) (by kernel_rfl) (fun _ _ _ h => h) (yieldsIf_load_mid (by kernel_rfl) 46 (.tmp 22) rfl (g1) (o1 + kk * 3) rfl ((hc y).toList) _ (fun _ h => h.2) Tryd.underlying46 rfl info_hrd) (by assumption) ?_
          (try simp only [Act.put, List.getElem_toArray, List.getElem_cons_succ, List.getElem_cons_zero, List.setIfInBounds_toArray, List.set_cons_zero, List.set_cons_succ])
          refine wpAnyH_take (i := 8) (v := ?_) rfl (by kernel_rfl) (by kernel_rfl) (by kernel_rfl) (fun _ _ _ h => h) (Or.inl ⟨by kernel_rfl, ?_⟩) (by assumption) ?_
          rotate_left
          · intro w hSw
            (try dsimp only at hSw)
            go_simp
            try (with_reducible rfl)
          (try simp only [Act.put, List.getElem_toArray, List.getElem_cons_succ, List.getElem_cons_zero, List.setIfInBounds_toArray, List.set_cons_zero, List.set_cons_succ])
          refine wpAnyH_done (by kernel_rfl) ?_ _
          go_wp2
          go_ret
          refine ⟨?_, BW.out.drew⟩
          rw [decide_eq_false (take_ne HX.out HY.out (of_decide_eq_false HB.out))]; rfl
        | true =>
          go_upto_region 6 with (fail)
          refine wp_region_held_drew (S := fun w' => w'.rangeAt g0 (o0 + kk * 3) (hc x).toList ∧ w'.rangeAt g1 (o1 + kk * 3) (hc y).toList) (by kernel_rfl) ⟨hr0.out, hr1.out⟩ (fun hHeld => ?_)
          refine wpAnyH_take (i := 0) (v := ?_) rfl (by kernel_rfl) (by kernel_rfl) (by kernel_rfl) (fun _ _ _ h => h) (Or.inl ⟨by kernel_rfl, ?_⟩) (by assumption) ?_
          rotate_left
          · intro w hSw
            (try dsimp only at hSw)
            go_simp
            try (with_reducible rfl)
          (try simp only [Act.put, List.getElem_toArray, List.getElem_cons_zero, List.setIfInBounds_toArray, List.set_cons_zero, List.set_cons_succ])
          refine wpAnyH_take (i := 1) (v := ?_) rfl (by kernel_rfl) (by kernel_rfl) (by kernel_rfl) (fun _ _ _ h => h) (Or.inl ⟨by kernel_rfl, ?_⟩) (by assumption) ?_
          rotate_left
          · intro w hSw
            (try dsimp only at hSw)
            go_simp
            try (with_reducible rfl)
          (try simp only [Act.put, List.getElem_toArray, List.getElem_cons_succ, List.getElem_cons_zero, List.setIfInBounds_toArray, List.set_cons_zero, List.set_cons_succ])
          refine wpAnyH_take (i := 2) (v := ?_) rfl (by kernel_rfl) (by kernel_rfl) (by kernel_rfl) (fun _ _ _ h => h) (Or.inl ⟨by kernel_rfl, ?_⟩) (by assumption) ?_
          rotate_left
          · intro w hSw
            (try dsimp only at hSw)
            go_simp
            try (with_reducible rfl)
          (try simp only [Act.put, List.getElem_toArray, List.getElem_cons_succ, List.getElem_cons_zero, List.setIfInBounds_toArray, List.set_cons_zero, List.set_cons_succ])
          refine wpAnyH_take (i := 3) (v := _) rfl (by kernel_rfl) (by kernel_rfl) (by kernel_rfl) (fun _ _ _ h => h) (yieldsIf_load_mid (by kernel_rfl) 46 (.tmp 18) rfl (g0) (o0 + kk * 3) rfl ((hc x).toList) _ (fun _ h => h.1) Tryd.underlying46 rfl info_hrd) (by assumption) ?_
          (try simp only [Act.put, List.getElem_toArray, List.getElem_cons_succ, List.getElem_cons_zero, List.setIfInBounds_toArray, List.set_cons_zero, List.set_cons_succ])
          refine wpAnyH_take (i := 4) (v := ?_) rfl (by kernel_rfl) (by kernel_rfl) (by kernel_rfl) (fun _ _ _ h => h) (Or.inl ⟨by kernel_rfl, ?_⟩) (by assumption) ?_
          rotate_left
          · intro w hSw
            (try dsimp only at hSw)
            go_simp
            try (with_reducible rfl)
          (try simp only [Act.put, List.getElem_toArray, List.getElem_cons_succ, List.getElem_cons_zero, List.setIfInBounds_toArray, List.set_cons_zero, List.set_cons_succ])
          refine wpAnyH_take (i := 5) (v := ?_) rfl (by kernel_rfl) (by kernel_rfl) (by kernel_rfl) (fun _ _ _ h => h) (Or.inl ⟨by kernel_rfl, ?_⟩) (by assumption) ?_
          rotate_left
          · intro w hSw
            (try dsimp only at hSw)
            go_simp
            try (with_reducible rfl)
          (try simp only [Act.put, List.getElem_toArray, List.getElem_cons_succ, List.getElem_cons_zero, List.setIfInBounds_toArray, List.set_cons_zero, List.set_cons_succ])
          refine wpAnyH_take (i := 6) (v := ?_) rfl (by kernel_rfl) (by kernel_rfl) (by kernel_rfl) (fun _ _ _ h => h) (Or.inl ⟨by kernel_rfl, ?_⟩) (by assumption) ?_
          rotate_left
          · intro w hSw
            (try dsimp only at hSw)
            go_simp
            try (with_reducible rfl)
          (try simp only [Act.put, List.getElem_toArray, List.getElem_cons_succ, List.getElem_cons_zero, List.setIfInBounds_toArray, List.set_cons_zero, List.set_cons_succ])
          refine wpAnyH_take (i := 7) (v := _) rfl (by kernel_rfl) (by kernel_rfl) (by kernel_rfl) (fun _ _ _ h => h) (yieldsIf_load_mid (by kernel_rfl) 46 (.tmp 22) rfl (g1) (o1 + kk * 3) rfl ((hc y).toList) _ (fun _ h => h.2) Tryd.underlying46 rfl info_hrd) (by assumption) ?_
          (try simp only [Act.put, List.getElem_toArray, List.getElem_cons_succ, List.getElem_cons_zero, List.setIfInBounds_toArray, List.set_cons_zero, List.set_cons_succ])
          refine wpAnyH_take (i := 8) (v := ?_) rfl (by kernel_rfl) (by kernel_rfl) (by kernel_rfl) (fun _ _ _ h => h) (Or.inl ⟨by kernel_rfl, ?_⟩) (by assumption) ?_
          rotate_left
          · intro w hSw
            (try dsimp only at hSw)
            go_simp
            try (with_reducible rfl)
          (try simp only [Act.put, List.getElem_toArray, List.getElem_cons_succ, List.getElem_cons_zero, List.setIfInBounds_toArray, List.set_cons_zero, List.set_cons_succ])
          refine wpAnyH_done (by kernel_rfl) ?_ _
          go_wp2
          go_roundg (l.length - (kk + 1))
          case measure => omega
          case rel =>
            refine ⟨kk + 1, by omega, by omega, by go_num, BW.out.drew, (show Hid _ from fun j x' y' hj hx' hy' => ?_)⟩
            by_cases e : j = kk
            · subst e
              have h1 := HX.out
              have h2 := HY.out
              rw [hx'] at h1
              rw [hy'] at h2
              injection h1 with h1
              injection h2 with h2
              rw [h1, h2]; exact of_decide_eq_true HB.out
            · exact AA.out j x' y' (by omega) hx' hy'
      · have hltz : ¬ (kk : Int) < (l.length : Int) := by omega
        go_wp2
        go_ret
        refine ⟨?_, BW.out⟩
        rw [decide_eq_true (take_all HLM.out (fun j x y hj h1 h2 => AA.out j x y (by omega) h1 h2))]; rfl
  · have hne : ((l.length : Int) != (m.length : Int)) = true := by simp; omega
    have HLM := Lib.hid hlm
    go_wp2
    go_ret
    refine ⟨?_, Below.refl _ w⟩
    rw [decide_eq_false (fun e => HLM.out (by rw [e]))]; rfl
end Go.Proofs.YtdommcjlpibpeaaDoor
