/-
  Values and cells of heaps in memory; rows of them; which cell a value names; may it stand in a heap. Conditions: as each says.
-/
import Derived.Test.YtbhccidchjmjlaaGen
import Derived.Test.YtbhccidchjmjlaaHeap
import Derived.Test.YtbhccidchjmjlaaShelf
import Derived.Laws.StructEq
import Derived.StillTailTactics
namespace Go.Proofs.Ytbhccidchjmjlaa
set_option linter.unusedSimpArgs false
set_option linter.unusedVariables false
open Go.RowKit

abbrev vc (v : Valu.V) : Array Value := #[.int .i64 v.k, .int .i64 v.n, .string (byt v.s)]
abbrev bc (s : List UInt8) : Array Value := #[.string (byt s)]
abbrev ic (n : Int) : Array Value := #[.int .i64 n]
/-- a cell, and where its rows lie. -/
structure CellV where
  c : Hepy.Cell
  A : Option Addr
  ca : Nat
  K : Option Addr
  ck : Nat
abbrev CellV.as (x : CellV) : Value := .slice x.A x.c.names.length x.ca
abbrev CellV.ks (x : CellV) : Value := .slice x.K x.c.vals.length x.ck
abbrev cc (x : CellV) : Array Value := #[.int .i64 x.c.kind, x.as, x.ks]
theorem vc_one (v : Valu.V) : (vc v).all (·.oneCell') = true := by simp [Value.oneCell']
theorem cc_one (x : CellV) : (cc x).all (·.oneCell') = true := by simp [Value.oneCell']
theorem info_cell : (Try.prog.info? 46).map (fun j => j.size) = some 3 := by kernel_rfl
theorem info_val : (Try.prog.info? 31).map (fun j => j.size) = some 3 := by kernel_rfl
structure CRd (w : World) (x : CellV) : Prop where
  a : RdL w 1 bc x.c.names x.as
  k : RdL w 3 vc x.c.vals x.ks
  z : ∀ v ∈ x.c.vals, v.s.length ≤ 9223372036854775807
theorem CRd.below {w w1 : World} {x : CellV} (h : CRd w x) (hb : Below w.heap.size w w1) : CRd w1 x := ⟨h.a.below hb, h.k.below hb, h.z⟩
/-- a row of cells reads as that. -/
structure HRd (w : World) (h : List CellV) (v : Value) : Prop where
  r : RdL w 3 cc h v
  n : ∀ x ∈ h, CRd w x
theorem HRd.below {w w1 : World} {h : List CellV} {v : Value} (k : HRd w h v) (hb : Below w.heap.size w w1) : HRd w1 h v := ⟨k.r.below hb, fun x hx => (k.n x hx).below hb⟩
abbrev cells (h : List CellV) : List Hepy.Cell := h.map (·.c)
theorem at_cells {h : List CellV} {n : Nat} {x : CellV} (hx : h[n]? = some x) : Hepy.at_ (cells h) n = x.c := by unfold Hepy.at_; simp [hx]
def ints (l : List Int) : List Value := l.map (Value.int .i64)
theorem flat_ints : ∀ l : List Int, flat ic l = ints l
  | [] => rfl
  | n :: l => by rw [flat_cons, flat_ints l]; rfl
theorem neq_of_eql {t : TypeId} {x y : Array Value} {b : Bool} {w : World} (h : (binOp .eql t (.agg x) (.agg y)).run Try.prog w = .ok (.bool b) w) : (binOp .neq t (.agg x) (.agg y)).run Try.prog w = .ok (.bool (!b)) w := by
  rw [run_eql_struct] at h
  rw [run_neq_struct]
  cases hr : (Op.equalIn 10000 t (.agg x) (.agg y)).run Try.prog w with
  | ok x w1 =>
    rw [hr] at h
    simp only [Result.andThen_ok] at h ⊢
    injection h with h1 h2
    injection h1 with h1
    rw [h1, h2]
  | halt x w1 => rw [hr] at h; simp [Result.andThen] at h
theorem v_ext (a b : Valu.V) : decide (a = b) = (decide (a.k = b.k) && (decide (a.n = b.n) && decide ((byt a.s).toList = (byt b.s).toList))) := by
  obtain ⟨k, n, s⟩ := a
  obtain ⟨k', n', s'⟩ := b
  rw [byt_list, byt_list, Bool.eq_iff_iff]
  simp
theorem eql_val (a b : Valu.V) (w : World) : (binOp .eql 31 (.agg (vc a)) (.agg (vc b))).run Try.prog w = .ok (.bool (decide (a = b))) w := by
  have u3 := Try.underlying3
  have a3 := Try.isAgg3
  have z3 := Try.sizeOf3
  have u9 := Try.underlying9
  have a9 := Try.isAgg9
  have z9 := Try.sizeOf9
  have hS : Try.prog.underlying 31 = some (.struct (Try.prog.fieldsOf 31)) := by kernel_rfl
  have hp : Try.prog.stoodInHeld 31 = false := by kernel_rfl
  rw [v_ext]
  rw [run_eql_struct, show (10000 : Nat) = 9999 + 1 from rfl, run_equalIn_agg w 9999 31 _ _ hS hp]
  simp only [Program.fieldsOf, Try.underlying31]
  go_simp
  by_cases h1 : a.k = b.k <;> by_cases h2 : a.n = b.n <;> by_cases h3 : (byt a.s).toList = (byt b.s).toList <;> simp [h1, h2, h3]
theorem neq_val (a b : Valu.V) (w : World) : (binOp .neq 31 (.agg (vc a)) (.agg (vc b))).run Try.prog w = .ok (.bool (!decide (a = b))) w := neq_of_eql (eql_val a b w)
theorem parts_val : (Try.prog.info? 31).map (fun i => (i.zero, i.size, i.bytes)) = some (some (.agg #[.int .i64 0, .int .i64 0, .string ⟨#[]⟩]), 3, 32) := by kernel_rfl
theorem zero_val (w : World) : (zeroValue 31).run Try.prog w = .ok (.agg #[.int .i64 0, .int .i64 0, .string ⟨#[]⟩]) w := by kernel_rfl
set_option maxHeartbeats 1000000 in
theorem index_val (l : List Valu.V) (p : Valu.V → Bool) (g : Nat) (lb : Array Value) (v : Value) (w : World) (eg : ∀ args w, (callFunc g args).run Try.prog w = .ok (.enter g args) w)
    (hp : ∀ x ∈ l, ∀ w1, Below w.heap.size w w1 → Calls Try.prog g (#[.agg (vc x)] ++ lb) w1 fun e w' => e = .returned (.bool (p x)) ∧ Below w1.heap.size w1 w')
    (hR : RdL w 3 vc l v) (hl : l.length ≤ 1000000) :
    Calls Try.prog 54 #[v, .func (.func g) #[] lb] w fun e w' => e = .returned (.int .i64 (idx p l)) ∧ Below w.heap.size w w' := by
  obtain ⟨A, cap, rfl, hcap1, hcap2, hrow⟩ := hR
  have HP := Lib.hid hp
  have HR := Lib.hid hrow
  clear hp hrow
  go_enter Try.func54, Try.ntmps54
  go_wp2
  go_loopg [5, 8] l.length (fun gg _ s8 wr => ∃ kk : Nat, kk ≤ l.length ∧ l.length - kk ≤ gg ∧ s8 = .int .i64 (kk : Int) ∧ Hid (Below w.heap.size w wr) ∧ Hid (∀ j y, j < kk → l[j]? = some y → p y = false))
  case atStart => exact ⟨0, Nat.zero_le _, by omega, rfl, Below.refl _ w, fun j y hj => absurd hj (Nat.not_lt_zero _)⟩
  case round =>
    obtain ⟨kk, hkk, hg, rfl, BW, AA⟩ := hrel
    by_cases hlt : kk < l.length
    · have hltz : (kk : Int) < (l.length : Int) := by omega
      obtain ⟨y, hy⟩ : ∃ y, l[kk]? = some y := ⟨_, List.getElem?_eq_getElem hlt⟩
      obtain ⟨g0, o, rfl, hg0, hrg⟩ := HR.out (by omega)
      have hrange : Hid (wr.rangeAt g0 (o + kk * 3) (vc y).toList) := fun i u hu => by
        rw [BW.out.cell (p := ⟨g0, o + kk * 3 + i, none⟩) hg0]
        exact RdL.elem (f := vc) (fun _ => rfl) hrg hy i u hu
      have hcall0 := HP.out y (List.mem_of_getElem? hy) wr BW.out
      have HY := Lib.hid hy
      clear hy hrg
      cases hq : p y with
      | true =>
        rw [hq] at hcall0
        have hcall := Lib.hid hcall0
        clear hcall0
        go_wp2_with (refine wpList_load_mid rfl 31 (.tmp 14) rfl g0 (o + kk * 3) rfl (vc y).toList _ hrange.out Try.underlying31 rfl info_val ?_)
        refine (hcall.out).mono ?_
        rintro e w1 ⟨rfl, hb'⟩
        go_wp2
        go_ret
        refine ⟨?_, BW.out.trans (hb'.mono BW.out.size)⟩
        rw [idx_hit p l kk y HY.out hq AA.out]; rfl
      | false =>
        rw [hq] at hcall0
        have hcall := Lib.hid hcall0
        clear hcall0
        go_wp2_with (refine wpList_load_mid rfl 31 (.tmp 14) rfl g0 (o + kk * 3) rfl (vc y).toList _ hrange.out Try.underlying31 rfl info_val ?_)
        refine (hcall.out).mono ?_
        rintro e w1 ⟨rfl, hb'⟩
        go_wp2
        go_roundg (l.length - (kk + 1))
        case measure => omega
        case rel =>
          refine ⟨kk + 1, by omega, by omega, by go_num, BW.out.trans (hb'.mono BW.out.size), (show Hid _ from fun j z hj hz => ?_)⟩
          by_cases e : j = kk
          · subst e
            have := HY.out
            rw [hz] at this
            injection this with this
            rw [this]; exact hq
          · exact AA.out j z (by omega) hz
    · have hltz : ¬ (kk : Int) < (l.length : Int) := by omega
      go_wp2
      go_ret
      refine ⟨?_, BW.out⟩
      rw [idx_miss p l (fun j y hy => AA.out j y (by have := (List.getElem?_eq_some_iff.1 hy).1; omega) hy)]; rfl
set_option maxHeartbeats 1000000 in
theorem contains_val (l : List Valu.V) (p : Valu.V → Bool) (g : Nat) (lb : Array Value) (v : Value) (w : World) (eg : ∀ args w, (callFunc g args).run Try.prog w = .ok (.enter g args) w)
    (hp : ∀ x ∈ l, ∀ w1, Below w.heap.size w w1 → Calls Try.prog g (#[.agg (vc x)] ++ lb) w1 fun e w' => e = .returned (.bool (p x)) ∧ Below w1.heap.size w1 w')
    (hR : RdL w 3 vc l v) (hl : l.length ≤ 1000000) :
    Calls Try.prog 41 #[v, .func (.func g) #[] lb] w fun e w' => e = .returned (.bool (l.any p)) ∧ Below w.heap.size w w' := by
  have H := Lib.hid (index_val l p g lb v w eg hp hR hl)
  have HI := Lib.hid (idx_any p l)
  clear hp hR
  go_enter Try.func41, Try.ntmps41
  go_wp2_with (fail)
  refine (H.out).mono ?_
  rintro e w1 ⟨rfl, hb⟩
  go_wp2
  go_ret
  exact ⟨ret_bool (by simpa using HI.out), hb⟩
set_option maxRecDepth 100000 in
set_option maxHeartbeats 1000000 in
theorem clone_val (l : List Valu.V) (v : Value) (w : World) (hR : RdL w 3 vc l v) (hl : l.length * 32 ≤ 140737488355328) :
    Calls Try.prog 37 #[v] w fun e w' => OwnOut w 31 3 l.length (flat vc l) e w' := by
  obtain ⟨A, cap, rfl, hcap1, hcap2, hrow⟩ := hR
  obtain ⟨i0, hi0, hz0, hz1, hz2⟩ := info_parts parts_val
  have hlen := flat_len (f := vc) (k := 3) (fun _ => rfl) l
  have hone := Lib.hid (flat_one (f := vc) vc_one l)
  cases A with
  | none =>
    have h0 : l = [] := by
      cases l with
      | nil => rfl
      | cons x l => obtain ⟨_, _, h, _⟩ := hrow (by simp); cases h
    subst h0
    have hnil := fun w => Lib.run_eql_slice_nil (P := Try.prog) w 23 31 none 0 cap 0 0 Try.underlying23
    go_enter Try.func37, Try.ntmps37
    go_wp2
    go_ret
    exact ⟨_, rfl, World.ownsRow_nil _ _ _ _, Below.refl _ _⟩
  | some ad =>
    have hnil := fun w => Lib.run_eql_slice_nil (P := Try.prog) w 23 31 (some ad) l.length cap 0 0 Try.underlying23
    have hnews : Hid (∀ o j u, (flat vc l)[j]? = some u → (w.alloc o).cell? (ad.add j) = some u) := by
      intro o j u hu
      have hj : j < l.length * 3 := by rw [← hlen]; exact (List.getElem?_eq_some_iff.1 hu).1
      obtain ⟨g, o2, e, hg, hr⟩ := hrow (by omega)
      injection e with e
      subst e
      rw [Addr.add_mid]
      exact Lib.cell?_alloc_some o (hr j u hu)
    have HL := Lib.hid hlen
    clear hlen hrow
    go_enter Try.func37, Try.ntmps37
    go_wp2_with (at_builtin; refine wpList_append_own _ rfl (.tmp 5) (.tmp 6) 23 rfl w.heap.size 31 i0 _ 3 32 Try.underlying23 hi0 hz0 hz1 hz2 rfl (by decide) (.slice (some ⟨w.heap.size, 0, none⟩) 0 0) 0 [] rfl (World.ownsRow_made w #[] 0 (Nat.le_refl _) (by decide) rfl) ad l.length cap (flat vc l) rfl HL.out (hnews.out _) hone.out (by unfold maxLen; omega) (by omega) (by simp) ?_; intro v' w1 hown hgr _)
    go_ret
    refine ⟨v', rfl, by simpa using hown, ?_⟩
    refine Below.trans (below1 w _) (below_grown hgr (by simp) (fun k hk => ?_))
    simp [Value.ownBlock] at hk
    omega
theorem take_ne {α : Type} {l m : List α} {k : Nat} {x y : α} (hx : l[k]? = some x) (hy : m[k]? = some y) (h : x ≠ y) : l ≠ m := fun e => h (by rw [e, hy] at hx; injection hx with hx; exact hx.symm)
theorem take_all {α : Type} {l m : List α} (hl : l.length = m.length) (h : ∀ (j : Nat) (x y : α), j < l.length → l[j]? = some x → m[j]? = some y → x = y) : l = m := by
  apply List.ext_getElem hl
  intro i h1 h2
  exact h i _ _ h1 (List.getElem?_eq_getElem h1) (List.getElem?_eq_getElem h2)
set_option maxRecDepth 100000 in
set_option maxHeartbeats 2000000 in
theorem equal_val (l m : List Valu.V) (v u : Value) (w : World) (hv : RdL w 3 vc l v) (hu : RdL w 3 vc m u) (hl : l.length ≤ 1000000) (hm : m.length ≤ 1000000) :
    Calls Try.prog 13 #[v, u] w fun e w' => e = .returned (.bool (decide (l = m))) ∧ Below w.heap.size w w' := by
  obtain ⟨A, cap, rfl, hcap1, hcap2, hrow⟩ := hv
  obtain ⟨A2, cap2, rfl, hcap3, hcap4, hrow2⟩ := hu
  have HR := Lib.hid hrow
  have HR2 := Lib.hid hrow2
  clear hrow hrow2
  go_enter Try.func13, Try.ntmps13
  by_cases hlm : l.length = m.length
  · have hne : ((l.length : Int) != (m.length : Int)) = false := by simp [hlm]
    have HLM := Lib.hid hlm
    clear hlm
    go_wp2
    go_loopg [5, 13] l.length (fun gg _ s13 wr => ∃ kk : Nat, kk ≤ l.length ∧ l.length - kk ≤ gg ∧ s13 = .int .i64 (kk : Int) ∧ Hid (Below w.heap.size w wr) ∧ Hid (∀ (j : Nat) (x y : Valu.V), j < kk → l[j]? = some x → m[j]? = some y → x = y))
    case atStart => exact ⟨0, Nat.zero_le _, by omega, rfl, Below.refl _ w, fun j x y hj => absurd hj (Nat.not_lt_zero _)⟩
    case round =>
      obtain ⟨kk, hkk, hg, rfl, BW, AA⟩ := hrel
      by_cases hlt : kk < l.length
      · have hltz : (kk : Int) < (l.length : Int) := by omega
        have hltz2 : (kk : Int) < (m.length : Int) := by have := HLM.out; omega
        obtain ⟨x, hx⟩ : ∃ x, l[kk]? = some x := ⟨_, List.getElem?_eq_getElem hlt⟩
        obtain ⟨y, hy⟩ : ∃ y, m[kk]? = some y := ⟨_, List.getElem?_eq_getElem (by have := HLM.out; omega)⟩
        obtain ⟨g0, o0, rfl, hg0, hrg⟩ := HR.out (by omega)
        obtain ⟨g1, o1, rfl, hg1, hrg1⟩ := HR2.out (by have := HLM.out; omega)
        have hr0 : Hid (wr.rangeAt g0 (o0 + kk * 3) (vc x).toList) := fun i u hu => by
          rw [BW.out.cell (p := ⟨g0, o0 + kk * 3 + i, none⟩) hg0]
          exact RdL.elem (f := vc) (fun _ => rfl) hrg hx i u hu
        have hr1 : Hid (wr.rangeAt g1 (o1 + kk * 3) (vc y).toList) := fun i u hu => by
          rw [BW.out.cell (p := ⟨g1, o1 + kk * 3 + i, none⟩) hg1]
          exact RdL.elem (f := vc) (fun _ => rfl) hrg1 hy i u hu
        have HX := Lib.hid hx
        have HY := Lib.hid hy
        clear hx hy hrg hrg1
        obtain ⟨b, hb⟩ : ∃ b, decide (x = y) = b := ⟨_, rfl⟩
        have hnq := fun w => neq_val x y w
        rw [hb] at hnq
        have HB := Lib.hid hb
        clear hb
        cases b with
        | false =>
          go_upto_region 6 with (fail)
          refine wp_region_held_drew (S := fun w' => w'.rangeAt g0 (o0 + kk * 3) (vc x).toList ∧ w'.rangeAt g1 (o1 + kk * 3) (vc y).toList) (by kernel_rfl) ⟨hr0.out, hr1.out⟩ (fun hHeld => ?_)
          refine wpAnyH_take (i := 0) (v := ?_) rfl (by kernel_rfl) (by kernel_rfl) (by kernel_rfl) (fun _ _ _ h => h) (Or.inl ⟨by kernel_rfl, ?_⟩) (by assumption) ?_
          rotate_left
          · intro w hSw
            (try dsimp only at hSw)
            go_simp
            try (with_reducible rfl)
          (try simp only [Act.put, List.getElem_toArray, List.getElem_cons_zero, List.setIfInBounds_toArray, List.set_cons_zero, List.set_cons_succ])
          refine wpAnyH_take (i := 1) (v := ?_) rfl (by kernel_rfl) (by kernel_rfl) (by kernel_rfl) (fun _ _ _ h => h) (Or.inl ⟨by kernel_rfl, ?_⟩) (by assumption) ?_
          rotate_left
          · intro w hSw
            (try dsimp only at hSw)
            go_simp
            try (with_reducible rfl)
          (try simp only [Act.put, List.getElem_toArray, List.getElem_cons_succ, List.getElem_cons_zero, List.setIfInBounds_toArray, List.set_cons_zero, List.set_cons_succ])
          refine wpAnyH_take (i := 2) (v := ?_) rfl (by kernel_rfl) (by kernel_rfl) (by kernel_rfl) (fun _ _ _ h => h) (Or.inl ⟨by kernel_rfl, ?_⟩) (by assumption) ?_
          rotate_left
          · intro w hSw
            (try dsimp only at hSw)
            go_simp
            try (with_reducible rfl)
          (try simp only [Act.put, List.getElem_toArray, List.getElem_cons_succ, List.getElem_cons_zero, List.setIfInBounds_toArray, List.set_cons_zero, List.set_cons_succ])
          refine wpAnyH_take (i := 3) (v := _) rfl (by kernel_rfl) (by kernel_rfl) (by kernel_rfl) (fun _ _ _ h => h) (yieldsIf_load_mid (by kernel_rfl) 31 (.tmp 18) rfl (g0) (o0 + kk * 3) rfl ((vc x).toList) _ (fun _ h => h.1) Try.underlying31 rfl info_val) (by assumption) ?_
          (try simp only [Act.put, List.getElem_toArray, List.getElem_cons_succ, List.getElem_cons_zero, List.setIfInBounds_toArray, List.set_cons_zero, List.set_cons_succ])
          refine wpAnyH_take (i := 4) (v := ?_) rfl (by kernel_rfl) (by kernel_rfl) (by kernel_rfl) (fun _ _ _ h => h) (Or.inl ⟨by kernel_rfl, ?_⟩) (by assumption) ?_
          rotate_left
          · intro w hSw
            (try dsimp only at hSw)
            go_simp
            try (with_reducible rfl)
          (try simp only [Act.put, List.getElem_toArray, List.getElem_cons_succ, List.getElem_cons_zero, List.setIfInBounds_toArray, List.set_cons_zero, List.set_cons_succ])
          refine wpAnyH_take (i := 5) (v := ?_) rfl (by kernel_rfl) (by kernel_rfl) (by kernel_rfl) (fun _ _ _ h => h) (Or.inl ⟨by kernel_rfl, ?_⟩) (by assumption) ?_
          rotate_left
          · intro w hSw
            (try dsimp only at hSw)
            go_simp
            try (with_reducible rfl)
          (try simp only [Act.put, List.getElem_toArray, List.getElem_cons_succ, List.getElem_cons_zero, List.setIfInBounds_toArray, List.set_cons_zero, List.set_cons_succ])
          refine wpAnyH_take (i := 6) (v := ?_) rfl (by kernel_rfl) (by kernel_rfl) (by kernel_rfl) (fun _ _ _ h => h) (Or.inl ⟨by kernel_rfl, ?_⟩) (by assumption) ?_
          rotate_left
          · intro w hSw
            (try dsimp only at hSw)
            go_simp
            try (with_reducible rfl)
          (try simp only [Act.put, List.getElem_toArray, List.getElem_cons_succ, List.getElem_cons_zero, List.setIfInBounds_toArray, List.set_cons_zero, List.set_cons_succ])
          refine wpAnyH_take (i := 7) (v := _) rfl (by kernel_rfl) (by kernel_rfl) (by kernel_rfl) (fun _ _ _ h => h) (yieldsIf_load_mid (by kernel_rfl) 31 (.tmp 22) rfl (g1) (o1 + kk * 3) rfl ((vc y).toList) _ (fun _ h => h.2) Try.underlying31 rfl info_val) (by assumption) ?_
          (try simp only [Act.put, List.getElem_toArray, List.getElem_cons_succ, List.getElem_cons_zero, List.setIfInBounds_toArray, List.set_cons_zero, List.set_cons_succ])
          refine wpAnyH_take (i := 8) (v := ?_) rfl (by kernel_rfl) (by kernel_rfl) (by kernel_rfl) (fun _ _ _ h => h) (Or.inl ⟨by kernel_rfl, ?_⟩) (by assumption) ?_
          rotate_left
          · intro w hSw
            (try dsimp only at hSw)
            go_simp
            try (with_reducible rfl)
          (try simp only [Act.put, List.getElem_toArray, List.getElem_cons_succ, List.getElem_cons_zero, List.setIfInBounds_toArray, List.set_cons_zero, List.set_cons_succ])
          refine wpAnyH_done (by kernel_rfl) ?_ _
          go_wp2
          go_ret
          refine ⟨?_, BW.out.drew⟩
          rw [decide_eq_false (take_ne HX.out HY.out (of_decide_eq_false HB.out))]; rfl
        | true =>
          go_upto_region 6 with (fail)
          refine wp_region_held_drew (S := fun w' => w'.rangeAt g0 (o0 + kk * 3) (vc x).toList ∧ w'.rangeAt g1 (o1 + kk * 3) (vc y).toList) (by kernel_rfl) ⟨hr0.out, hr1.out⟩ (fun hHeld => ?_)
          refine wpAnyH_take (i := 0) (v := ?_) rfl (by kernel_rfl) (by kernel_rfl) (by kernel_rfl) (fun _ _ _ h => h) (Or.inl ⟨by kernel_rfl, ?_⟩) (by assumption) ?_
          rotate_left
          · intro w hSw
            (try dsimp only at hSw)
            go_simp
            try (with_reducible rfl)
          (try simp only [Act.put, List.getElem_toArray, List.getElem_cons_zero, List.setIfInBounds_toArray, List.set_cons_zero, List.set_cons_succ])
          refine wpAnyH_take (i := 1) (v := ?_) rfl (by kernel_rfl) (by kernel_rfl) (by kernel_rfl) (fun _ _ _ h => h) (Or.inl ⟨by kernel_rfl, ?_⟩) (by assumption) ?_
          rotate_left
          · intro w hSw
            (try dsimp only at hSw)
            go_simp
            try (with_reducible rfl)
          (try simp only [Act.put, List.getElem_toArray, List.getElem_cons_succ, List.getElem_cons_zero, List.setIfInBounds_toArray, List.set_cons_zero, List.set_cons_succ])
          refine wpAnyH_take (i := 2) (v := ?_) rfl (by kernel_rfl) (by kernel_rfl) (by kernel_rfl) (fun _ _ _ h => h) (Or.inl ⟨by kernel_rfl, ?_⟩) (by assumption) ?_
          rotate_left
          · intro w hSw
            (try dsimp only at hSw)
            go_simp
            try (with_reducible rfl)
          (try simp only [Act.put, List.getElem_toArray, List.getElem_cons_succ, List.getElem_cons_zero, List.setIfInBounds_toArray, List.set_cons_zero, List.set_cons_succ])
          refine wpAnyH_take (i := 3) (v := _) rfl (by kernel_rfl) (by kernel_rfl) (by kernel_rfl) (fun _ _ _ h => h) (yieldsIf_load_mid (by kernel_rfl) 31 (.tmp 18) rfl (g0) (o0 + kk * 3) rfl ((vc x).toList) _ (fun _ h => h.1) Try.underlying31 rfl info_val) (by assumption) ?_
          (try simp only [Act.put, List.getElem_toArray, List.getElem_cons_succ, List.getElem_cons_zero, List.setIfInBounds_toArray, List.set_cons_zero, List.set_cons_succ])
          refine wpAnyH_take (i := 4) (v := ?_) rfl (by kernel_rfl) (by kernel_rfl) (by kernel_rfl) (fun _ _ _ h => h) (Or.inl ⟨by kernel_rfl, ?_⟩) (by assumption) ?_
          rotate_left
          · intro w hSw
            (try dsimp only at hSw)
            go_simp
            try (with_reducible rfl)
          (try simp only [Act.put, List.getElem_toArray, List.getElem_cons_succ, List.getElem_cons_zero, List.setIfInBounds_toArray, List.set_cons_zero, List.set_cons_succ])
          refine wpAnyH_take (i := 5) (v := ?_) rfl (by kernel_rfl) (by kernel_rfl) (by kernel_rfl) (fun _ _ _ h => h) (Or.inl ⟨by kernel_rfl, ?_⟩) (by assumption) ?_
          rotate_left
          · intro w hSw
            (try dsimp only at hSw)
            go_simp
            try (with_reducible rfl)
          (try simp only [Act.put, List.getElem_toArray, List.getElem_cons_succ, List.getElem_cons_zero, List.setIfInBounds_toArray, List.set_cons_zero, List.set_cons_succ])
          refine wpAnyH_take (i := 6) (v := ?_) rfl (by kernel_rfl) (by kernel_rfl) (by kernel_rfl) (fun _ _ _ h => h) (Or.inl ⟨by kernel_rfl, ?_⟩) (by assumption) ?_
          rotate_left
          · intro w hSw
            (try dsimp only at hSw)
            go_simp
            try (with_reducible rfl)
          (try simp only [Act.put, List.getElem_toArray, List.getElem_cons_succ, List.getElem_cons_zero, List.setIfInBounds_toArray, List.set_cons_zero, List.set_cons_succ])
          refine wpAnyH_take (i := 7) (v := _) rfl (by kernel_rfl) (by kernel_rfl) (by kernel_rfl) (fun _ _ _ h => h) (yieldsIf_load_mid (by kernel_rfl) 31 (.tmp 22) rfl (g1) (o1 + kk * 3) rfl ((vc y).toList) _ (fun _ h => h.2) Try.underlying31 rfl info_val) (by assumption) ?_
          (try simp only [Act.put, List.getElem_toArray, List.getElem_cons_succ, List.getElem_cons_zero, List.setIfInBounds_toArray, List.set_cons_zero, List.set_cons_succ])
          refine wpAnyH_take (i := 8) (v := ?_) rfl (by kernel_rfl) (by kernel_rfl) (by kernel_rfl) (fun _ _ _ h => h) (Or.inl ⟨by kernel_rfl, ?_⟩) (by assumption) ?_
          rotate_left
          · intro w hSw
            (try dsimp only at hSw)
            go_simp
            try (with_reducible rfl)
          (try simp only [Act.put, List.getElem_toArray, List.getElem_cons_succ, List.getElem_cons_zero, List.setIfInBounds_toArray, List.set_cons_zero, List.set_cons_succ])
          refine wpAnyH_done (by kernel_rfl) ?_ _
          go_wp2
          go_roundg (l.length - (kk + 1))
          case measure => omega
          case rel =>
            refine ⟨kk + 1, by omega, by omega, by go_num, BW.out.drew, (show Hid _ from fun j x' y' hj hx' hy' => ?_)⟩
            by_cases e : j = kk
            · subst e
              have h1 := HX.out
              have h2 := HY.out
              rw [hx'] at h1
              rw [hy'] at h2
              injection h1 with h1
              injection h2 with h2
              rw [h1, h2]; exact of_decide_eq_true HB.out
            · exact AA.out j x' y' (by omega) hx' hy'
      · have hltz : ¬ (kk : Int) < (l.length : Int) := by omega
        go_wp2
        go_ret
        refine ⟨?_, BW.out⟩
        rw [decide_eq_true (take_all HLM.out (fun j x y hj h1 h2 => AA.out j x y (by omega) h1 h2))]; rfl
  · have hne : ((l.length : Int) != (m.length : Int)) = true := by simp; omega
    have HLM := Lib.hid hlm
    go_wp2
    go_ret
    refine ⟨?_, Below.refl _ w⟩
    rw [decide_eq_false (fun e => HLM.out (by rw [e]))]; rfl
theorem getD_cell {w : World} {g o : Nat} {p : List Int} (h : w.rangeAt g o (flat ic p)) : ∀ j, j < p.length → w.cell? ⟨g, o + j, none⟩ = some (.int .i64 (p.getD j 0)) := fun j hj => by
  obtain ⟨x, hx⟩ : ∃ x, p[j]? = some x := ⟨_, List.getElem?_eq_getElem hj⟩
  have := RdL.elem (k := 1) (f := ic) (fun _ => rfl) h hx 0 _ rfl
  simp only [Nat.mul_one, Nat.add_zero] at this
  rw [this, List.getD, hx]; rfl
theorem equal_ints (p q : List Int) (v u : Value) (w : World) (hv : RdL w 1 ic p v) (hu : RdL w 1 ic q u) :
    Calls Try.prog 22 #[v, u] w fun e w' => e = .returned (.bool (decide (p = q))) ∧ Below w.heap.size w w' := by
  obtain ⟨A, cap, rfl, hc1, hc2, hr1⟩ := hv
  obtain ⟨A2, cap2, rfl, hc3, hc4, hr2⟩ := hu
  by_cases hp : 0 < p.length
  · obtain ⟨g, o, rfl, hg, hrg⟩ := hr1 hp
    by_cases hq : 0 < q.length
    · obtain ⟨g2, o2, rfl, hg2, hrg2⟩ := hr2 hq
      refine (Try.slices_Equal_int g o p.length cap g2 o2 q.length cap2 p q w (Nat.le_refl _) (Nat.le_refl _) (by omega) (by omega) (getD_cell hrg) (getD_cell hrg2)).mono ?_
      rintro e w' ⟨rfl, n, rfl⟩
      refine ⟨ret_bool ?_, below_drewN (Below.refl _ _) _⟩
      rw [List.take_length, List.take_length, Bool.eq_iff_iff]; simp
    · refine (Try.slices_Equal_int_lens _ A2 p.length cap q.length cap2 w (by omega)).mono ?_
      rintro e w' ⟨rfl, rfl⟩
      exact ⟨ret_bool (decide_eq_false (fun e => by rw [e] at hp; omega)).symm, Below.refl _ _⟩
  · have h0 : p = [] := List.length_eq_zero_iff.1 (by omega)
    subst h0
    refine (Try.slices_Equal_int_empty A A2 cap q.length cap2 w (by omega)).mono ?_
    rintro e w' ⟨rfl, rfl⟩
    refine ⟨ret_bool ?_, Below.refl _ _⟩
    cases q <;> simp
theorem str_cell {w : World} {g o : Nat} {p : List (List UInt8)} (h : w.rangeAt g o (flat bc p)) : ∀ j, j < (p.map byt).length → w.cell? ⟨g, o + j, none⟩ = some (.string ((p.map byt).getD j ByteArray.empty)) := fun j hj => by
  rw [List.length_map] at hj
  obtain ⟨x, hx⟩ : ∃ x, p[j]? = some x := ⟨_, List.getElem?_eq_getElem hj⟩
  have := RdL.elem (k := 1) (f := bc) (fun _ => rfl) h hx 0 _ rfl
  simp only [Nat.mul_one, Nat.add_zero] at this
  rw [this, List.getD, List.getElem?_map, hx]; rfl
theorem map_byt {p q : List (List UInt8)} : p.map byt = q.map byt ↔ p = q := by
  constructor
  · intro h
    have := congrArg (List.map (fun b : ByteArray => b.data.toList)) h
    simp only [List.map_map] at this
    have e : (fun b : ByteArray => b.data.toList) ∘ byt = id := by funext s; exact byt_data s
    rw [e, List.map_id, List.map_id] at this
    exact this
  · intro h; rw [h]
theorem equal_strs (p q : List (List UInt8)) (v u : Value) (w : World) (hv : RdL w 1 bc p v) (hu : RdL w 1 bc q u) :
    Calls Try.prog 27 #[v, u] w fun e w' => e = .returned (.bool (decide (p = q))) ∧ Below w.heap.size w w' := by
  obtain ⟨A, cap, rfl, hc1, hc2, hr1⟩ := hv
  obtain ⟨A2, cap2, rfl, hc3, hc4, hr2⟩ := hu
  by_cases hp : 0 < p.length
  · obtain ⟨g, o, rfl, hg, hrg⟩ := hr1 hp
    by_cases hq : 0 < q.length
    · obtain ⟨g2, o2, rfl, hg2, hrg2⟩ := hr2 hq
      refine (Try.slices_Equal_string g o p.length cap g2 o2 q.length cap2 (p.map byt) (q.map byt) w (by simp) (by simp) (by omega) (by omega) (str_cell hrg) (str_cell hrg2)).mono ?_
      rintro e w' ⟨rfl, n, rfl⟩
      refine ⟨ret_bool ?_, below_drewN (Below.refl _ _) _⟩
      rw [List.take_of_length_le (by simp), List.take_of_length_le (by simp), Bool.eq_iff_iff, decide_eq_true_eq, decide_eq_true_eq, map_byt]
    · refine (Try.slices_Equal_string_lens _ A2 p.length cap q.length cap2 w (by omega)).mono ?_
      rintro e w' ⟨rfl, rfl⟩
      exact ⟨ret_bool (decide_eq_false (fun e => by rw [e] at hp; omega)).symm, Below.refl _ _⟩
  · have h0 : p = [] := List.length_eq_zero_iff.1 (by omega)
    subst h0
    refine (Try.slices_Equal_string_empty A A2 cap q.length cap2 w (by omega)).mono ?_
    rintro e w' ⟨rfl, rfl⟩
    refine ⟨ret_bool ?_, Below.refl _ _⟩
    cases q <;> simp
theorem flat_strs : ∀ p : List (List UInt8), flat bc p = (p.map byt).map Value.string
  | [] => rfl
  | n :: l => by rw [flat_cons, flat_strs l]; rfl
theorem clone_strs (p : List (List UInt8)) (v : Value) (w : World) (hv : RdL w 1 bc p v) (hl : p.length * 16 ≤ 140737488355328) :
    Calls Try.prog 36 #[v] w fun e w' => OwnOut w 9 1 p.length (flat bc p) e w' := by
  obtain ⟨A, cap, rfl, hc1, hc2, hr1⟩ := hv
  cases A with
  | none =>
    have h0 : p = [] := by
      cases p with
      | nil => rfl
      | cons x l => obtain ⟨_, _, h, _⟩ := hr1 (by simp); cases h
    subst h0
    refine (Try.slices_Clone_string_nil 0 cap w).mono ?_
    rintro e w' ⟨rfl, rfl⟩
    exact ⟨_, rfl, World.ownsRow_nil _ _ _ _, Below.refl _ _⟩
  | some a =>
    by_cases hp : 0 < p.length
    · obtain ⟨g, o, e, hg, hrg⟩ := hr1 hp
      injection e with e
      subst e
      refine (Try.slices_Clone_string g o p.length cap (p.map byt) w (by simp) hl (str_cell hrg)).mono ?_
      rintro e w' ⟨v', rfl, hown, _, hb⟩
      rw [List.take_of_length_le (by simp), ← flat_strs] at hown
      exact ⟨v', rfl, hown, hb⟩
    · have h0 : p = [] := List.length_eq_zero_iff.1 (by omega)
      subst h0
      refine (Try.slices_Clone_string_zero a cap w).mono ?_
      rintro e w' ⟨v', rfl, hown, _, hb⟩
      exact ⟨v', rfl, hown, hb⟩
set_option maxHeartbeats 400000 in
theorem within_any (n l h : Int) (w : World) :
    Calls Try.prog 55 #[.int .i64 n, .int .i64 l, .int .i64 h] w fun e w' => e = .returned (.bool (Valu.within n l h)) ∧ w = w' := by
  by_cases h1 : l ≤ n
  all_goals
    by_cases h2 : n ≤ h
  all_goals
    go_enter Try.func55, Try.ntmps55
    go_wp2
    go_ret
    exact ⟨ret_bool (by simp [Valu.within, h1, h2]), rfl⟩
theorem kinds (k : Int) : k = 0 ∨ k = 1 ∨ k = 2 ∨ k = 3 ∨ k = 4 ∨ k = 5 ∨ ((k == 0) = false ∧ (k == 1) = false ∧ (k == 2) = false ∧ (k == 3) = false ∧ (k == 4) = false ∧ (k == 5) = false) := by
  simp only [beq_eq_false_iff_ne]; omega
set_option maxHeartbeats 1000000 in
theorem check_any (v : Valu.V) (w : World) (hz : v.s.length ≤ 9223372036854775807) :
    Calls Try.prog 43 #[.agg (vc v)] w fun e w' => e = .returned (.bool (Valu.check v)) ∧ Below w.heap.size w w' := by
  obtain ⟨k, n, s⟩ := v
  have hz' : (byt s).size ≤ 9223372036854775807 := by rw [byt_size]; exact hz
  rcases kinds k with rfl | rfl | rfl | rfl | rfl | rfl | ⟨h0, h1, h2, h3, h4, h5⟩
  · go_enter Try.func43, Try.ntmps43
    go_wp2_with (go_at_call 55; refine (within_any _ _ _ _).mono ?_; rintro e w' ⟨rfl, rfl⟩)
    all_goals
      go_ret
      exact ⟨ret_bool (by simp_all [Valu.check, byt_empty]), below1 _ _⟩
  · go_enter Try.func43, Try.ntmps43
    go_wp2_with (go_at_call 55; refine (within_any _ _ _ _).mono ?_; rintro e w' ⟨rfl, rfl⟩)
    all_goals
      go_ret
      exact ⟨ret_bool (by simp_all [Valu.check, byt_empty]), below1 _ _⟩
  · go_enter Try.func43, Try.ntmps43
    go_wp2_with (go_at_call 55; refine (within_any _ _ _ _).mono ?_; rintro e w' ⟨rfl, rfl⟩)
    all_goals
      go_ret
      exact ⟨ret_bool (by simp_all [Valu.check, byt_empty, Valu.big]), below1 _ _⟩
  · by_cases hl : s.length ≤ 2000
    · have hl' : ((byt s).size : Int) ≤ 2000 := by rw [byt_size]; omega
      go_enter Try.func43, Try.ntmps43
      go_wp2
      go_ret
      exact ⟨ret_bool (by simp [Valu.check, hl, beq_dec]), below1 _ _⟩
    · have hl' : 2000 < ((byt s).size : Int) := by rw [byt_size]; omega
      go_enter Try.func43, Try.ntmps43
      go_wp2
      go_ret
      exact ⟨ret_bool (by simp [Valu.check, hl]), below1 _ _⟩
  · by_cases hl : 0 ≤ n
    · go_enter Try.func43, Try.ntmps43
      go_wp2
      go_ret
      exact ⟨ret_bool (by simp [Valu.check, hl, byt_empty]), below1 _ _⟩
    · have hl' : n < 0 := by omega
      go_enter Try.func43, Try.ntmps43
      go_wp2
      go_ret
      exact ⟨ret_bool (by simp [Valu.check]; omega), below1 _ _⟩
  · go_enter Try.func43, Try.ntmps43
    go_wp2
    go_ret
    exact ⟨ret_bool (by simp [Valu.check, beq_dec]), below1 _ _⟩
  · go_enter Try.func43, Try.ntmps43
    go_wp2
    go_ret
    exact ⟨ret_bool (by simp_all [Valu.check]), below1 _ _⟩
set_option maxHeartbeats 400000 in
theorem ref_any (v : Valu.V) (w : World) :
    Calls Try.prog 38 #[.agg (vc v)] w fun e w' => e = .returned (.int .i64 (Hepy.ref v)) ∧ Below w.heap.size w w' := by
  obtain ⟨k, n, s⟩ := v
  by_cases h : k = 4
  · subst h
    go_enter Try.func38, Try.ntmps38
    go_wp2
    go_ret
    exact ⟨rfl, below1 _ _⟩
  · have hb : (k == 4) = false := beq_no h
    have H := Lib.hid h
    clear h
    go_enter Try.func38, Try.ntmps38
    go_wp2
    go_ret
    exact ⟨ret_int (by simp [Hepy.ref, H.out]), below1 _ _⟩
end Go.Proofs.Ytbhccidchjmjlaa
