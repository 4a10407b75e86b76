/-
  slices.Clone and slices.Delete (of one element) at jobs, timers, asks. Conditions: as each says.
-/
import Derived.Test.YtpjbblbehbepbaaLpD
import Derived.Test.YtpjbblbehbepbaaRow
import Derived.Deep.RegionLaw
namespace Go.Proofs.Ytpjbblbehbepbaa
set_option linter.unusedSimpArgs false
set_option linter.unusedVariables false
open Go.RowKit

/-- a row of its own, from the heap's end on; nothing that was has turned. -/
def OwnOut (w : World) (E k n : Nat) (xs : List Value) (e : Ending) (w' : World) : Prop :=
  ∃ v, e = .returned v ∧ w'.ownsRow w.heap.size E k v n xs ∧ Below w.heap.size w w'
/-- the same row, with other elements. -/
def RowOut (w : World) (base E k n : Nat) (g : Option Nat) (xs : List Value) (e : Ending) (w' : World) : Prop :=
  ∃ v, e = .returned v ∧ w'.ownsRow base E k v n xs ∧ v.ownBlock = g ∧ w.grownBy w' g
theorem eraseIdx_flat {α : Type} (f : α → Array Value) : ∀ (l : List α) (i : Nat), flat f (l.eraseIdx i) = flat f (l.take i) ++ flat f (l.drop (i + 1)) := by
  intro l i
  rw [← flat_append, List.eraseIdx_eq_take_drop_succ]
theorem parts_ask : (Try.prog.info? 35).map (fun i => (i.zero, i.size, i.bytes)) = some (some (.agg #[.int .i64 0, .int .i64 0, .int .i64 0, .string ⟨#[]⟩, .int .i64 0, .int .i64 0, .string ⟨#[]⟩]), 7, 72) := by kernel_rfl
set_option maxHeartbeats 1000000 in
theorem clone_ask (l : List Loopy.Ask) (v : Value) (w : World) (hR : RdL w 7 ac l v) (hl : l.length ≤ 1000000) :
    Calls Try.prog 20 #[v] w fun e w' => OwnOut w 35 7 l.length (flat ac l) e w' := by
  obtain ⟨A, cap, rfl, hcap1, hcap2, hrow⟩ := hR
  obtain ⟨i0, hi0, hz0, hz1, hz2⟩ := info_parts parts_ask
  have hlen := flat_len (f := ac) (k := 7) (fun _ => rfl) l
  have hone := Lib.hid (flat_one (f := ac) ac_one l)
  cases A with
  | none =>
    have h0 : l = [] := by
      cases l with
      | nil => rfl
      | cons x l => obtain ⟨_, _, h, _⟩ := hrow (by simp); cases h
    subst h0
    have hnil := fun w => Lib.run_eql_slice_nil (P := Try.prog) w 22 35 none 0 cap 0 0 Try.underlying22
    go_enter Try.func20, Try.ntmps20
    go_wp2
    go_ret
    exact ⟨_, rfl, World.ownsRow_nil _ _ _ _, Below.refl _ _⟩
  | some ad =>
    have hnil := fun w => Lib.run_eql_slice_nil (P := Try.prog) w 22 35 (some ad) l.length cap 0 0 Try.underlying22
    have hnews : Hid (∀ o j u, (flat ac l)[j]? = some u → (w.alloc o).cell? (ad.add j) = some u) := by
      intro o j u hu
      have hj : j < l.length * 7 := by rw [← hlen]; exact (List.getElem?_eq_some_iff.1 hu).1
      obtain ⟨g, o2, e, hg, hr⟩ := hrow (by omega)
      injection e with e
      subst e
      rw [Addr.add_mid]
      exact Lib.cell?_alloc_some o (hr j u hu)
    have HL := Lib.hid hlen
    clear hlen hrow
    go_enter Try.func20, Try.ntmps20
    go_wp2_with (at_builtin; refine wpList_append_own _ rfl (.tmp 5) (.tmp 6) 22 rfl w.heap.size 35 i0 _ 7 72 Try.underlying22 hi0 hz0 hz1 hz2 rfl (by decide) (.slice (some ⟨w.heap.size, 0, none⟩) 0 0) 0 [] rfl (World.ownsRow_made w #[] 0 (Nat.le_refl _) (by decide) rfl) ad l.length cap (flat ac l) rfl HL.out (hnews.out _) hone.out (by unfold maxLen; omega) (by omega) (by simp) ?_; intro v' w1 hown hgr _)
    go_ret
    refine ⟨v', rfl, by simpa using hown, ?_⟩
    refine Below.trans (below1 w _) (below_grown hgr (by simp) (fun k hk => ?_))
    simp [Value.ownBlock] at hk
    omega

theorem parts_timer : (Try.prog.info? 49).map (fun i => (i.zero, i.size, i.bytes)) = some (some (.agg #[.int .i64 0, .int .i64 0, .int .i64 0, .int .i64 0, .string ⟨#[]⟩]), 5, 48) := by kernel_rfl
set_option maxHeartbeats 1000000 in
theorem clone_timer (l : List Loopy.Timer) (v : Value) (w : World) (hR : RdL w 5 tc l v) (hl : l.length ≤ 1000000) :
    Calls Try.prog 38 #[v] w fun e w' => OwnOut w 49 5 l.length (flat tc l) e w' := by
  obtain ⟨A, cap, rfl, hcap1, hcap2, hrow⟩ := hR
  obtain ⟨i0, hi0, hz0, hz1, hz2⟩ := info_parts parts_timer
  have hlen := flat_len (f := tc) (k := 5) (fun _ => rfl) l
  have hone := Lib.hid (flat_one (f := tc) tc_one l)
  cases A with
  | none =>
    have h0 : l = [] := by
      cases l with
      | nil => rfl
      | cons x l => obtain ⟨_, _, h, _⟩ := hrow (by simp); cases h
    subst h0
    have hnil := fun w => Lib.run_eql_slice_nil (P := Try.prog) w 24 49 none 0 cap 0 0 Try.underlying24
    go_enter Try.func38, Try.ntmps38
    go_wp2
    go_ret
    exact ⟨_, rfl, World.ownsRow_nil _ _ _ _, Below.refl _ _⟩
  | some ad =>
    have hnil := fun w => Lib.run_eql_slice_nil (P := Try.prog) w 24 49 (some ad) l.length cap 0 0 Try.underlying24
    have hnews : Hid (∀ o j u, (flat tc l)[j]? = some u → (w.alloc o).cell? (ad.add j) = some u) := by
      intro o j u hu
      have hj : j < l.length * 5 := by rw [← hlen]; exact (List.getElem?_eq_some_iff.1 hu).1
      obtain ⟨g, o2, e, hg, hr⟩ := hrow (by omega)
      injection e with e
      subst e
      rw [Addr.add_mid]
      exact Lib.cell?_alloc_some o (hr j u hu)
    have HL := Lib.hid hlen
    clear hlen hrow
    go_enter Try.func38, Try.ntmps38
    go_wp2_with (at_builtin; refine wpList_append_own _ rfl (.tmp 5) (.tmp 6) 24 rfl w.heap.size 49 i0 _ 5 48 Try.underlying24 hi0 hz0 hz1 hz2 rfl (by decide) (.slice (some ⟨w.heap.size, 0, none⟩) 0 0) 0 [] rfl (World.ownsRow_made w #[] 0 (Nat.le_refl _) (by decide) rfl) ad l.length cap (flat tc l) rfl HL.out (hnews.out _) hone.out (by unfold maxLen; omega) (by omega) (by simp) ?_; intro v' w1 hown hgr _)
    go_ret
    refine ⟨v', rfl, by simpa using hown, ?_⟩
    refine Below.trans (below1 w _) (below_grown hgr (by simp) (fun k hk => ?_))
    simp [Value.ownBlock] at hk
    omega

theorem parts_job : (Try.prog.info? 39).map (fun i => (i.zero, i.size, i.bytes)) = some (some (.agg #[.int .i64 0, .int .i64 0, .bool false, .string ⟨#[]⟩, .int .i64 0, .int .i64 0, .string ⟨#[]⟩]), 7, 72) := by kernel_rfl
set_option maxHeartbeats 1000000 in
theorem clone_job (l : List Loopy.Job) (v : Value) (w : World) (hR : RdL w 7 jc l v) (hl : l.length ≤ 1000000) :
    Calls Try.prog 37 #[v] w fun e w' => OwnOut w 39 7 l.length (flat jc l) e w' := by
  obtain ⟨A, cap, rfl, hcap1, hcap2, hrow⟩ := hR
  obtain ⟨i0, hi0, hz0, hz1, hz2⟩ := info_parts parts_job
  have hlen := flat_len (f := jc) (k := 7) (fun _ => rfl) l
  have hone := Lib.hid (flat_one (f := jc) jc_one l)
  cases A with
  | none =>
    have h0 : l = [] := by
      cases l with
      | nil => rfl
      | cons x l => obtain ⟨_, _, h, _⟩ := hrow (by simp); cases h
    subst h0
    have hnil := fun w => Lib.run_eql_slice_nil (P := Try.prog) w 23 39 none 0 cap 0 0 Try.underlying23
    go_enter Try.func37, Try.ntmps37
    go_wp2
    go_ret
    exact ⟨_, rfl, World.ownsRow_nil _ _ _ _, Below.refl _ _⟩
  | some ad =>
    have hnil := fun w => Lib.run_eql_slice_nil (P := Try.prog) w 23 39 (some ad) l.length cap 0 0 Try.underlying23
    have hnews : Hid (∀ o j u, (flat jc l)[j]? = some u → (w.alloc o).cell? (ad.add j) = some u) := by
      intro o j u hu
      have hj : j < l.length * 7 := by rw [← hlen]; exact (List.getElem?_eq_some_iff.1 hu).1
      obtain ⟨g, o2, e, hg, hr⟩ := hrow (by omega)
      injection e with e
      subst e
      rw [Addr.add_mid]
      exact Lib.cell?_alloc_some o (hr j u hu)
    have HL := Lib.hid hlen
    clear hlen hrow
    go_enter Try.func37, Try.ntmps37
    go_wp2_with (at_builtin; refine wpList_append_own _ rfl (.tmp 5) (.tmp 6) 23 rfl w.heap.size 39 i0 _ 7 72 Try.underlying23 hi0 hz0 hz1 hz2 rfl (by decide) (.slice (some ⟨w.heap.size, 0, none⟩) 0 0) 0 [] rfl (World.ownsRow_made w #[] 0 (Nat.le_refl _) (by decide) rfl) ad l.length cap (flat jc l) rfl HL.out (hnews.out _) hone.out (by unfold maxLen; omega) (by omega) (by simp) ?_; intro v' w1 hown hgr _)
    go_ret
    refine ⟨v', rfl, by simpa using hown, ?_⟩
    refine Below.trans (below1 w _) (below_grown hgr (by simp) (fun k hk => ?_))
    simp [Value.ownBlock] at hk
    omega

theorem zero_timer (w : World) : (zeroValue 49).run Try.prog w = .ok (.agg #[.int .i64 0, .int .i64 0, .int .i64 0, .int .i64 0, .string ⟨#[]⟩]) w := by kernel_rfl
set_option maxHeartbeats 2000000 in
theorem delete_timer (l : List Loopy.Timer) (i : Nat) (hi : i < l.length) (base : Nat) (v : Value) (w : World) (hown : w.ownsRow base 49 5 v l.length (flat tc l)) (hl : l.length ≤ 1000000) :
    Calls Try.prog 42 #[v, .int .i64 (i : Int), .int .i64 ((i : Int) + 1)] w fun e w' => RowOut w base 49 5 (l.length - 1) v.ownBlock (flat tc (l.eraseIdx i)) e w' := by
  obtain ⟨i0, hi0, hz0, hz1, hz2⟩ := info_parts parts_timer
  obtain ⟨g, cap, R, rfl, hbase, hbox, hcap1, hcap2, hsz⟩ := own_box hown (by omega)
  have hlen := flat_len (f := tc) (k := 5) (fun _ => rfl) l
  have hl1 := flat_len (f := tc) (k := 5) (fun _ => rfl) (l.take i)
  have hl2 := flat_len (f := tc) (k := 5) (fun _ => rfl) (l.drop (i + 1))
  rw [List.length_take, Nat.min_eq_left (by omega)] at hl1
  rw [List.length_drop] at hl2
  have hone := Lib.hid (flat_one (f := tc) tc_one (l.drop (i + 1)))
  -- the cells that are moved to the left
  obtain ⟨A, hA, hsrc⟩ : ∃ A : Addr, (if cap = i + 1 then some (⟨g, 0, none⟩ : Addr) else some ⟨g, (i + 1) * 5, none⟩) = some A ∧ Hid (∀ t u, (flat tc (l.drop (i + 1)))[t]? = some u → w.drew.cell? (A.add t) = some u) := by
    by_cases h : cap = i + 1
    · refine ⟨⟨g, 0, none⟩, by simp [h], fun t u hu => ?_⟩
      have := (List.getElem?_eq_some_iff.1 hu).1
      rw [hl2] at this
      omega
    · refine ⟨⟨g, (i + 1) * 5, none⟩, by simp [h], fun t u hu => ?_⟩
      have e1 : flat tc l = flat tc (l.take (i + 1)) ++ flat tc (l.drop (i + 1)) := by rw [← flat_append, List.take_append_drop]
      have e2 := flat_len (f := tc) (k := 5) (fun _ => rfl) (l.take (i + 1))
      rw [List.length_take, Nat.min_eq_left (by omega)] at e2
      have ht := (List.getElem?_eq_some_iff.1 hu).1
      rw [Addr.add_mid]
      show w.cell? _ = _
      rw [hbox.cell, List.getElem?_toArray, List.getElem?_append_left (by rw [hlen]; rw [hl2] at ht; omega), e1, List.getElem?_append_right (by omega), e2]
      rw [show (i + 1) * 5 + t - (i + 1) * 5 = t by omega]
      exact hu
  have HB := Lib.hid hbox
  have H2 := Lib.hid hl2
  have HZ := Lib.hid hsz
  have hc2 : i + 1 ≤ cap := by omega
  have hic : i ≤ cap := by omega
  have hi1 : (i : Int) + 1 ≤ (l.length : Int) := by omega
  have hi2 : 0 ≤ (i : Int) + 1 := by omega
  have hfit : i * 5 + (l.length - (i + 1)) * 5 ≤ (flat tc l ++ R).length := by rw [hsz]; have : l.length * 5 ≤ cap * 5 := Nat.mul_le_mul_right _ hcap1; omega
  have hfit2 : (l.length - 1) * 5 + 5 ≤ (flat tc l ++ R).length := by rw [hsz]; have : l.length * 5 ≤ cap * 5 := Nat.mul_le_mul_right _ hcap1; omega
  have hne : ((i : Int) == (i : Int) + 1) = false := by simp; omega
  have hx1 : (i + (l.length - (i + 1))) = l.length - 1 := by omega
  have HX := Lib.hid hx1
  have e1t : (flat tc l ++ R).take (i * 5) = flat tc (l.take i) := by
    have e1 : flat tc l = flat tc (l.take i) ++ flat tc (l.drop i) := by rw [← flat_append, List.take_append_drop]
    rw [e1, List.append_assoc, List.take_append_of_le_length (by omega), List.take_of_length_le (by omega)]
  have HT := Lib.hid e1t
  clear hbox hown hl2 hlen hl1 hsz hx1 e1t
  go_enter Try.func42, Try.ntmps42
  go_wp2_with (fail)
  go_region_law (refine step_append_row (K := _) rfl (.tmp 22) (.tmp 25) 24 rfl 49 i0 5 Try.underlying24 hi0 hz1 g 0 i cap (by simp [Act.eval, Act.put]) (flat tc l ++ R) 49 HB.out.drew A (l.length - (i + 1)) (cap - (i + 1)) (flat tc (l.drop (i + 1))) (by simp [Act.eval, Act.put]) H2.out hsrc.out hone.out (by omega) (by rw [H2.out]; omega) ?_; intro w1 hb1 hu1 hs1; rw [HX.out])
  go_wp2_with (refine wpList_clear_one rfl (.tmp 31) 24 rfl 49 _ Try.underlying24 zero_timer (by decide) g ((l.length - 1) * 5) (l.length - (l.length - 1)) (cap - (l.length - 1)) rfl (by omega) _ 49 hb1.out (by rw [splice_size _ _ _ (by rw [H2.out]; omega)]; exact hfit2) ?_; intro w2 hb2 hu2 hs2)
  go_ret
  have h1 := splice_take (flat tc l ++ R) (0 + i * 5) (flat tc (l.drop (i + 1))) (by rw [Nat.zero_add]; omega)
  have h0 := splice_size (flat tc l ++ R) (0 + i * 5) (flat tc (l.drop (i + 1))) (by rw [H2.out]; omega)
  rw [H2.out, Nat.zero_add, HT.out, show i * 5 + (l.length - (i + 1)) * 5 = (l.length - 1) * 5 by omega] at h1
  rw [Nat.zero_add] at h0
  have hb2' := hb2.out
  rw [Nat.zero_add] at hb2'
  have h2 := splice_low (splice (flat tc l ++ R) (i * 5) (flat tc (l.drop (i + 1)))) ((l.length - 1) * 5) (Value.agg #[.int .i64 0, .int .i64 0, .int .i64 0, .int .i64 0, .string ⟨#[]⟩]).cells.toList ((l.length - 1) * 5) (Nat.le_refl _) (by rw [h0]; omega)
  have h3 := splice_size (splice (flat tc l ++ R) (i * 5) (flat tc (l.drop (i + 1)))) ((l.length - 1) * 5) (Value.agg #[.int .i64 0, .int .i64 0, .int .i64 0, .int .i64 0, .string ⟨#[]⟩]).cells.toList (by rw [h0]; exact hfit2)
  refine ⟨_, rfl, box_own hbase hb2' (by omega) hcap2 (by rw [h3, h0]; exact HZ.out) ?_ ?_, rfl, ((Upd.refl w g).drew.trans hu1).trans hu2⟩
  · rw [h2, h1, eraseIdx_flat]
  · rw [flat_len (k := 5) (fun _ => rfl), List.length_eraseIdx_of_lt hi]
theorem zero_job (w : World) : (zeroValue 39).run Try.prog w = .ok (.agg #[.int .i64 0, .int .i64 0, .bool false, .string ⟨#[]⟩, .int .i64 0, .int .i64 0, .string ⟨#[]⟩]) w := by kernel_rfl
set_option maxHeartbeats 2000000 in
theorem delete_job (l : List Loopy.Job) (i : Nat) (hi : i < l.length) (base : Nat) (v : Value) (w : World) (hown : w.ownsRow base 39 7 v l.length (flat jc l)) (hl : l.length ≤ 1000000) :
    Calls Try.prog 35 #[v, .int .i64 (i : Int), .int .i64 ((i : Int) + 1)] w fun e w' => RowOut w base 39 7 (l.length - 1) v.ownBlock (flat jc (l.eraseIdx i)) e w' := by
  obtain ⟨i0, hi0, hz0, hz1, hz2⟩ := info_parts parts_job
  obtain ⟨g, cap, R, rfl, hbase, hbox, hcap1, hcap2, hsz⟩ := own_box hown (by omega)
  have hlen := flat_len (f := jc) (k := 7) (fun _ => rfl) l
  have hl1 := flat_len (f := jc) (k := 7) (fun _ => rfl) (l.take i)
  have hl2 := flat_len (f := jc) (k := 7) (fun _ => rfl) (l.drop (i + 1))
  rw [List.length_take, Nat.min_eq_left (by omega)] at hl1
  rw [List.length_drop] at hl2
  have hone := Lib.hid (flat_one (f := jc) jc_one (l.drop (i + 1)))
  -- the cells that are moved to the left
  obtain ⟨A, hA, hsrc⟩ : ∃ A : Addr, (if cap = i + 1 then some (⟨g, 0, none⟩ : Addr) else some ⟨g, (i + 1) * 7, none⟩) = some A ∧ Hid (∀ t u, (flat jc (l.drop (i + 1)))[t]? = some u → w.drew.cell? (A.add t) = some u) := by
    by_cases h : cap = i + 1
    · refine ⟨⟨g, 0, none⟩, by simp [h], fun t u hu => ?_⟩
      have := (List.getElem?_eq_some_iff.1 hu).1
      rw [hl2] at this
      omega
    · refine ⟨⟨g, (i + 1) * 7, none⟩, by simp [h], fun t u hu => ?_⟩
      have e1 : flat jc l = flat jc (l.take (i + 1)) ++ flat jc (l.drop (i + 1)) := by rw [← flat_append, List.take_append_drop]
      have e2 := flat_len (f := jc) (k := 7) (fun _ => rfl) (l.take (i + 1))
      rw [List.length_take, Nat.min_eq_left (by omega)] at e2
      have ht := (List.getElem?_eq_some_iff.1 hu).1
      rw [Addr.add_mid]
      show w.cell? _ = _
      rw [hbox.cell, List.getElem?_toArray, List.getElem?_append_left (by rw [hlen]; rw [hl2] at ht; omega), e1, List.getElem?_append_right (by omega), e2]
      rw [show (i + 1) * 7 + t - (i + 1) * 7 = t by omega]
      exact hu
  have HB := Lib.hid hbox
  have H2 := Lib.hid hl2
  have HZ := Lib.hid hsz
  have hc2 : i + 1 ≤ cap := by omega
  have hic : i ≤ cap := by omega
  have hi1 : (i : Int) + 1 ≤ (l.length : Int) := by omega
  have hi2 : 0 ≤ (i : Int) + 1 := by omega
  have hfit : i * 7 + (l.length - (i + 1)) * 7 ≤ (flat jc l ++ R).length := by rw [hsz]; have : l.length * 7 ≤ cap * 7 := Nat.mul_le_mul_right _ hcap1; omega
  have hfit2 : (l.length - 1) * 7 + 7 ≤ (flat jc l ++ R).length := by rw [hsz]; have : l.length * 7 ≤ cap * 7 := Nat.mul_le_mul_right _ hcap1; omega
  have hne : ((i : Int) == (i : Int) + 1) = false := by simp; omega
  have hx1 : (i + (l.length - (i + 1))) = l.length - 1 := by omega
  have HX := Lib.hid hx1
  have e1t : (flat jc l ++ R).take (i * 7) = flat jc (l.take i) := by
    have e1 : flat jc l = flat jc (l.take i) ++ flat jc (l.drop i) := by rw [← flat_append, List.take_append_drop]
    rw [e1, List.append_assoc, List.take_append_of_le_length (by omega), List.take_of_length_le (by omega)]
  have HT := Lib.hid e1t
  clear hbox hown hl2 hlen hl1 hsz hx1 e1t
  go_enter Try.func35, Try.ntmps35
  go_wp2_with (fail)
  go_region_law (refine step_append_row (K := _) rfl (.tmp 22) (.tmp 25) 23 rfl 39 i0 7 Try.underlying23 hi0 hz1 g 0 i cap (by simp [Act.eval, Act.put]) (flat jc l ++ R) 39 HB.out.drew A (l.length - (i + 1)) (cap - (i + 1)) (flat jc (l.drop (i + 1))) (by simp [Act.eval, Act.put]) H2.out hsrc.out hone.out (by omega) (by rw [H2.out]; omega) ?_; intro w1 hb1 hu1 hs1; rw [HX.out])
  go_wp2_with (refine wpList_clear_one rfl (.tmp 31) 23 rfl 39 _ Try.underlying23 zero_job (by decide) g ((l.length - 1) * 7) (l.length - (l.length - 1)) (cap - (l.length - 1)) rfl (by omega) _ 39 hb1.out (by rw [splice_size _ _ _ (by rw [H2.out]; omega)]; exact hfit2) ?_; intro w2 hb2 hu2 hs2)
  go_ret
  have h1 := splice_take (flat jc l ++ R) (0 + i * 7) (flat jc (l.drop (i + 1))) (by rw [Nat.zero_add]; omega)
  have h0 := splice_size (flat jc l ++ R) (0 + i * 7) (flat jc (l.drop (i + 1))) (by rw [H2.out]; omega)
  rw [H2.out, Nat.zero_add, HT.out, show i * 7 + (l.length - (i + 1)) * 7 = (l.length - 1) * 7 by omega] at h1
  rw [Nat.zero_add] at h0
  have hb2' := hb2.out
  rw [Nat.zero_add] at hb2'
  have h2 := splice_low (splice (flat jc l ++ R) (i * 7) (flat jc (l.drop (i + 1)))) ((l.length - 1) * 7) (Value.agg #[.int .i64 0, .int .i64 0, .bool false, .string ⟨#[]⟩, .int .i64 0, .int .i64 0, .string ⟨#[]⟩]).cells.toList ((l.length - 1) * 7) (Nat.le_refl _) (by rw [h0]; omega)
  have h3 := splice_size (splice (flat jc l ++ R) (i * 7) (flat jc (l.drop (i + 1)))) ((l.length - 1) * 7) (Value.agg #[.int .i64 0, .int .i64 0, .bool false, .string ⟨#[]⟩, .int .i64 0, .int .i64 0, .string ⟨#[]⟩]).cells.toList (by rw [h0]; exact hfit2)
  refine ⟨_, rfl, box_own hbase hb2' (by omega) hcap2 (by rw [h3, h0]; exact HZ.out) ?_ ?_, rfl, ((Upd.refl w g).drew.trans hu1).trans hu2⟩
  · rw [h2, h1, eraseIdx_flat]
  · rw [flat_len (k := 7) (fun _ => rfl), List.length_eraseIdx_of_lt hi]
end Go.Proofs.Ytpjbblbehbepbaa
