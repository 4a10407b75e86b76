/-
  Values: kind, text, sameness, numbers. Conditions: as each says.
-/
import Derived.Test.YtollnadeaffomaaDoorVaA
import Derived.Test.YtollnadeaffomaaDoorShelf
import Derived.WalkSmall
import Derived.Deep.RegionHeld3
namespace Go.Proofs.YtollnadeaffomaaDoor
open Go.RowKit

theorem grow_below (w : World) (k : Nat) (os : Array Obj) : Below w.heap.size w (Go.Sort.grow (w.drewN k) os) := by
  refine ⟨rfl, rfl, rfl, ?_, fun i hi => ?_⟩
  · show w.heap.size ≤ (w.heap ++ os).size
    simp
  · show (w.heap ++ os)[i]? = w.heap[i]?
    rw [Array.getElem?_append_left hi]

/-- the library's table of powers of ten. -/
def Env (w : World) : Prop := Lib.TabIs Tryd.prog w "internal/strconv.uint64pow10" .u64 Lib.pow10Tab
theorem gPow : Tryd.prog.globalNamed "internal/strconv.uint64pow10" = some 1 := by kernel_rfl
theorem Env.below {w w' : World} (h : Env w) {B : Nat} (hb : Below B w w') (hB : 4 ≤ B) : Env w' := var?_below hb gPow (by omega) h

set_option maxHeartbeats 1000000 in
theorem number_any (n : Int) (w : World) :
    Calls Tryd.prog 23 #[.int .i64 n, .bool true] w fun e w' => e = .returned (.tuple #[vag (Valu.number n).1, .string (byt (Valu.number n).2)]) ∧ Below w.heap.size w w' := by
  have HC := Lib.hid (fun w => within_any n (-9007199254740992) 9007199254740992 w)
  unfold Valu.number
  change Calls Tryd.prog 23 #[.int .i64 n, .bool true] w fun e w' => e = .returned (.tuple #[vag (if Valu.within n (-9007199254740992) 9007199254740992 = true then (Valu.num n, []) else (Valu.null, Valu.sRange)).1, .string (byt (if Valu.within n (-9007199254740992) 9007199254740992 = true then (Valu.num n, []) else (Valu.null, Valu.sRange)).2)]) ∧ Below w.heap.size w w'
  obtain ⟨c, hc⟩ : ∃ c, Valu.within n (-9007199254740992) 9007199254740992 = c := ⟨_, rfl⟩
  rw [hc] at HC
  rw [hc]
  clear hc
  cases c
  all_goals
    go_enter Tryd.func23, Tryd.ntmps23
    go_wp2_with (fail)
    refine (HC.out _).mono ?_
    rintro e w1 ⟨rfl, rfl⟩
    go_wp2
    go_returns
    exact ⟨rfl, below1 _ _⟩

set_option maxHeartbeats 1000000 in
theorem number_no (n : Int) (w : World) :
    Calls Tryd.prog 23 #[.int .i64 n, .bool false] w fun e w' => e = .returned (.tuple #[vag Valu.null, .string (byt Valu.sRange)]) ∧ Below w.heap.size w w' := by
  go_enter Tryd.func23, Tryd.ntmps23
  go_wp2
  go_returns
  exact ⟨rfl, below1 _ _⟩

set_option maxHeartbeats 1000000 in
theorem text_any (v : Valu.V) (w : World) (he : Env w) (h4 : 4 ≤ w.heap.size) (hz : v.s.length ≤ 140737488355328) :
    Calls Tryd.prog 14 #[vag v] w fun e w' => e = .returned (.string (byt (Valu.text v))) ∧ Below w.heap.size w w' := by
  have HC := Lib.hid (fun w => right_any v w (by omega))
  have hlen := right_len v
  have hck := Valu.check_right v
  unfold Valu.text
  obtain ⟨r, hr⟩ : ∃ r, Valu.right v = r := ⟨_, rfl⟩
  rw [hr] at HC hlen hck
  rw [hr]
  clear hr
  obtain ⟨k, n, s⟩ := r
  have hs : (byt s).size ≤ 140737488355328 := by rw [byt_size]; simp at hlen; omega
  have HK := Lib.hid hck
  clear hck hlen
  rcases kinds k with rfl | rfl | rfl | rfl | rfl | rfl | ⟨h0, h1, h2, h3, h4, h5⟩
  · go_enter Tryd.func14, Tryd.ntmps14
    go_wp2_with (fail)
    refine (HC.out _).mono ?_
    rintro e w1 ⟨rfl, hb⟩
    have hz1 := hb.size
    simp at hz1
    have hv1 := (Box.new w _ (vcells v)).below hb (by simp)
    have hb1 := (below1 w (.cells (vcells v) 23)).trans (hb.mono (by simp))
    go_wp2_with (refine store_val rfl _ _ rfl w.heap.size _ rfl rfl _ hv1 rfl ?_; intro w2 hx2 hu2 hz2; obtain ⟨q0, q1, q2⟩ := box3 hx2; have hb2 := hb1.trans (hu2.own (Nat.le_refl _) (by omega)))
    go_ret
    exact ⟨rfl, hb2⟩
  · go_enter Tryd.func14, Tryd.ntmps14
    go_wp2_with (fail)
    refine (HC.out _).mono ?_
    rintro e w1 ⟨rfl, hb⟩
    have hz1 := hb.size
    simp at hz1
    have hv1 := (Box.new w _ (vcells v)).below hb (by simp)
    have hb1 := (below1 w (.cells (vcells v) 23)).trans (hb.mono (by simp))
    go_wp2_with (refine store_val rfl _ _ rfl w.heap.size _ rfl rfl _ hv1 rfl ?_; intro w2 hx2 hu2 hz2; obtain ⟨q0, q1, q2⟩ := box3 hx2; have hb2 := hb1.trans (hu2.own (Nat.le_refl _) (by omega)))
    refine (Tryd.strconv_FormatBool _ _).mono ?_
    rintro e w3 ⟨rfl, rfl⟩
    go_wp2
    go_ret
    exact ⟨by show Ending.returned (.string ⟨(Lib.formatBool (n == 1)).toArray⟩) = _; rw [beq_dec]; rfl, hb2⟩
  · go_enter Tryd.func14, Tryd.ntmps14
    go_wp2_with (fail)
    refine (HC.out _).mono ?_
    rintro e w1 ⟨rfl, hb⟩
    have hz1 := hb.size
    simp at hz1
    have hv1 := (Box.new w _ (vcells v)).below hb (by simp)
    have hb1 := (below1 w (.cells (vcells v) 23)).trans (hb.mono (by simp))
    go_wp2_with (refine store_val rfl _ _ rfl w.heap.size _ rfl rfl _ hv1 rfl ?_; intro w2 hx2 hu2 hz2; obtain ⟨q0, q1, q2⟩ := box3 hx2; have hb2 := hb1.trans (hu2.own (Nat.le_refl _) (by omega)))
    have hw : Valu.within n (-Valu.big) Valu.big = true := by
      have h := HK.out
      simp [Valu.check] at h
      exact h.1
    have hw1 := (Valu.within_iff.1 hw).1
    have hw2 := (Valu.within_iff.1 hw).2
    unfold Valu.big at hw1 hw2
    refine (Tryd.strconv_Itoa n (by omega) (by omega) _ (he.below hb2 h4)).mono ?_
    rintro e w3 ⟨rfl, k, os, rfl⟩
    go_wp2
    go_ret
    exact ⟨rfl, hb2.trans ((grow_below _ _ _).mono (by omega))⟩
  · go_enter Tryd.func14, Tryd.ntmps14
    go_wp2_with (fail)
    refine (HC.out _).mono ?_
    rintro e w1 ⟨rfl, hb⟩
    have hz1 := hb.size
    simp at hz1
    have hv1 := (Box.new w _ (vcells v)).below hb (by simp)
    have hb1 := (below1 w (.cells (vcells v) 23)).trans (hb.mono (by simp))
    go_wp2_with (refine store_val rfl _ _ rfl w.heap.size _ rfl rfl _ hv1 rfl ?_; intro w2 hx2 hu2 hz2; obtain ⟨q0, q1, q2⟩ := box3 hx2; have hb2 := hb1.trans (hu2.own (Nat.le_refl _) (by omega)))
    go_ret
    exact ⟨rfl, hb2⟩
  · go_enter Tryd.func14, Tryd.ntmps14
    go_wp2_with (fail)
    refine (HC.out _).mono ?_
    rintro e w1 ⟨rfl, hb⟩
    have hz1 := hb.size
    simp at hz1
    have hv1 := (Box.new w _ (vcells v)).below hb (by simp)
    have hb1 := (below1 w (.cells (vcells v) 23)).trans (hb.mono (by simp))
    go_wp2_with (refine store_val rfl _ _ rfl w.heap.size _ rfl rfl _ hv1 rfl ?_; intro w2 hx2 hu2 hz2; obtain ⟨q0, q1, q2⟩ := box3 hx2; have hb2 := hb1.trans (hu2.own (Nat.le_refl _) (by omega)))
    go_ret
    exact ⟨rfl, hb2⟩
  · go_enter Tryd.func14, Tryd.ntmps14
    go_wp2_with (fail)
    refine (HC.out _).mono ?_
    rintro e w1 ⟨rfl, hb⟩
    have hz1 := hb.size
    simp at hz1
    have hv1 := (Box.new w _ (vcells v)).below hb (by simp)
    have hb1 := (below1 w (.cells (vcells v) 23)).trans (hb.mono (by simp))
    go_wp2_with (refine store_val rfl _ _ rfl w.heap.size _ rfl rfl _ hv1 rfl ?_; intro w2 hx2 hu2 hz2; obtain ⟨q0, q1, q2⟩ := box3 hx2; have hb2 := hb1.trans (hu2.own (Nat.le_refl _) (by omega)))
    go_ret
    refine ⟨?_, hb2⟩
    show Ending.returned (.string (byt [91, 99, 97, 108, 108, 32] ++ byt s ++ byt [93])) = _
    rw [byt_append, byt_append]
    rfl
  · exfalso
    have h := HK.out
    simp_all [Valu.check]

/-- two values, in boxes side by side, and nothing below has turned. -/
def TwoV (W : World) (n : Nat) (a b : Valu.V) (w' : World) : Prop :=
  Below W.heap.size W w' ∧ w'.cell? ⟨n, 0, none⟩ = some (.int .i64 a.k) ∧ w'.cell? ⟨n, 1, none⟩ = some (.int .i64 a.n) ∧ w'.cell? ⟨n, 2, none⟩ = some (.string (byt a.s)) ∧
    w'.cell? ⟨n + 1, 0, none⟩ = some (.int .i64 b.k) ∧ w'.cell? ⟨n + 1, 1, none⟩ = some (.int .i64 b.n) ∧ w'.cell? ⟨n + 1, 2, none⟩ = some (.string (byt b.s))
theorem twoV {W wp w1 : World} {n : Nat} {a b : Valu.V} (hA : VBox W n a) (hB : VBox W (n + 1) b) (hW : Below W.heap.size W wp) (hb : Below wp.heap.size wp w1) : TwoV W n a b w1 := by
  have h1 : Below W.heap.size W w1 := hW.trans (hb.mono hW.size)
  obtain ⟨a0, a1, a2⟩ := box3 (Box.below hA h1 hA.lt)
  obtain ⟨b0, b1, b2⟩ := box3 (Box.below hB h1 hB.lt)
  exact ⟨h1, a0, a1, a2, b0, b1, b2⟩

set_option maxHeartbeats 1000000 in
theorem same_any (a b : Valu.V) (w : World) (ha : a.s.length ≤ 140737488355328) (hb : b.s.length ≤ 140737488355328) :
    Calls Tryd.prog 13 #[vag a, vag b] w fun e w' => e = .returned (.bool (Valu.same a b)) ∧ Below w.heap.size w w' := by
  have HA := Lib.hid (fun w => right_any a w (by omega))
  have HB := Lib.hid (fun w => right_any b w (by omega))
  unfold Valu.same
  obtain ⟨r, hr⟩ : ∃ r, Valu.right a = r := ⟨_, rfl⟩
  obtain ⟨q, hq⟩ : ∃ q, Valu.right b = q := ⟨_, rfl⟩
  rw [hr] at HA
  rw [hq] at HB
  rw [hr, hq]
  clear hr hq
  have heq := eql_val r q
  go_enter Tryd.func13, Tryd.ntmps13
  go_wp2_with (fail)
  have hA0 : VBox ((w.alloc (.cells (vcells a) 23)).alloc (.cells (vcells b) 23)) w.heap.size a := (Box.new w _ (vcells a)).alloc _
  have hB0 : VBox ((w.alloc (.cells (vcells a) 23)).alloc (.cells (vcells b) 23)) (w.heap.size + 1) b := new2 w _ _ _
  have hb0 : Below w.heap.size w ((w.alloc (.cells (vcells a) 23)).alloc (.cells (vcells b) 23)) := (below1 w _).alloc (by simp) _
  generalize ((w.alloc (.cells (vcells a) 23)).alloc (.cells (vcells b) 23)) = W at *
  have hzW := hB0.lt
  go_region_held3 (fun w' => Below W.heap.size W w' ∧ w'.cell? ⟨w.heap.size, 0, none⟩ = some (.int .i64 a.k) ∧ w'.cell? ⟨w.heap.size, 1, none⟩ = some (.int .i64 a.n) ∧ w'.cell? ⟨w.heap.size, 2, none⟩ = some (.string (byt a.s)) ∧ w'.cell? ⟨w.heap.size + 1, 0, none⟩ = some (.int .i64 b.k) ∧ w'.cell? ⟨w.heap.size + 1, 1, none⟩ = some (.int .i64 b.n) ∧ w'.cell? ⟨w.heap.size + 1, 2, none⟩ = some (.string (byt b.s)))
    (first | exact twoV hA0 hB0 (Below.refl _ W) (Below.drew (Below.refl _ W)) | (go_split_ands; exact twoV hA0 hB0 (by assumption) hb1))
    (first | (go_at_call 17; first | ((with_reducible refine (HA.out _).mono ?_); rintro e w1 ⟨rfl, hb1⟩) | ((with_reducible refine (HB.out _).mono ?_); rintro e w1 ⟨rfl, hb1⟩)))
  rename_i hH
  go_wp2
  go_ret
  exact ⟨rfl, hb0.trans (hH.1.mono hb0.size)⟩

theorem kind_at (k n : Int) (s : Valu.Bs) (h : k = 0 ∨ k = 1 ∨ k = 2 ∨ k = 3 ∨ k = 4 ∨ k = 5) (w : World) :
    (Instr.index 46 (.agg #[.string ⟨#[110, 117, 108, 108]⟩, .string ⟨#[98, 111, 111, 108]⟩, .string ⟨#[110, 117, 109, 98, 101, 114]⟩, .string ⟨#[116, 101, 120, 116]⟩, .string ⟨#[114, 101, 102]⟩, .string ⟨#[99, 97, 108, 108]⟩]) (.int .i64 k)).run Tryd.prog w = .ok (.string (byt (Valu.kindR ⟨k, n, s⟩))) w := by
  rcases h with rfl | rfl | rfl | rfl | rfl | rfl <;> kernel_rfl
set_option maxHeartbeats 1000000 in
theorem kind_any (v : Valu.V) (w : World) (hz : v.s.length ≤ 140737488355328) :
    Calls Tryd.prog 15 #[vag v] w fun e w' => e = .returned (.string (byt (Valu.kind v))) ∧ Below w.heap.size w w' := by
  have HC := Lib.hid (fun w => right_any v w (by omega))
  have hck := Valu.check_right v
  unfold Valu.kind
  obtain ⟨r, hr⟩ : ∃ r, Valu.right v = r := ⟨_, rfl⟩
  rw [hr] at HC hck
  rw [hr]
  clear hr
  have HK := Lib.hid hck
  clear hck
  obtain ⟨k, n, s⟩ := r
  have hfd := field_val0 ⟨k, n, s⟩
  have hix := fun hk => kind_at k n s hk
  rcases kinds k with rfl | rfl | rfl | rfl | rfl | rfl | ⟨h0, h1, h2, h3, h4, h5⟩
  case inr.inr.inr.inr.inr.inr =>
    exfalso
    have h := HK.out
    simp_all [Valu.check]
  all_goals
    have hidx := hix (by simp)
    clear hix
    go_enter Tryd.func15, Tryd.ntmps15
    go_wp2_with (fail)
    refine (HC.out _).mono ?_
    rintro e w1 ⟨rfl, hb⟩
    have hz1 := hb.size
    simp at hz1
    go_wp2
    go_ret
    exact ⟨rfl, (below1 w _).trans (hb.mono (by simp))⟩
end Go.Proofs.YtollnadeaffomaaDoor
