/-
  Values: Binary at one sign. Conditions: as each says.
-/
import Derived.Test.YtollnadeaffomaaDoorVaE
namespace Go.Proofs.YtollnadeaffomaaDoor
open Go.RowKit

set_option maxRecDepth 100000 in
set_option maxHeartbeats 4000000 in
theorem bin_div (a b : Valu.V) (w : World) (_ : Env w) (_ : 4 ≤ w.heap.size) (ha : a.s.length ≤ 140737488355328) (hb : b.s.length ≤ 140737488355328) :
    Calls Tryd.prog 10 #[.string ⟨#[47]⟩, vag a, vag b] w fun e w' => BinOut .div (Valu.right a) (Valu.right b) w e w' := by
  have HA0 := fun w => right_any a w (by omega)
  have HB0 := fun w => right_any b w (by omega)
  have hca := Valu.check_right a
  have hcb := Valu.check_right b
  have hra := right_len a
  have hrb := right_len b
  obtain ⟨r, hr⟩ : ∃ r, Valu.right a = r := ⟨_, rfl⟩
  obtain ⟨q, hq⟩ : ∃ q, Valu.right b = q := ⟨_, rfl⟩
  rw [hr] at HA0 hca hra
  rw [hq] at HB0 hcb hrb
  rw [hr, hq]
  clear hr hq
  have HA := Lib.hid HA0
  have HB := Lib.hid HB0
  have HCA := Lib.hid hca
  have HCB := Lib.hid hcb
  clear HA0 HB0 hca hcb
  go_enter Tryd.func10, Tryd.ntmps10
  go_upto_region 1 with (fail)
  have hA0 : VBox (((w.alloc (.cells (vcells a) 23)).alloc (.cells (vcells b) 23)).alloc (.cells #[.int .i64 0, .int .i64 0, .string ⟨#[]⟩] 23)) w.heap.size a := ((Box.new w _ (vcells a)).alloc _).alloc _
  have hB0 : VBox (((w.alloc (.cells (vcells a) 23)).alloc (.cells (vcells b) 23)).alloc (.cells #[.int .i64 0, .int .i64 0, .string ⟨#[]⟩] 23)) (w.heap.size + 1) b := (new2 w _ _ _).alloc _
  have hR0 : Box (((w.alloc (.cells (vcells a) 23)).alloc (.cells (vcells b) 23)).alloc (.cells #[.int .i64 0, .int .i64 0, .string ⟨#[]⟩] 23)) (w.heap.size + 1 + 1) 23 zcells := new3 w _ _ _ _
  have hb0 : Below w.heap.size w (((w.alloc (.cells (vcells a) 23)).alloc (.cells (vcells b) 23)).alloc (.cells #[.int .i64 0, .int .i64 0, .string ⟨#[]⟩] 23)) := ((below1 w _).alloc (by simp) _).alloc (by simp; omega) _
  generalize (((w.alloc (.cells (vcells a) 23)).alloc (.cells (vcells b) 23)).alloc (.cells #[.int .i64 0, .int .i64 0, .string ⟨#[]⟩] 23)) = W at *
  go_cut [] (fun wx => Two w.heap.size w wx r q)
  case first =>
    obtain ⟨a0, a1, a2⟩ := box3 hA0
    obtain ⟨b0, b1, b2⟩ := box3 hB0
    have hzW := hR0.lt
    go_region_with (go_at_call 17; first
      | ((with_reducible refine (HA.out _).mono ?_); rintro e w1 ⟨rfl, hb1⟩; have hA1 : VBox w1 w.heap.size a := Box.below (w := W.drew) hA0 hb1 hA0.lt; have hB1 : VBox w1 (w.heap.size + 1) b := Box.below (w := W.drew) hB0 hb1 hB0.lt; have hR1 := Box.below (w := W.drew) hR0 hb1 hR0.lt; have hbb1 : Below w.heap.size w w1 := (Below.drew hb0).trans (hb1.mono (Nat.le_of_lt (Nat.lt_of_succ_lt (Nat.lt_of_succ_lt hzW)))); obtain ⟨c0, c1, c2⟩ := box3 hA1; obtain ⟨d0, d1, d2⟩ := box3 hB1)
      | ((with_reducible refine (HB.out _).mono ?_); rintro e w2 ⟨rfl, hb2⟩; have hA2 : VBox w2 w.heap.size a := Box.below hA1 hb2 hA1.lt; have hB2 : VBox w2 (w.heap.size + 1) b := Box.below hB1 hb2 hB1.lt; have hR2 := Box.below hR1 hb2 hR1.lt; have hbb2 : Below w.heap.size w w2 := hbb1.trans (hb2.mono (Nat.le_of_lt hA1.lt)); obtain ⟨e0, e1, e2⟩ := box3 hA2; obtain ⟨g0, g1, g2⟩ := box3 hB2; have fa0 := Box.frozen hA2 0; have fa1 := Box.frozen hA2 1; have fa2 := Box.frozen hA2 2; have fb0 := Box.frozen hB2 0; have fb1 := Box.frozen hB2 1; have fb2 := Box.frozen hB2 2))
    all_goals
      go_wp2_with (fail)
      go_meet
      exact two_stored r q hA2 hB2 hR2 hbb2
  case rest =>
    clear hA0 hB0 hR0 hb0
    have ht := hcut
    clear hcut
    obtain ⟨r0, r1, r2⟩ := box3 ht.ra
    obtain ⟨q0, q1, q2⟩ := box3 ht.qa
    go_upto_region 2 with (fail)
    go_cut [8, 9] (fun s8 s9 wx => s8 = .bool (Valu.nums r q) ∧ s9 = .bool (Valu.texts r q) ∧ Two w.heap.size w wx r q)
    case first =>
      clear HA HB HCA HCB
      by_cases e2 : r.k = 2
      case pos =>
        have hx2 : (r.k == 2) = true := by simpa using e2
        have hx3 : (r.k == 3) = false := by simp; omega
        have hT : Hid (false = Valu.texts r q) := by simp [Valu.texts, Hid, e2]
        by_cases f2 : q.k = 2
        case pos =>
          have hy2 : (q.k == 2) = true := by simpa using f2
          have hN : Hid (true = Valu.nums r q) := by simp [Valu.nums, Hid, e2, f2]
          clear e2 f2
          go_quiet (fail)
          go_wp2
          go_meet
          exact ⟨congrArg Value.bool hN.out, congrArg Value.bool hT.out, ht.drewN _⟩
        case neg =>
          have hy2 : (q.k == 2) = false := by simpa using f2
          have hN : Hid (false = Valu.nums r q) := by simp [Valu.nums, Hid, f2]
          clear e2 f2
          go_quiet (fail)
          go_wp2
          go_meet
          exact ⟨congrArg Value.bool hN.out, congrArg Value.bool hT.out, ht.drewN _⟩
      case neg =>
        have hx2 : (r.k == 2) = false := by simpa using e2
        have hN : Hid (false = Valu.nums r q) := by simp [Valu.nums, Hid, e2]
        by_cases e3 : r.k = 3
        case pos =>
          have hx3 : (r.k == 3) = true := by simpa using e3
          by_cases f3 : q.k = 3
          case pos =>
            have hy3 : (q.k == 3) = true := by simpa using f3
            have hT : Hid (true = Valu.texts r q) := by simp [Valu.texts, Hid, e3, f3]
            clear e2 e3 f3
            go_quiet (fail)
            go_wp2
            go_meet
            exact ⟨congrArg Value.bool hN.out, congrArg Value.bool hT.out, ht.drewN _⟩
          case neg =>
            have hy3 : (q.k == 3) = false := by simpa using f3
            have hT : Hid (false = Valu.texts r q) := by simp [Valu.texts, Hid, f3]
            clear e2 e3 f3
            go_quiet (fail)
            go_wp2
            go_meet
            exact ⟨congrArg Value.bool hN.out, congrArg Value.bool hT.out, ht.drewN _⟩
        case neg =>
          have hx3 : (r.k == 3) = false := by simpa using e3
          have hT : Hid (false = Valu.texts r q) := by simp [Valu.texts, Hid, e3]
          clear e2 e3
          go_quiet (fail)
          go_wp2
          go_meet
          exact ⟨congrArg Value.bool hN.out, congrArg Value.bool hT.out, ht.drewN _⟩
    case rest =>
      obtain ⟨rfl, rfl, ht2⟩ := hcut
      clear r0 r1 r2 q0 q1 q2 ht
      obtain ⟨n, hn⟩ : ∃ n, Valu.nums r q = n := ⟨_, rfl⟩
      obtain ⟨t, htx⟩ : ∃ t, Valu.texts r q = t := ⟨_, rfl⟩
      rw [hn, htx]
      have HN := Lib.hid hn
      have HX := Lib.hid htx
      have hrz : r.s.length ≤ 140737488355328 := by omega
      have hqz : q.s.length ≤ 140737488355328 := by omega
      clear hn htx ha hb hra hrb
      obtain ⟨r0, r1, r2⟩ := box3 ht2.ra
      obtain ⟨q0, q1, q2⟩ := box3 ht2.qa
      have hzz := ht2.za.lt

      cases n
      case true =>
        obtain ⟨hkr, hkq⟩ := nums_k HN.out
        have hwr := within_of HCA.out hkr
        have hwq := within_of HCB.out hkq
        clear hkr hkq
        by_cases h0 : q.n = 0
        case pos =>
          have HO := Lib.hid (show Valu.binR .div r q = (Valu.null, Valu.sZero) from by simp [Valu.binR, Valu.divR, HN.out, h0])
          have HC := Lib.hid (fun w => reck_zero ⟨#[47]⟩ (by simp) r.n w)
          clear hwr hwq
          rw [h0] at q1
          clear h0
          go_wp2_with (fail)
          refine (HC.out _).mono ?_
          rintro e w5 ⟨rfl, hb5⟩
          have hz5 := Box.below ht2.za hb5 ht2.za.lt
          have hbe5 := ht2.be.trans (hb5.mono (by omega))
          obtain ⟨z0, z1, z2, f0, f1, f2⟩ := zfacts hz5
          go_wp2_with (fail)
          refine bodyPost_ret (ret_val_tmp rfl _ _ _ Valu.null rfl (setv hz5 rfl Valu.null)) rfl ?_
          exact ⟨by rw [HO.out]; rfl, lowv hbe5 (by omega) _ _ _⟩
        case neg =>
          have HO := Lib.hid (show Valu.binR .div r q = Valu.number (r.n.tdiv q.n) from by simp [Valu.binR, Valu.divR, HN.out, h0])
          have HC := Lib.hid (fun w => reck_div r.n q.n hwr hwq (beq_no h0) w)
          clear hwr hwq h0
          go_wp2_with (fail)
          refine (HC.out _).mono ?_
          rintro e w5 ⟨rfl, hb5⟩
          have hz5 := Box.below ht2.za hb5 ht2.za.lt
          have hbe5 := ht2.be.trans (hb5.mono (by omega))
          obtain ⟨z0, z1, z2, f0, f1, f2⟩ := zfacts hz5
          go_wp2_with (fail)
          refine bodyPost_ret (ret_val_tmp rfl _ _ _ (Valu.number (r.n.tdiv q.n)).1 rfl (setv hz5 rfl (Valu.number (r.n.tdiv q.n)).1)) rfl ?_
          exact ⟨by rw [HO.out]; rfl, lowv hbe5 (by omega) _ _ _⟩
      case false =>
        have HO := Lib.hid (show Valu.binR .div r q = (Valu.null, Valu.sKind) from by simp [Valu.binR, Valu.divR, HN.out])
        obtain ⟨z0, z1, z2, f0, f1, f2⟩ := zfacts ht2.za
        go_wp2_with (fail)
        refine bodyPost_ret (ret_val_tmp rfl _ _ _ Valu.null rfl (setv ht2.za rfl Valu.null)) rfl ?_
        exact ⟨by rw [HO.out]; rfl, lowv ht2.be (by omega) _ _ _⟩
end Go.Proofs.YtollnadeaffomaaDoor
