/-
  StoreGets returns true. Conditions: as each says.
-/
import Derived.Test.YtlepbooegofoeaaGreatDoorStZ
import Derived.Deep.RegionLaw
import Derived.Deep.RegionHeld3
import Derived.BigQuiet
namespace Story
set_option linter.unusedSimpArgs false
set_option linter.unusedVariables false
def fives (loc key value : Bs) : List Op := [⟨2, loc, key, value⟩, ⟨1, loc, key, value⟩, ⟨2, loc, key, value⟩, ⟨3, loc, key, value⟩, ⟨2, loc, key, value⟩]
theorem setS_same (S : St) (g : Bs) (d : D) : (setS S g d) g = some d := by simp [setS]
theorem gets_law (S : St) (loc key value : Bs) :
    (∃ e, e ≠ 0 ∧ runs S (fives loc key value) = [⟨e, [], false, []⟩, ⟨e, [], false, []⟩, ⟨e, [], false, []⟩, ⟨e, [], false, []⟩, ⟨e, [], false, []⟩]) ∨
    (∃ t b y, runs S (fives loc key value) = [⟨0, t, b, []⟩, ⟨2, [], false, []⟩, ⟨0, t, b, []⟩, ⟨0, t, b, []⟩, y]) ∨
    (∃ t b, runs S (fives loc key value) = [⟨0, t, b, []⟩, ⟨0, t, b, []⟩, ⟨0, value, true, []⟩, ⟨0, value, true, []⟩, ⟨0, [], false, []⟩]) := by
  cases ho : Urly.originOf loc with
  | error e =>
    refine .inl ⟨e, Go.Proofs.YtlepbooegofoeaaGreatDoor.ori_no0 ho, ?_⟩
    simp only [fives, runs, step, ho]
  | ok g =>
    refine .inr ?_
    obtain ⟨d, hd⟩ : ∃ d, (S g).getD d0 = d := ⟨_, rfl⟩
    by_cases hl : 400 < d.bytes + more d key value
    · refine .inl ⟨(d.f key).getD [], (d.f key).isSome, (get (drop d key).2 key).1, ?_⟩
      simp only [fives, runs, step, ho, hd, setS_same, Option.getD_some]
      simp [doOp, get, put, hl, drop]
    · refine .inr ⟨(d.f key).getD [], (d.f key).isSome, ?_⟩
      simp only [fives, runs, step, ho, hd, setS_same, Option.getD_some]
      simp [doOp, get, put, hl, drop, setF]
end Story

namespace Go.Proofs.YtlepbooegofoeaaGreatDoor
set_option linter.unusedSimpArgs false
set_option linter.unusedVariables false
open Go.RowKit

/-- the last five of some answers. -/
theorem last5 {α β : Type} {A : List (α × β)} {R : List α} {n : Nat} {x0 x1 x2 x3 x4 : α} (h : A.map (·.1) = R ++ [x0, x1, x2, x3, x4]) (hn : R.length = n) : ∃ k0 k1 k2 k3 k4, A[n]? = some (x0, k0) ∧ A[n + 1]? = some (x1, k1) ∧ A[n + 2]? = some (x2, k2) ∧ A[n + 3]? = some (x3, k3) ∧ A[n + 4]? = some (x4, k4) ∧ A.length = n + 5 := by
  have hl : A.length = n + 5 := by have := congrArg List.length h; simpa [hn] using this
  have key : ∀ (i : Nat) (x : α), [x0, x1, x2, x3, x4][i]? = some x → ∃ k, A[n + i]? = some (x, k) := by
    intro i x hx
    have h1 : (A.map (·.1))[n + i]? = some x := by
      rw [h, List.getElem?_append_right (by omega), hn, Nat.add_sub_cancel_left]; exact hx
    rw [List.getElem?_map] at h1
    cases ha : A[n + i]? with
    | none => rw [ha] at h1; cases h1
    | some y =>
      rw [ha] at h1
      injection h1 with h1
      exact ⟨y.2, by rw [← h1]⟩
  obtain ⟨k0, h0⟩ := key 0 x0 rfl
  obtain ⟨k1, h1⟩ := key 1 x1 rfl
  obtain ⟨k2, h2⟩ := key 2 x2 rfl
  obtain ⟨k3, h3⟩ := key 3 x3 rfl
  obtain ⟨k4, h4⟩ := key 4 x4 rfl
  exact ⟨k0, k1, k2, k3, k4, h0, h1, h2, h3, h4, hl⟩
theorem rng_below {w w1 : World} (hb : Below w.heap.size w w1) {g o : Nat} {xs : List Value} (hg : g < w.heap.size) (h : w.rangeAt g o xs) : w1.rangeAt g o xs := fun j u hu => by rw [hb.cell (p := ⟨g, o + j, none⟩) hg]; exact h j u hu
theorem box_cell0 (w : World) (t : TypeId) (v : Value) : (w.alloc (.cells #[v] t)).cell? ⟨w.heap.size, 0, none⟩ = some v := (Box.new w t #[v]).cell 0
def TrueOut (w : World) (e : Ending) (w' : World) : Prop := e = .returned (.bool true) ∧ Below w.heap.size w w'
set_option maxRecDepth 100000 in
set_option maxHeartbeats 16000000 in
theorem gets_true (ops : List Story.Op) (loc key value : List UInt8) (v : Value) (w : World) (he : Env w) (hv : Rd w 4 (flat ocells ops) ops.length v) (hsz : ∀ o ∈ ops, o.key.length ≤ 140737488355328 ∧ o.value.length ≤ 140737488355328) (hk : key.length ≤ 140737488355328) (hva : value.length ≤ 140737488355328) :
    Calls Tryz.prog 8 #[v, .string (byt loc), .string (byt key), .string (byt value)] w (TrueOut w) := by
  obtain ⟨A0, cap0, rfl, hc1, hc2, hcells⟩ := hv
  have HV : Hid (Rd w 4 (flat ocells ops) ops.length (.slice A0 ops.length cap0)) := Lib.hid ⟨_, _, rfl, hc1, hc2, hcells⟩
  have HSZ := Lib.hid hsz
  have HLV : Hid (∀ w1, Below w.heap.size w w1 → Calls Tryz.prog 16 #[] w1 fun e w' => e = .returned (.bool true) ∧ Below w1.heap.size w1 w') := Lib.hid (fun w1 h1 => storeLives_true w1 (he.below h1))
  have HRUN : Hid (∀ (l : List Story.Op) (u : Value) (w1 : World), Below w.heap.size w w1 → Rd w1 4 (flat ocells l) l.length u → (∀ o ∈ l, o.key.length ≤ 140737488355328 ∧ o.value.length ≤ 140737488355328) → Calls Tryz.prog 18 #[u] w1 (RunOut l w1)) := Lib.hid (fun l u w1 h1 h2 h3 => run_any l u w1 (he.below h1) h2 h3)
  have HCL : Hid (∀ w1, Below w.heap.size w w1 → ops.length ≤ 90 → Calls Tryz.prog 17 #[.slice A0 ops.length cap0] w1 fun e w' => OwnOut w1 34 4 ops.length (flat ocells ops) e w') := Lib.hid (fun w1 h1 hl => clone_op ops _ w1 (HV.out.below h1) (by omega))
  obtain ⟨i0, hi0, hi1, hi2, hi3⟩ := info_parts parts_op
  obtain ⟨N, hN⟩ : ∃ N, ops.length = N := ⟨_, rfl⟩
  have HN := Lib.hid hN
  obtain ⟨LO, hLO⟩ : ∃ c, byt loc = c := ⟨_, rfl⟩
  obtain ⟨KE, hKE⟩ : ∃ c, byt key = c := ⟨_, rfl⟩
  obtain ⟨VA, hVA⟩ : ∃ c, byt value = c := ⟨_, rfl⟩
  have HOC : Hid (∀ (k : Int), ocells ⟨k, loc, key, value⟩ = #[.int .i64 k, .string LO, .string KE, .string VA]) := Lib.hid (fun k => by rw [← hLO, ← hKE, ← hVA]; rfl)
  have HLO := Lib.hid hLO
  have HKE := Lib.hid hKE
  have HVA := Lib.hid hVA
  have HKL := Lib.hid hk
  have HVL := Lib.hid hva
  rw [hN] at hc1 HCL
  rw [hN, hLO, hKE, hVA]
  clear hcells hsz hN he hLO hKE hVA hk hva
  go_enter Tryz.func8, Tryz.ntmps8
  go_upto_region 1 with (fail)
  obtain ⟨w0, hw0⟩ : ∃ w0, ((w.alloc (.cells #[.string LO] 9)).alloc (.cells #[.string KE] 9)).alloc (.cells #[.string VA] 9) = w0 := ⟨_, rfl⟩
  rw [hw0]
  have HB0 : Hid (Below w.heap.size w w0) := Lib.hid (by rw [← hw0]; exact ((below1 w _).alloc (by simp) _).alloc (by simp; omega) _)
  have hz0 : w0.heap.size = w.heap.size + 3 := by rw [← hw0]; simp
  have HZ0 := Lib.hid hz0
  have HC0 : Hid (w0.cell? ⟨w.heap.size, 0, none⟩ = some (.string LO) ∧ w0.cell? ⟨w.heap.size + 1, 0, none⟩ = some (.string KE) ∧ w0.cell? ⟨w.heap.size + 1 + 1, 0, none⟩ = some (.string VA)) := Lib.hid (by
    rw [← hw0]
    refine ⟨?_, ?_, ?_⟩
    · exact (((Box.new w 9 #[.string LO]).alloc _).alloc _).cell 0
    · have := (((Box.new (w.alloc (.cells #[.string LO] 9)) 9 #[.string KE]).alloc (.cells #[.string VA] 9)).cell 0)
      simpa using this
    · have := (Box.new ((w.alloc (.cells #[.string LO] 9)).alloc (.cells #[.string KE] 9)) 9 #[.string VA]).cell 0
      simpa using this)
  have HON : Hid (∀ (k : Int) (w1 : World), Below w0.heap.size w0 w1 → Calls Tryz.prog 26 #[.int .i64 k, .pointer (some ⟨w.heap.size, 0, none⟩), .pointer (some ⟨w.heap.size + 1, 0, none⟩), .pointer (some ⟨w.heap.size + 1 + 1, 0, none⟩)] w1 fun e w' => e = .returned (.agg #[.int .i64 k, .string LO, .string KE, .string VA]) ∧ Below w1.heap.size w1 w') := Lib.hid (fun k w1 h1 => by
    have := opnew_any ⟨k, loc, key, value⟩ w.heap.size (w.heap.size + 1) (w.heap.size + 1 + 1) w1 (by rw [h1.cell (p := ⟨w.heap.size, 0, none⟩) (by simp only; have := HZ0.out; omega)]; exact HC0.out.1.trans (by rw [HLO.out])) (by rw [h1.cell (p := ⟨w.heap.size + 1, 0, none⟩) (by simp only; have := HZ0.out; omega)]; exact HC0.out.2.1.trans (by rw [HKE.out])) (by rw [h1.cell (p := ⟨w.heap.size + 1 + 1, 0, none⟩) (by simp only; have := HZ0.out; omega)]; exact HC0.out.2.2.trans (by rw [HVA.out])) (by have := h1.size; have := HZ0.out; omega) (by have := h1.size; have := HZ0.out; omega) (by have := h1.size; have := HZ0.out; omega)
    rw [HOC.out k] at this
    exact this)
  clear hw0 hz0
  go_wp2_with (fail)
  refine (HLV.out _ HB0.out).mono ?_
  rintro e w1 ⟨rfl, hw1⟩
  have HB01 : Hid (Below w0.heap.size w0 w1) := Lib.hid hw1
  have HB1 : Hid (Below w.heap.size w w1) := Lib.hid (HB0.out.trans (hw1.mono HB0.out.size))
  clear hw1
  by_cases hlarge : 90 < N
  · have d1 : decide ((N : Int) > 90) = true := decide_eq_true (by omega)
    have d2 : (90 : Int) < (N : Int) := by omega
    go_wp2_with (fail)
    refine (HLV.out _ HB1.out).mono ?_
    rintro e w2 ⟨rfl, hw2⟩
    have HB2 : Hid (Below w.heap.size w w2) := Lib.hid (HB1.out.trans (hw2.mono HB1.out.size))
    clear hw2
    go_wp2
    go_ret
    exact ⟨rfl, HB2.out⟩
  have d1 : decide ((N : Int) > 90) = false := decide_eq_false (by omega)
  have d2 : ¬ (90 : Int) < (N : Int) := by omega
  have hN90 : N ≤ 90 := by omega
  clear hlarge
  go_wp2_with (fail)
  refine (HCL.out _ HB1.out hN90).mono ?_
  rintro e w2 ⟨vc, rfl, hown, hw2⟩
  have HB02 : Hid (Below w0.heap.size w0 w2) := Lib.hid (HB01.out.trans (hw2.mono HB01.out.size))
  have HOW2 : Hid (w2.ownsRow w0.heap.size 34 4 vc N (flat ocells ops)) := Lib.hid (own_base hown HB01.out.size)
  clear hown hw2
  go_wp2_with (fail)
  refine (HON.out 2 _ HB02.out).mono ?_
  rintro e w3 ⟨rfl, hw3⟩
  have HB03 : Hid (Below w0.heap.size w0 w3) := Lib.hid (HB02.out.trans (hw3.mono HB02.out.size))
  have HOW3 := Lib.hid (own_below HOW2.out hw3)
  clear hw3
  go_wp2_with (fail)
  refine (HON.out 1 _ HB03.out).mono ?_
  rintro e w4 ⟨rfl, hw4⟩
  have HB04 : Hid (Below w0.heap.size w0 w4) := Lib.hid (HB03.out.trans (hw4.mono HB03.out.size))
  have HOW4 := Lib.hid (own_below HOW3.out hw4)
  clear hw4
  go_wp2_with (fail)
  refine (HON.out 2 _ HB04.out).mono ?_
  rintro e w5 ⟨rfl, hw5⟩
  have HB05 : Hid (Below w0.heap.size w0 w5) := Lib.hid (HB04.out.trans (hw5.mono HB04.out.size))
  have HOW5 := Lib.hid (own_below HOW4.out hw5)
  clear hw5
  go_wp2_with (fail)
  refine (HON.out 3 _ HB05.out).mono ?_
  rintro e w6 ⟨rfl, hw6⟩
  have HB06 : Hid (Below w0.heap.size w0 w6) := Lib.hid (HB05.out.trans (hw6.mono HB05.out.size))
  have HOW6 := Lib.hid (own_below HOW5.out hw6)
  clear hw6
  go_wp2_with (fail)
  refine (HON.out 2 _ HB06.out).mono ?_
  rintro e w7 ⟨rfl, hw7⟩
  have HB07 : Hid (Below w0.heap.size w0 w7) := Lib.hid (HB06.out.trans (hw7.mono HB06.out.size))
  have HOW7 := Lib.hid (own_below HOW6.out hw7)
  clear hw7
  obtain ⟨B7, hB7⟩ : ∃ b, w7.heap.size = b := ⟨_, rfl⟩
  obtain ⟨Av, cv, rfl⟩ := own_slice HOW7.out
  have hacs : (#[.int .i64 2, .string LO, .string KE, .string VA, .int .i64 1, .string LO, .string KE, .string VA, .int .i64 2, .string LO, .string KE, .string VA, .int .i64 3, .string LO, .string KE, .string VA, .int .i64 2, .string LO, .string KE, .string VA] : Array Value).toList.length = 5 * 4 := rfl
  have haco : ∀ u ∈ (#[.int .i64 2, .string LO, .string KE, .string VA, .int .i64 1, .string LO, .string KE, .string VA, .int .i64 2, .string LO, .string KE, .string VA, .int .i64 3, .string LO, .string KE, .string VA, .int .i64 2, .string LO, .string KE, .string VA] : Array Value).toList, u.oneCell' = true := by
    intro u hu
    simp at hu
    rcases hu with rfl | rfl | rfl | rfl | rfl | rfl | rfl | rfl | rfl | rfl | rfl | rfl | rfl | rfl | rfl | rfl | rfl | rfl | rfl | rfl <;> rfl
  have HZ7 := Lib.hid (show w0.heap.size ≤ w7.heap.size from HB07.out.size)
  clear hB7
  go_wp2_with (at_builtin; refine wpList_append_own _ rfl (.tmp 24) (.tmp 35) 31 rfl w0.heap.size 34 i0 (.agg #[.int .i64 0, .string ⟨#[]⟩, .string ⟨#[]⟩, .string ⟨#[]⟩]) 4 56 Tryz.underlying31 hi0 hi1 hi2 hi3 rfl (by decide) (.slice Av N cv) N (flat ocells ops) rfl (HOW7.out.alloc _) ⟨w7.heap.size, 0, none⟩ 5 5 (#[.int .i64 2, .string LO, .string KE, .string VA, .int .i64 1, .string LO, .string KE, .string VA, .int .i64 2, .string LO, .string KE, .string VA, .int .i64 3, .string LO, .string KE, .string VA, .int .i64 2, .string LO, .string KE, .string VA] : Array Value).toList rfl hacs (arr_new _ _ _ _ rfl) haco (by unfold maxLen; omega) (by omega) (by have := HZ7.out; simp; omega) ?_; intro v8 w8 hown8 hgrow8 _)
  have HB08 : Hid (Below w0.heap.size w0 w8) := Lib.hid ((HB07.out.alloc HZ7.out _).grown hgrow8 (by have := HZ7.out; simp; omega) (fun g hg => (HOW7.out.lt g hg).1))
  have HB8 : Hid (Below w.heap.size w w8) := Lib.hid (HB0.out.trans (HB08.out.mono HB0.out.size))
  have HR8 : Hid (Rd w8 4 (flat ocells (ops ++ Story.fives loc key value)) (N + 5) v8) := Lib.hid (by
    have h1 := Rd.own hown8
    rw [flat_append, show flat ocells (Story.fives loc key value) = (#[.int .i64 2, .string LO, .string KE, .string VA, .int .i64 1, .string LO, .string KE, .string VA, .int .i64 2, .string LO, .string KE, .string VA, .int .i64 3, .string LO, .string KE, .string VA, .int .i64 2, .string LO, .string KE, .string VA] : Array Value).toList by
      have : ∀ k : Int, ocells ⟨k, loc, key, value⟩ = _ := HOC.out
      simp only [Story.fives, flat, List.flatMap_cons, List.flatMap_nil, HOC.out]
      rfl]
    exact h1)
  have HS8 : Hid (∀ o ∈ ops ++ Story.fives loc key value, o.key.length ≤ 140737488355328 ∧ o.value.length ≤ 140737488355328) := Lib.hid (by
    intro o ho
    rcases List.mem_append.1 ho with ho | ho
    · exact HSZ.out o ho
    · simp only [Story.fives, List.mem_cons, List.not_mem_nil, or_false] at ho
      rcases ho with rfl | rfl | rfl | rfl | rfl <;> exact ⟨HKL.out, HVL.out⟩)
  have hlen8 : (ops ++ Story.fives loc key value).length = N + 5 := by rw [List.length_append, HN.out]; rfl
  have HRC := Lib.hid (HRUN.out (ops ++ Story.fives loc key value) v8 w8 HB8.out (by rw [hlen8]; exact HR8.out) HS8.out)
  have HL8 := Lib.hid hlen8
  clear hown8 hgrow8 hacs haco hlen8
  go_wp2_with (fail)
  refine HRC.out.mono ?_
  rintro e w9 (⟨h, _⟩ | ⟨_, A, v, h1, h2, rfl, h3, h4, h5⟩)
  · rw [HL8.out] at h; omega
  rw [Story.runs_append] at h1
  have hrl := Story.runs_len ops (fun _ => none)
  rw [HN.out] at hrl
  have HB9 : Hid (Below w.heap.size w w9) := Lib.hid (HB8.out.trans (h5.mono HB8.out.size))
  have HB09 : Hid (Below w0.heap.size w0 w9) := Lib.hid (HB08.out.trans (h5.mono HB08.out.size))
  have HH1 := Lib.hid h1
  have HH3 := Lib.hid h3
  have HH4 := Lib.hid h4
  have HRL := Lib.hid hrl
  clear h1 h2 h3 h4 h5 hrl
  rcases Story.gets_law (Story.after (fun _ => none) ops) loc key value with ⟨e, he0, h⟩ | ⟨t, b, y, h⟩ | ⟨t, b, h⟩
  · have h1 := HH1.out
    rw [h] at h1
    obtain ⟨k0, k1, k2, k3, k4, q0, q1, q2, q3, q4, hAl⟩ := last5 h1 HRL.out
    have h3 := HH3.out
    obtain ⟨g, cap, ev⟩ : ∃ g cap, v = .slice (some ⟨g, 0, none⟩) (N + 5) cap := own_succ (k := N + 4) (by have := HH3.out; rw [hAl] at this; exact this)
    have ev2 : v = .slice (some ⟨g, 0, none⟩) A.length cap := by rw [hAl]; exact ev
    have c00a : w9.cell? ⟨g, N * 4, none⟩ = some (.int .i64 (e : Int)) := by have := ans_cell (k := N + 0) (j := 0) h3 ev2 q0 rfl; rw [show 0 + (N + 0) * 4 + 0 = N * 4 by omega] at this; exact this
    have c10a : w9.cell? ⟨g, N * 4 + 4, none⟩ = some (.int .i64 (e : Int)) := by have := ans_cell (k := N + 1) (j := 0) h3 ev2 q1 rfl; rw [show 0 + (N + 1) * 4 + 0 = N * 4 + 4 by omega] at this; exact this
    have c40a : w9.cell? ⟨g, N * 4 + 16, none⟩ = some (.int .i64 (e : Int)) := by have := ans_cell (k := N + 4) (j := 0) h3 ev2 q4 rfl; rw [show 0 + (N + 4) * 4 + 0 = N * 4 + 16 by omega] at this; exact this
    have HCAP : Hid (N + 5 ≤ cap ∧ cap ≤ 9223372036854775807) := Lib.hid (by
      obtain ⟨X, c', e1, h6, h7, _⟩ := Rd.own h3
      rw [ev2] at e1
      injection e1 with _ _ e1
      subst e1
      exact ⟨by omega, h7⟩)
    obtain ⟨hcap1, hcap2⟩ := HCAP.out
    have hal : ((A.length : Nat) : Int) = (N : Int) + 5 := by omega
    subst ev
    have HAL := Lib.hid hAl
    clear ev2 h3 h1 h q0 q1 q2 q3 q4 hAl
    have hE0 : ((e : Int) != 0) = true := by rw [bne, beq_no (by omega)]; rfl
    have hEE : ((e : Int) == (e : Int)) = true := by simp
    obtain ⟨E, hE⟩ : ∃ E : Int, (e : Int) = E := ⟨_, rfl⟩
    rw [hE] at c00a c10a c40a hE0 hEE
    clear hE he0
    clear HON HCL HV HSZ HRUN HOC HC0 HLV HS8 HRC HR8
    go_upto_region 9 with (fail)
    go_quiet (fail)
    go_wp2
    go_ret
    exact ⟨rfl, below_drewN HB9.out _⟩
  · have h1 := HH1.out
    rw [h] at h1
    obtain ⟨k0, k1, k2, k3, k4, q0, q1, q2, q3, q4, hAl⟩ := last5 h1 HRL.out
    have h3 := HH3.out
    obtain ⟨g, cap, ev⟩ : ∃ g cap, v = .slice (some ⟨g, 0, none⟩) (N + 5) cap := own_succ (k := N + 4) (by have := HH3.out; rw [hAl] at this; exact this)
    have ev2 : v = .slice (some ⟨g, 0, none⟩) A.length cap := by rw [hAl]; exact ev
    have c00a : w9.cell? ⟨g, N * 4, none⟩ = some (.int .i64 0) := by have := ans_cell (k := N + 0) (j := 0) h3 ev2 q0 rfl; rw [show 0 + (N + 0) * 4 + 0 = N * 4 by omega] at this; exact this
    have c10a : w9.cell? ⟨g, N * 4 + 4, none⟩ = some (.int .i64 2) := by have := ans_cell (k := N + 1) (j := 0) h3 ev2 q1 rfl; rw [show 0 + (N + 1) * 4 + 0 = N * 4 + 4 by omega] at this; exact this
    obtain ⟨X0, hX0⟩ : ∃ X, acells ⟨0, t, b, []⟩ k0 = X := ⟨_, rfl⟩
    have HX0 := Lib.hid hX0
    clear hX0
    obtain ⟨X2, hX2⟩ : ∃ X, acells ⟨0, t, b, []⟩ k2 = X := ⟨_, rfl⟩
    have HX2 := Lib.hid hX2
    clear hX2
    obtain ⟨X3, hX3⟩ : ∃ X, acells ⟨0, t, b, []⟩ k3 = X := ⟨_, rfl⟩
    have HX3 := Lib.hid hX3
    clear hX3
    have r0 : Hid (w9.rangeAt g (N * 4) X0.toList) := Lib.hid (fun j u hu => by have := ans_cell (k := N + 0) (j := j) h3 ev2 q0 (by first | exact hu | (rw [HX0.out]; exact hu)); rw [show 0 + (N + 0) * 4 + j = N * 4 + j by omega] at this; exact this)
    have r2 : Hid (w9.rangeAt g (N * 4 + 8) X2.toList) := Lib.hid (fun j u hu => by have := ans_cell (k := N + 2) (j := j) h3 ev2 q2 (by first | exact hu | (rw [HX2.out]; exact hu)); rw [show 0 + (N + 2) * 4 + j = N * 4 + 8 + j by omega] at this; exact this)
    have r3 : Hid (w9.rangeAt g (N * 4 + 12) X3.toList) := Lib.hid (fun j u hu => by have := ans_cell (k := N + 3) (j := j) h3 ev2 q3 (by first | exact hu | (rw [HX3.out]; exact hu)); rw [show 0 + (N + 3) * 4 + j = N * 4 + 12 + j by omega] at this; exact this)
    have S20 : Hid (∀ w1, Below w9.heap.size w9 w1 → Calls Tryz.prog 27 #[.agg X2, .agg X0] w1 fun e w' => e = .returned (.bool true) ∧ Below w1.heap.size w1 w') := Lib.hid (fun w1 hb => by
      have := samest_any ⟨0, t, b, []⟩ ⟨0, t, b, []⟩ k2 k0 w1 ((Rd.own (HH4.out _ (List.mem_of_getElem? q2))).below hb) ((Rd.own (HH4.out _ (List.mem_of_getElem? q0))).below hb)
      rw [HX2.out, HX0.out, decide_eq_true rfl] at this
      exact this)
    have S30 : Hid (∀ w1, Below w9.heap.size w9 w1 → Calls Tryz.prog 27 #[.agg X3, .agg X0] w1 fun e w' => e = .returned (.bool true) ∧ Below w1.heap.size w1 w') := Lib.hid (fun w1 hb => by
      have := samest_any ⟨0, t, b, []⟩ ⟨0, t, b, []⟩ k3 k0 w1 ((Rd.own (HH4.out _ (List.mem_of_getElem? q3))).below hb) ((Rd.own (HH4.out _ (List.mem_of_getElem? q0))).below hb)
      rw [HX3.out, HX0.out, decide_eq_true rfl] at this
      exact this)
    have HCAP : Hid (N + 5 ≤ cap ∧ cap ≤ 9223372036854775807) := Lib.hid (by
      obtain ⟨X, c', e1, h6, h7, _⟩ := Rd.own h3
      rw [ev2] at e1
      injection e1 with _ _ e1
      subst e1
      exact ⟨by omega, h7⟩)
    obtain ⟨hcap1, hcap2⟩ := HCAP.out
    have hal : ((A.length : Nat) : Int) = (N : Int) + 5 := by omega
    subst ev
    have HAL := Lib.hid hAl
    clear ev2 h3 h1 h q0 q1 q2 q3 q4 hAl
    have hi_0 : Hid ((Tryz.prog.info? 40).map (·.size) = some X0.toList.length) := Lib.hid (by rw [← HX0.out]; exact info_ans)
    have hi_2 : Hid ((Tryz.prog.info? 40).map (·.size) = some X2.toList.length) := Lib.hid (by rw [← HX2.out]; exact info_ans)
    have hi_3 : Hid ((Tryz.prog.info? 40).map (·.size) = some X3.toList.length) := Lib.hid (by rw [← HX3.out]; exact info_ans)
    have HKP : Hid (∀ w', Below w9.heap.size w9 w' → Below w9.heap.size w9 w' ∧ w'.cell? ⟨g, N * 4 + 4, none⟩ = some (.int .i64 2) ∧ w'.rangeAt g (N * 4 + 8) X2.toList ∧ w'.rangeAt g (N * 4) X0.toList ∧ w'.rangeAt g (N * 4 + 12) X3.toList) := Lib.hid (fun w' hb => ⟨hb, (hb.cell (p := ⟨g, N * 4 + 4, none⟩) (block_lt_of_cell c10a)).trans c10a, rng_below hb (block_lt_of_cell c00a) r2.out, rng_below hb (block_lt_of_cell c00a) r0.out, rng_below hb (block_lt_of_cell c00a) r3.out⟩)
    clear HON HCL HV HSZ HRUN HOC HC0 HLV HS8 HRC HR8 HH1 HH3 HH4 HZ0 HB0 HB1 HB01 HB02
    go_upto_region 11 with (fail)
    refine wp_region_held_drew (S := fun w' => Below w9.heap.size w9 w' ∧ w'.cell? ⟨g, N * 4 + 4, none⟩ = some (.int .i64 2) ∧ w'.rangeAt g (N * 4 + 8) X2.toList ∧ w'.rangeAt g (N * 4) X0.toList ∧ w'.rangeAt g (N * 4 + 12) X3.toList) (by kernel_rfl) (HKP.out _ (Below.refl _ w9).drew) (fun hHeld => ?_)
    refine wpAnyH_take (i := 0) (v := ?_) rfl (by kernel_rfl) (by kernel_rfl) (by kernel_rfl) (fun _ _ _ h => h) (Or.inl ⟨by kernel_rfl, ?_⟩) (by assumption) ?_
    rotate_left
    · intro w hSw
      (try dsimp only at hSw)
      go_simp
      try (with_reducible rfl)
    (try simp only [Act.put, List.getElem_toArray, List.getElem_cons_zero, List.setIfInBounds_toArray, List.set_cons_zero, List.set_cons_succ])
    refine wpAnyH_take (i := 1) (v := ?_) rfl (by kernel_rfl) (by kernel_rfl) (by kernel_rfl) (fun _ _ _ h => h) (Or.inl ⟨by kernel_rfl, ?_⟩) (by assumption) ?_
    rotate_left
    · intro w hSw
      (try dsimp only at hSw)
      go_simp
      try (with_reducible rfl)
    (try simp only [Act.put, List.getElem_toArray, List.getElem_cons_succ, List.getElem_cons_zero, List.setIfInBounds_toArray, List.set_cons_zero, List.set_cons_succ])
    refine wpAnyH_take (i := 2) (v := ?_) rfl (by kernel_rfl) (by kernel_rfl) (by kernel_rfl) (fun _ _ _ h => h) (Or.inl ⟨by kernel_rfl, ?_⟩) (by assumption) ?_
    rotate_left
    · intro w hSw
      (try dsimp only at hSw)
      go_simp
      try (with_reducible rfl)
    (try simp only [Act.put, List.getElem_toArray, List.getElem_cons_succ, List.getElem_cons_zero, List.setIfInBounds_toArray, List.set_cons_zero, List.set_cons_succ])
    refine wpAnyH_take (i := 3) (v := ?_) rfl (by kernel_rfl) (by kernel_rfl) (by kernel_rfl) (fun _ _ _ h => h) (Or.inl ⟨by kernel_rfl, ?_⟩) (by assumption) ?_
    rotate_left
    · intro w hSw
      (try dsimp only at hSw)
      go_simp
      try (with_reducible rfl)
    (try simp only [Act.put, List.getElem_toArray, List.getElem_cons_succ, List.getElem_cons_zero, List.setIfInBounds_toArray, List.set_cons_zero, List.set_cons_succ])
    refine wpAnyH_take (i := 4) (v := ?_) rfl (by kernel_rfl) (by kernel_rfl) (by kernel_rfl) (fun _ _ _ h => h) (Or.inl ⟨by kernel_rfl, ?_⟩) (by assumption) ?_
    rotate_left
    · intro w hSw
      (try dsimp only at hSw)
      go_simp
      try (with_reducible rfl)
    (try simp only [Act.put, List.getElem_toArray, List.getElem_cons_succ, List.getElem_cons_zero, List.setIfInBounds_toArray, List.set_cons_zero, List.set_cons_succ])
    refine wpAnyH_take (i := 5) (v := ?_) rfl (by kernel_rfl) (by kernel_rfl) (by kernel_rfl) (fun _ _ _ h => h) (Or.inl ⟨by kernel_rfl, ?_⟩) (by assumption) ?_
    rotate_left
    · intro w hSw
      (try dsimp only at hSw)
      go_simp
      try (with_reducible rfl)
    (try simp only [Act.put, List.getElem_toArray, List.getElem_cons_succ, List.getElem_cons_zero, List.setIfInBounds_toArray, List.set_cons_zero, List.set_cons_succ])
    refine wpAnyH_take (i := 6) (v := ?_) rfl (by kernel_rfl) (by kernel_rfl) (by kernel_rfl) (fun _ _ _ h => h) (Or.inl ⟨by kernel_rfl, ?_⟩) (by assumption) ?_
    rotate_left
    · intro w hSw
      (try dsimp only at hSw)
      go_simp
      try (with_reducible rfl)
    (try simp only [Act.put, List.getElem_toArray, List.getElem_cons_succ, List.getElem_cons_zero, List.setIfInBounds_toArray, List.set_cons_zero, List.set_cons_succ])
    refine wpAnyH_take (i := 7) (v := ?_) rfl (by kernel_rfl) (by kernel_rfl) (by kernel_rfl) (fun _ _ _ h => h) (Or.inl ⟨by kernel_rfl, ?_⟩) (by assumption) ?_
    rotate_left
    · intro w hSw
      (try dsimp only at hSw)
      go_simp
      try (with_reducible rfl)
    (try simp only [Act.put, List.getElem_toArray, List.getElem_cons_succ, List.getElem_cons_zero, List.setIfInBounds_toArray, List.set_cons_zero, List.set_cons_succ])
    refine wpAnyH_take (i := 8) (v := _) rfl (by kernel_rfl) (by kernel_rfl) (by kernel_rfl) (fun _ _ _ h => h) (yieldsIf_load_mid (by kernel_rfl) 40 (.tmp 91) rfl (g) (N * 4 + 8) rfl (X2.toList) _ (fun _ h => h.2.2.1) Tryz.underlying40 rfl hi_2.out) (by assumption) ?_
    (try simp only [Act.put, List.getElem_toArray, List.getElem_cons_succ, List.getElem_cons_zero, List.setIfInBounds_toArray, List.set_cons_zero, List.set_cons_succ])
    refine wpAnyH_take (i := 9) (v := ?_) rfl (by kernel_rfl) (by kernel_rfl) (by kernel_rfl) (fun _ _ _ h => h) (Or.inl ⟨by kernel_rfl, ?_⟩) (by assumption) ?_
    rotate_left
    · intro w hSw
      (try dsimp only at hSw)
      go_simp
      try (with_reducible rfl)
    (try simp only [Act.put, List.getElem_toArray, List.getElem_cons_succ, List.getElem_cons_zero, List.setIfInBounds_toArray, List.set_cons_zero, List.set_cons_succ])
    refine wpAnyH_take (i := 10) (v := ?_) rfl (by kernel_rfl) (by kernel_rfl) (by kernel_rfl) (fun _ _ _ h => h) (Or.inl ⟨by kernel_rfl, ?_⟩) (by assumption) ?_
    rotate_left
    · intro w hSw
      (try dsimp only at hSw)
      go_simp
      try (with_reducible rfl)
    (try simp only [Act.put, List.getElem_toArray, List.getElem_cons_succ, List.getElem_cons_zero, List.setIfInBounds_toArray, List.set_cons_zero, List.set_cons_succ])
    refine wpAnyH_take (i := 11) (v := _) rfl (by kernel_rfl) (by kernel_rfl) (by kernel_rfl) (fun _ _ _ h => h) (yieldsIf_load_mid (by kernel_rfl) 40 (.tmp 94) rfl (g) (N * 4) rfl (X0.toList) _ (fun _ h => h.2.2.2.1) Tryz.underlying40 rfl hi_0.out) (by assumption) ?_
    (try simp only [Act.put, List.getElem_toArray, List.getElem_cons_succ, List.getElem_cons_zero, List.setIfInBounds_toArray, List.set_cons_zero, List.set_cons_succ])
    refine wpAnyH_ready (rs := [12]) (by kernel_rfl) (by simp) ?_
    refine AllReadyH.cons rfl (fun K hK => ?_) AllReadyH.nil
    go_simp
    refine (S20.out _ hHeld.1).mono ?_
    rintro e w10 ⟨rfl, hb10⟩
    go_wp2_with (fail)
    refine hK.out _ _ ?_ (fun hHeld => ?_)
    · exact HKP.out _ (hHeld.1.trans (hb10.mono hHeld.1.size))
    clear hK K
    (try simp only [Act.put, List.getElem_toArray, List.getElem_cons_succ, List.getElem_cons_zero, List.setIfInBounds_toArray, List.set_cons_zero, List.set_cons_succ])
    refine wpAnyH_take (i := 13) (v := ?_) rfl (by kernel_rfl) (by kernel_rfl) (by kernel_rfl) (fun _ _ _ h => h) (Or.inl ⟨by kernel_rfl, ?_⟩) (by assumption) ?_
    rotate_left
    · intro w hSw
      (try dsimp only at hSw)
      go_simp
      try (with_reducible rfl)
    (try simp only [Act.put, List.getElem_toArray, List.getElem_cons_succ, List.getElem_cons_zero, List.setIfInBounds_toArray, List.set_cons_zero, List.set_cons_succ])
    refine wpAnyH_take (i := 14) (v := ?_) rfl (by kernel_rfl) (by kernel_rfl) (by kernel_rfl) (fun _ _ _ h => h) (Or.inl ⟨by kernel_rfl, ?_⟩) (by assumption) ?_
    rotate_left
    · intro w hSw
      (try dsimp only at hSw)
      go_simp
      try (with_reducible rfl)
    (try simp only [Act.put, List.getElem_toArray, List.getElem_cons_succ, List.getElem_cons_zero, List.setIfInBounds_toArray, List.set_cons_zero, List.set_cons_succ])
    refine wpAnyH_take (i := 15) (v := ?_) rfl (by kernel_rfl) (by kernel_rfl) (by kernel_rfl) (fun _ _ _ h => h) (Or.inl ⟨by kernel_rfl, ?_⟩) (by assumption) ?_
    rotate_left
    · intro w hSw
      (try dsimp only at hSw)
      go_simp
      try (with_reducible rfl)
    (try simp only [Act.put, List.getElem_toArray, List.getElem_cons_succ, List.getElem_cons_zero, List.setIfInBounds_toArray, List.set_cons_zero, List.set_cons_succ])
    refine wpAnyH_take (i := 16) (v := ?_) rfl (by kernel_rfl) (by kernel_rfl) (by kernel_rfl) (fun _ _ _ h => h) (Or.inl ⟨by kernel_rfl, ?_⟩) (by assumption) ?_
    rotate_left
    · intro w hSw
      (try dsimp only at hSw)
      go_simp
      try (with_reducible rfl)
    (try simp only [Act.put, List.getElem_toArray, List.getElem_cons_succ, List.getElem_cons_zero, List.setIfInBounds_toArray, List.set_cons_zero, List.set_cons_succ])
    refine wpAnyH_take (i := 17) (v := _) rfl (by kernel_rfl) (by kernel_rfl) (by kernel_rfl) (fun _ _ _ h => h) (yieldsIf_load_mid (by kernel_rfl) 40 (.tmp 100) rfl (g) (N * 4 + 12) rfl (X3.toList) _ (fun _ h => h.2.2.2.2) Tryz.underlying40 rfl hi_3.out) (by assumption) ?_
    (try simp only [Act.put, List.getElem_toArray, List.getElem_cons_succ, List.getElem_cons_zero, List.setIfInBounds_toArray, List.set_cons_zero, List.set_cons_succ])
    refine wpAnyH_take (i := 18) (v := ?_) rfl (by kernel_rfl) (by kernel_rfl) (by kernel_rfl) (fun _ _ _ h => h) (Or.inl ⟨by kernel_rfl, ?_⟩) (by assumption) ?_
    rotate_left
    · intro w hSw
      (try dsimp only at hSw)
      go_simp
      try (with_reducible rfl)
    (try simp only [Act.put, List.getElem_toArray, List.getElem_cons_succ, List.getElem_cons_zero, List.setIfInBounds_toArray, List.set_cons_zero, List.set_cons_succ])
    refine wpAnyH_take (i := 19) (v := ?_) rfl (by kernel_rfl) (by kernel_rfl) (by kernel_rfl) (fun _ _ _ h => h) (Or.inl ⟨by kernel_rfl, ?_⟩) (by assumption) ?_
    rotate_left
    · intro w hSw
      (try dsimp only at hSw)
      go_simp
      try (with_reducible rfl)
    (try simp only [Act.put, List.getElem_toArray, List.getElem_cons_succ, List.getElem_cons_zero, List.setIfInBounds_toArray, List.set_cons_zero, List.set_cons_succ])
    refine wpAnyH_take (i := 20) (v := _) rfl (by kernel_rfl) (by kernel_rfl) (by kernel_rfl) (fun _ _ _ h => h) (yieldsIf_load_mid (by kernel_rfl) 40 (.tmp 103) rfl (g) (N * 4) rfl (X0.toList) _ (fun _ h => h.2.2.2.1) Tryz.underlying40 rfl hi_0.out) (by assumption) ?_
    (try simp only [Act.put, List.getElem_toArray, List.getElem_cons_succ, List.getElem_cons_zero, List.setIfInBounds_toArray, List.set_cons_zero, List.set_cons_succ])
    refine wpAnyH_ready (rs := [21]) (by kernel_rfl) (by simp) ?_
    refine AllReadyH.cons rfl (fun K hK => ?_) AllReadyH.nil
    go_simp
    refine (S30.out _ hHeld.1).mono ?_
    rintro e w10 ⟨rfl, hb10⟩
    go_wp2_with (fail)
    refine hK.out _ _ ?_ (fun hHeld => ?_)
    · exact HKP.out _ (hHeld.1.trans (hb10.mono hHeld.1.size))
    clear hK K
    (try simp only [Act.put, List.getElem_toArray, List.getElem_cons_succ, List.getElem_cons_zero, List.setIfInBounds_toArray, List.set_cons_zero, List.set_cons_succ])
    refine wpAnyH_take (i := 22) (v := ?_) rfl (by kernel_rfl) (by kernel_rfl) (by kernel_rfl) (fun _ _ _ h => h) (Or.inl ⟨by kernel_rfl, ?_⟩) (by assumption) ?_
    rotate_left
    · intro w hSw
      (try dsimp only at hSw)
      go_simp
      try (with_reducible rfl)
    (try simp only [Act.put, List.getElem_toArray, List.getElem_cons_succ, List.getElem_cons_zero, List.setIfInBounds_toArray, List.set_cons_zero, List.set_cons_succ])
    refine wpAnyH_take (i := 23) (v := ?_) rfl (by kernel_rfl) (by kernel_rfl) (by kernel_rfl) (fun _ _ _ h => h) (Or.inl ⟨by kernel_rfl, ?_⟩) (by assumption) ?_
    rotate_left
    · intro w hSw
      (try dsimp only at hSw)
      go_simp
      try (with_reducible rfl)
    (try simp only [Act.put, List.getElem_toArray, List.getElem_cons_succ, List.getElem_cons_zero, List.setIfInBounds_toArray, List.set_cons_zero, List.set_cons_succ])
    refine wpAnyH_done (by kernel_rfl) ?_ _
    go_wp2
    go_ret
    exact ⟨rfl, HB9.out.trans (hHeld.1.mono HB9.out.size)⟩
  · have h1 := HH1.out
    rw [h] at h1
    obtain ⟨k0, k1, k2, k3, k4, q0, q1, q2, q3, q4, hAl⟩ := last5 h1 HRL.out
    have h3 := HH3.out
    obtain ⟨g, cap, ev⟩ : ∃ g cap, v = .slice (some ⟨g, 0, none⟩) (N + 5) cap := own_succ (k := N + 4) (by have := HH3.out; rw [hAl] at this; exact this)
    have ev2 : v = .slice (some ⟨g, 0, none⟩) A.length cap := by rw [hAl]; exact ev
    have c00a : w9.cell? ⟨g, N * 4, none⟩ = some (.int .i64 0) := by have := ans_cell (k := N + 0) (j := 0) h3 ev2 q0 rfl; rw [show 0 + (N + 0) * 4 + 0 = N * 4 by omega] at this; exact this
    have c10a : w9.cell? ⟨g, N * 4 + 4, none⟩ = some (.int .i64 0) := by have := ans_cell (k := N + 1) (j := 0) h3 ev2 q1 rfl; rw [show 0 + (N + 1) * 4 + 0 = N * 4 + 4 by omega] at this; exact this
    have c22a : w9.cell? ⟨g, N * 4 + 8 + 2, none⟩ = some (.bool true) := by have := ans_cell (k := N + 2) (j := 2) h3 ev2 q2 rfl; rw [show 0 + (N + 2) * 4 + 2 = N * 4 + 8 + 2 by omega] at this; exact this
    have c22b : w9.cell? ⟨g, N * 4 + 10, none⟩ = some (.bool true) := by have := ans_cell (k := N + 2) (j := 2) h3 ev2 q2 rfl; rw [show 0 + (N + 2) * 4 + 2 = N * 4 + 10 by omega] at this; exact this
    have c32a : w9.cell? ⟨g, N * 4 + 12 + 2, none⟩ = some (.bool true) := by have := ans_cell (k := N + 3) (j := 2) h3 ev2 q3 rfl; rw [show 0 + (N + 3) * 4 + 2 = N * 4 + 12 + 2 by omega] at this; exact this
    have c32b : w9.cell? ⟨g, N * 4 + 14, none⟩ = some (.bool true) := by have := ans_cell (k := N + 3) (j := 2) h3 ev2 q3 rfl; rw [show 0 + (N + 3) * 4 + 2 = N * 4 + 14 by omega] at this; exact this
    have c42a : w9.cell? ⟨g, N * 4 + 16 + 2, none⟩ = some (.bool false) := by have := ans_cell (k := N + 4) (j := 2) h3 ev2 q4 rfl; rw [show 0 + (N + 4) * 4 + 2 = N * 4 + 16 + 2 by omega] at this; exact this
    have c42b : w9.cell? ⟨g, N * 4 + 18, none⟩ = some (.bool false) := by have := ans_cell (k := N + 4) (j := 2) h3 ev2 q4 rfl; rw [show 0 + (N + 4) * 4 + 2 = N * 4 + 18 by omega] at this; exact this
    have c41a : w9.cell? ⟨g, N * 4 + 16 + 1, none⟩ = some (.string ⟨#[]⟩) := by have := ans_cell (k := N + 4) (j := 1) h3 ev2 q4 rfl; rw [show 0 + (N + 4) * 4 + 1 = N * 4 + 16 + 1 by omega] at this; exact this
    have c41b : w9.cell? ⟨g, N * 4 + 17, none⟩ = some (.string ⟨#[]⟩) := by have := ans_cell (k := N + 4) (j := 1) h3 ev2 q4 rfl; rw [show 0 + (N + 4) * 4 + 1 = N * 4 + 17 by omega] at this; exact this
    have c21a : w9.cell? ⟨g, N * 4 + 8 + 1, none⟩ = some (.string VA) := by have := ans_cell (k := N + 2) (j := 1) h3 ev2 q2 (show _ = some (.string VA) by rw [← HVA.out]; rfl); rw [show 0 + (N + 2) * 4 + 1 = N * 4 + 8 + 1 by omega] at this; exact this
    have c21b : w9.cell? ⟨g, N * 4 + 9, none⟩ = some (.string VA) := by have := ans_cell (k := N + 2) (j := 1) h3 ev2 q2 (show _ = some (.string VA) by rw [← HVA.out]; rfl); rw [show 0 + (N + 2) * 4 + 1 = N * 4 + 9 by omega] at this; exact this
    have c31a : w9.cell? ⟨g, N * 4 + 12 + 1, none⟩ = some (.string VA) := by have := ans_cell (k := N + 3) (j := 1) h3 ev2 q3 (show _ = some (.string VA) by rw [← HVA.out]; rfl); rw [show 0 + (N + 3) * 4 + 1 = N * 4 + 12 + 1 by omega] at this; exact this
    have c31b : w9.cell? ⟨g, N * 4 + 13, none⟩ = some (.string VA) := by have := ans_cell (k := N + 3) (j := 1) h3 ev2 q3 (show _ = some (.string VA) by rw [← HVA.out]; rfl); rw [show 0 + (N + 3) * 4 + 1 = N * 4 + 13 by omega] at this; exact this
    obtain ⟨X0, hX0⟩ : ∃ X, acells ⟨0, t, b, []⟩ k0 = X := ⟨_, rfl⟩
    have HX0 := Lib.hid hX0
    clear hX0
    obtain ⟨X1, hX1⟩ : ∃ X, acells ⟨0, t, b, []⟩ k1 = X := ⟨_, rfl⟩
    have HX1 := Lib.hid hX1
    clear hX1
    have r0 : Hid (w9.rangeAt g (N * 4) X0.toList) := Lib.hid (fun j u hu => by have := ans_cell (k := N + 0) (j := j) h3 ev2 q0 (by first | exact hu | (rw [HX0.out]; exact hu)); rw [show 0 + (N + 0) * 4 + j = N * 4 + j by omega] at this; exact this)
    have r1 : Hid (w9.rangeAt g (N * 4 + 4) X1.toList) := Lib.hid (fun j u hu => by have := ans_cell (k := N + 1) (j := j) h3 ev2 q1 (by first | exact hu | (rw [HX1.out]; exact hu)); rw [show 0 + (N + 1) * 4 + j = N * 4 + 4 + j by omega] at this; exact this)
    have S10 : Hid (∀ w1, Below w9.heap.size w9 w1 → Calls Tryz.prog 27 #[.agg X1, .agg X0] w1 fun e w' => e = .returned (.bool true) ∧ Below w1.heap.size w1 w') := Lib.hid (fun w1 hb => by
      have := samest_any ⟨0, t, b, []⟩ ⟨0, t, b, []⟩ k1 k0 w1 ((Rd.own (HH4.out _ (List.mem_of_getElem? q1))).below hb) ((Rd.own (HH4.out _ (List.mem_of_getElem? q0))).below hb)
      rw [HX1.out, HX0.out, decide_eq_true rfl] at this
      exact this)
    have HCAP : Hid (N + 5 ≤ cap ∧ cap ≤ 9223372036854775807) := Lib.hid (by
      obtain ⟨X, c', e1, h6, h7, _⟩ := Rd.own h3
      rw [ev2] at e1
      injection e1 with _ _ e1
      subst e1
      exact ⟨by omega, h7⟩)
    obtain ⟨hcap1, hcap2⟩ := HCAP.out
    have hal : ((A.length : Nat) : Int) = (N : Int) + 5 := by omega
    subst ev
    have HAL := Lib.hid hAl
    clear ev2 h3 h1 h q0 q1 q2 q3 q4 hAl
    have hi_0 : Hid ((Tryz.prog.info? 40).map (·.size) = some X0.toList.length) := Lib.hid (by rw [← HX0.out]; exact info_ans)
    have hi_1 : Hid ((Tryz.prog.info? 40).map (·.size) = some X1.toList.length) := Lib.hid (by rw [← HX1.out]; exact info_ans)
    have cva : w9.cell? ⟨w.heap.size + 1 + 1, 0, none⟩ = some (.string VA) := by
      have hb : Below w0.heap.size w0 w9 := HB09.out
      rw [hb.cell (p := ⟨w.heap.size + 1 + 1, 0, none⟩) (by simp only; have := HZ0.out; omega)]
      exact HC0.out.2.2
    have vv1 : (VA.toList == VA.toList) = true := by simp
    have vv2 : decide (VA.toList = VA.toList) = true := by simp
    have HKP : Hid (∀ w', Below w9.heap.size w9 w' → Below w9.heap.size w9 w' ∧ w'.rangeAt g (N * 4 + 4) X1.toList ∧ w'.rangeAt g (N * 4) X0.toList ∧ w'.cell? ⟨g, N * 4 + 8 + 2, none⟩ = some (.bool true) ∧ w'.cell? ⟨g, N * 4 + 8 + 1, none⟩ = some (.string VA) ∧ w'.cell? ⟨g, N * 4 + 12 + 2, none⟩ = some (.bool true) ∧ w'.cell? ⟨g, N * 4 + 12 + 1, none⟩ = some (.string VA) ∧ w'.cell? ⟨g, N * 4 + 16 + 2, none⟩ = some (.bool false) ∧ w'.cell? ⟨g, N * 4 + 16 + 1, none⟩ = some (.string ⟨#[]⟩) ∧ w'.cell? ⟨w.heap.size + 1 + 1, 0, none⟩ = some (.string VA) ∧ w'.cell? ⟨g, N * 4 + 4, none⟩ = some (.int .i64 0)) := Lib.hid (fun w' hb => ⟨hb, rng_below hb (block_lt_of_cell c00a) r1.out, rng_below hb (block_lt_of_cell c00a) r0.out, (hb.cell (p := ⟨g, N * 4 + 8 + 2, none⟩) (block_lt_of_cell c22a)).trans c22a, (hb.cell (p := ⟨g, N * 4 + 8 + 1, none⟩) (block_lt_of_cell c21a)).trans c21a, (hb.cell (p := ⟨g, N * 4 + 12 + 2, none⟩) (block_lt_of_cell c32a)).trans c32a, (hb.cell (p := ⟨g, N * 4 + 12 + 1, none⟩) (block_lt_of_cell c31a)).trans c31a, (hb.cell (p := ⟨g, N * 4 + 16 + 2, none⟩) (block_lt_of_cell c42a)).trans c42a, (hb.cell (p := ⟨g, N * 4 + 16 + 1, none⟩) (block_lt_of_cell c41a)).trans c41a, (hb.cell (p := ⟨w.heap.size + 1 + 1, 0, none⟩) (block_lt_of_cell cva)).trans cva, (hb.cell (p := ⟨g, N * 4 + 4, none⟩) (block_lt_of_cell c10a)).trans c10a⟩)
    clear HON HCL HV HSZ HRUN HOC HC0 HLV HS8 HRC HR8 HH1 HH3 HH4 HZ0 HB0 HB1 HB01 HB02
    go_upto_region 12 with (fail)
    refine wp_region_held_drew (S := fun w' => Below w9.heap.size w9 w' ∧ w'.rangeAt g (N * 4 + 4) X1.toList ∧ w'.rangeAt g (N * 4) X0.toList ∧ w'.cell? ⟨g, N * 4 + 8 + 2, none⟩ = some (.bool true) ∧ w'.cell? ⟨g, N * 4 + 8 + 1, none⟩ = some (.string VA) ∧ w'.cell? ⟨g, N * 4 + 12 + 2, none⟩ = some (.bool true) ∧ w'.cell? ⟨g, N * 4 + 12 + 1, none⟩ = some (.string VA) ∧ w'.cell? ⟨g, N * 4 + 16 + 2, none⟩ = some (.bool false) ∧ w'.cell? ⟨g, N * 4 + 16 + 1, none⟩ = some (.string ⟨#[]⟩) ∧ w'.cell? ⟨w.heap.size + 1 + 1, 0, none⟩ = some (.string VA) ∧ w'.cell? ⟨g, N * 4 + 4, none⟩ = some (.int .i64 0)) (by kernel_rfl) (HKP.out _ (Below.refl _ w9).drew) (fun hHeld => ?_)
    refine wpAnyH_take (i := 0) (v := ?_) rfl (by kernel_rfl) (by kernel_rfl) (by kernel_rfl) (fun _ _ _ h => h) (Or.inl ⟨by kernel_rfl, ?_⟩) (by assumption) ?_
    rotate_left
    · intro w hSw
      (try dsimp only at hSw)
      go_simp
      try (with_reducible rfl)
    (try simp only [Act.put, List.getElem_toArray, List.getElem_cons_zero, List.setIfInBounds_toArray, List.set_cons_zero, List.set_cons_succ])
    refine wpAnyH_take (i := 1) (v := ?_) rfl (by kernel_rfl) (by kernel_rfl) (by kernel_rfl) (fun _ _ _ h => h) (Or.inl ⟨by kernel_rfl, ?_⟩) (by assumption) ?_
    rotate_left
    · intro w hSw
      (try dsimp only at hSw)
      go_simp
      try (with_reducible rfl)
    (try simp only [Act.put, List.getElem_toArray, List.getElem_cons_succ, List.getElem_cons_zero, List.setIfInBounds_toArray, List.set_cons_zero, List.set_cons_succ])
    refine wpAnyH_take (i := 2) (v := _) rfl (by kernel_rfl) (by kernel_rfl) (by kernel_rfl) (fun _ _ _ h => h) (yieldsIf_load_mid (by kernel_rfl) 40 (.tmp 108) rfl (g) (N * 4 + 4) rfl (X1.toList) _ (fun _ h => h.2.1) Tryz.underlying40 rfl hi_1.out) (by assumption) ?_
    (try simp only [Act.put, List.getElem_toArray, List.getElem_cons_succ, List.getElem_cons_zero, List.setIfInBounds_toArray, List.set_cons_zero, List.set_cons_succ])
    refine wpAnyH_take (i := 3) (v := ?_) rfl (by kernel_rfl) (by kernel_rfl) (by kernel_rfl) (fun _ _ _ h => h) (Or.inl ⟨by kernel_rfl, ?_⟩) (by assumption) ?_
    rotate_left
    · intro w hSw
      (try dsimp only at hSw)
      go_simp
      try (with_reducible rfl)
    (try simp only [Act.put, List.getElem_toArray, List.getElem_cons_succ, List.getElem_cons_zero, List.setIfInBounds_toArray, List.set_cons_zero, List.set_cons_succ])
    refine wpAnyH_take (i := 4) (v := ?_) rfl (by kernel_rfl) (by kernel_rfl) (by kernel_rfl) (fun _ _ _ h => h) (Or.inl ⟨by kernel_rfl, ?_⟩) (by assumption) ?_
    rotate_left
    · intro w hSw
      (try dsimp only at hSw)
      go_simp
      try (with_reducible rfl)
    (try simp only [Act.put, List.getElem_toArray, List.getElem_cons_succ, List.getElem_cons_zero, List.setIfInBounds_toArray, List.set_cons_zero, List.set_cons_succ])
    refine wpAnyH_take (i := 5) (v := _) rfl (by kernel_rfl) (by kernel_rfl) (by kernel_rfl) (fun _ _ _ h => h) (yieldsIf_load_mid (by kernel_rfl) 40 (.tmp 111) rfl (g) (N * 4) rfl (X0.toList) _ (fun _ h => h.2.2.1) Tryz.underlying40 rfl hi_0.out) (by assumption) ?_
    (try simp only [Act.put, List.getElem_toArray, List.getElem_cons_succ, List.getElem_cons_zero, List.setIfInBounds_toArray, List.set_cons_zero, List.set_cons_succ])
    refine wpAnyH_ready (rs := [6]) (by kernel_rfl) (by simp) ?_
    refine AllReadyH.cons rfl (fun K hK => ?_) AllReadyH.nil
    go_simp
    refine (S10.out _ hHeld.1).mono ?_
    rintro e w10 ⟨rfl, hb10⟩
    go_wp2_with (fail)
    refine hK.out _ _ ?_ (fun hHeld => ?_)
    · exact HKP.out _ (hHeld.1.trans (hb10.mono hHeld.1.size))
    clear hK K
    (try simp only [Act.put, List.getElem_toArray, List.getElem_cons_succ, List.getElem_cons_zero, List.setIfInBounds_toArray, List.set_cons_zero, List.set_cons_succ])
    refine wpAnyH_take (i := 7) (v := ?_) rfl (by kernel_rfl) (by kernel_rfl) (by kernel_rfl) (fun _ _ _ h => h) (Or.inl ⟨by kernel_rfl, ?_⟩) (by assumption) ?_
    rotate_left
    · intro w hSw
      (try dsimp only at hSw)
      go_simp
      try (with_reducible rfl)
    (try simp only [Act.put, List.getElem_toArray, List.getElem_cons_succ, List.getElem_cons_zero, List.setIfInBounds_toArray, List.set_cons_zero, List.set_cons_succ])
    refine wpAnyH_take (i := 8) (v := ?_) rfl (by kernel_rfl) (by kernel_rfl) (by kernel_rfl) (fun _ _ _ h => h) (Or.inl ⟨by kernel_rfl, ?_⟩) (by assumption) ?_
    rotate_left
    · intro w hSw
      (try dsimp only at hSw)
      go_simp
      try (with_reducible rfl)
    (try simp only [Act.put, List.getElem_toArray, List.getElem_cons_succ, List.getElem_cons_zero, List.setIfInBounds_toArray, List.set_cons_zero, List.set_cons_succ])
    refine wpAnyH_take (i := 9) (v := ?_) rfl (by kernel_rfl) (by kernel_rfl) (by kernel_rfl) (fun _ _ _ h => h) (Or.inl ⟨by kernel_rfl, ?_⟩) (by assumption) ?_
    rotate_left
    · intro w hSw
      (try dsimp only at hSw)
      go_simp
      try (with_reducible rfl)
    (try simp only [Act.put, List.getElem_toArray, List.getElem_cons_succ, List.getElem_cons_zero, List.setIfInBounds_toArray, List.set_cons_zero, List.set_cons_succ])
    refine wpAnyH_take (i := 10) (v := ?_) rfl (by kernel_rfl) (by kernel_rfl) (by kernel_rfl) (fun _ _ _ h => h) (Or.inl ⟨by kernel_rfl, ?_⟩) (by assumption) ?_
    rotate_left
    · intro w hSw
      (try dsimp only at hSw)
      go_simp
      try (with_reducible rfl)
    (try simp only [Act.put, List.getElem_toArray, List.getElem_cons_succ, List.getElem_cons_zero, List.setIfInBounds_toArray, List.set_cons_zero, List.set_cons_succ])
    refine wpAnyH_take (i := 11) (v := ?_) rfl (by kernel_rfl) (by kernel_rfl) (by kernel_rfl) (fun _ _ _ h => h) (Or.inl ⟨by kernel_rfl, ?_⟩) (by assumption) ?_
    rotate_left
    · intro w hSw
      (try dsimp only at hSw)
      go_simp
      try (with_reducible rfl)
    (try simp only [Act.put, List.getElem_toArray, List.getElem_cons_succ, List.getElem_cons_zero, List.setIfInBounds_toArray, List.set_cons_zero, List.set_cons_succ])
    refine wpAnyH_take (i := 12) (v := ?_) rfl (by kernel_rfl) (by kernel_rfl) (by kernel_rfl) (fun _ _ _ h => h) (Or.inl ⟨by kernel_rfl, ?_⟩) (by assumption) ?_
    rotate_left
    · intro w hSw
      (try dsimp only at hSw)
      go_simp
      try (with_reducible rfl)
    (try simp only [Act.put, List.getElem_toArray, List.getElem_cons_succ, List.getElem_cons_zero, List.setIfInBounds_toArray, List.set_cons_zero, List.set_cons_succ])
    refine wpAnyH_take (i := 13) (v := ?_) rfl (by kernel_rfl) (by kernel_rfl) (by kernel_rfl) (fun _ _ _ h => h) (Or.inl ⟨by kernel_rfl, ?_⟩) (by assumption) ?_
    rotate_left
    · intro w hSw
      (try dsimp only at hSw)
      go_simp
      try (with_reducible rfl)
    (try simp only [Act.put, List.getElem_toArray, List.getElem_cons_succ, List.getElem_cons_zero, List.setIfInBounds_toArray, List.set_cons_zero, List.set_cons_succ])
    refine wpAnyH_take (i := 14) (v := ?_) rfl (by kernel_rfl) (by kernel_rfl) (by kernel_rfl) (fun _ _ _ h => h) (Or.inl ⟨by kernel_rfl, ?_⟩) (by assumption) ?_
    rotate_left
    · intro w hSw
      (try dsimp only at hSw)
      go_simp
      try (with_reducible rfl)
    (try simp only [Act.put, List.getElem_toArray, List.getElem_cons_succ, List.getElem_cons_zero, List.setIfInBounds_toArray, List.set_cons_zero, List.set_cons_succ])
    refine wpAnyH_take (i := 15) (v := ?_) rfl (by kernel_rfl) (by kernel_rfl) (by kernel_rfl) (fun _ _ _ h => h) (Or.inl ⟨by kernel_rfl, ?_⟩) (by assumption) ?_
    rotate_left
    · intro w hSw
      (try dsimp only at hSw)
      go_simp
      try (with_reducible rfl)
    (try simp only [Act.put, List.getElem_toArray, List.getElem_cons_succ, List.getElem_cons_zero, List.setIfInBounds_toArray, List.set_cons_zero, List.set_cons_succ])
    refine wpAnyH_take (i := 16) (v := ?_) rfl (by kernel_rfl) (by kernel_rfl) (by kernel_rfl) (fun _ _ _ h => h) (Or.inl ⟨by kernel_rfl, ?_⟩) (by assumption) ?_
    rotate_left
    · intro w hSw
      (try dsimp only at hSw)
      go_simp
      try (with_reducible rfl)
    (try simp only [Act.put, List.getElem_toArray, List.getElem_cons_succ, List.getElem_cons_zero, List.setIfInBounds_toArray, List.set_cons_zero, List.set_cons_succ])
    refine wpAnyH_take (i := 17) (v := ?_) rfl (by kernel_rfl) (by kernel_rfl) (by kernel_rfl) (fun _ _ _ h => h) (Or.inl ⟨by kernel_rfl, ?_⟩) (by assumption) ?_
    rotate_left
    · intro w hSw
      (try dsimp only at hSw)
      go_simp
      try (with_reducible rfl)
    (try simp only [Act.put, List.getElem_toArray, List.getElem_cons_succ, List.getElem_cons_zero, List.setIfInBounds_toArray, List.set_cons_zero, List.set_cons_succ])
    refine wpAnyH_take (i := 18) (v := ?_) rfl (by kernel_rfl) (by kernel_rfl) (by kernel_rfl) (fun _ _ _ h => h) (Or.inl ⟨by kernel_rfl, ?_⟩) (by assumption) ?_
    rotate_left
    · intro w hSw
      (try dsimp only at hSw)
      go_simp
      try (with_reducible rfl)
    (try simp only [Act.put, List.getElem_toArray, List.getElem_cons_succ, List.getElem_cons_zero, List.setIfInBounds_toArray, List.set_cons_zero, List.set_cons_succ])
    refine wpAnyH_take (i := 19) (v := ?_) rfl (by kernel_rfl) (by kernel_rfl) (by kernel_rfl) (fun _ _ _ h => h) (Or.inl ⟨by kernel_rfl, ?_⟩) (by assumption) ?_
    rotate_left
    · intro w hSw
      (try dsimp only at hSw)
      go_simp
      try (with_reducible rfl)
    (try simp only [Act.put, List.getElem_toArray, List.getElem_cons_succ, List.getElem_cons_zero, List.setIfInBounds_toArray, List.set_cons_zero, List.set_cons_succ])
    refine wpAnyH_take (i := 20) (v := ?_) rfl (by kernel_rfl) (by kernel_rfl) (by kernel_rfl) (fun _ _ _ h => h) (Or.inl ⟨by kernel_rfl, ?_⟩) (by assumption) ?_
    rotate_left
    · intro w hSw
      (try dsimp only at hSw)
      go_simp
      try (with_reducible rfl)
    (try simp only [Act.put, List.getElem_toArray, List.getElem_cons_succ, List.getElem_cons_zero, List.setIfInBounds_toArray, List.set_cons_zero, List.set_cons_succ])
    refine wpAnyH_take (i := 21) (v := ?_) rfl (by kernel_rfl) (by kernel_rfl) (by kernel_rfl) (fun _ _ _ h => h) (Or.inl ⟨by kernel_rfl, ?_⟩) (by assumption) ?_
    rotate_left
    · intro w hSw
      (try dsimp only at hSw)
      go_simp
      try (with_reducible rfl)
    (try simp only [Act.put, List.getElem_toArray, List.getElem_cons_succ, List.getElem_cons_zero, List.setIfInBounds_toArray, List.set_cons_zero, List.set_cons_succ])
    refine wpAnyH_take (i := 22) (v := ?_) rfl (by kernel_rfl) (by kernel_rfl) (by kernel_rfl) (fun _ _ _ h => h) (Or.inl ⟨by kernel_rfl, ?_⟩) (by assumption) ?_
    rotate_left
    · intro w hSw
      (try dsimp only at hSw)
      go_simp
      try (with_reducible rfl)
    (try simp only [Act.put, List.getElem_toArray, List.getElem_cons_succ, List.getElem_cons_zero, List.setIfInBounds_toArray, List.set_cons_zero, List.set_cons_succ])
    refine wpAnyH_take (i := 23) (v := ?_) rfl (by kernel_rfl) (by kernel_rfl) (by kernel_rfl) (fun _ _ _ h => h) (Or.inl ⟨by kernel_rfl, ?_⟩) (by assumption) ?_
    rotate_left
    · intro w hSw
      (try dsimp only at hSw)
      go_simp
      try (with_reducible rfl)
    (try simp only [Act.put, List.getElem_toArray, List.getElem_cons_succ, List.getElem_cons_zero, List.setIfInBounds_toArray, List.set_cons_zero, List.set_cons_succ])
    refine wpAnyH_take (i := 24) (v := ?_) rfl (by kernel_rfl) (by kernel_rfl) (by kernel_rfl) (fun _ _ _ h => h) (Or.inl ⟨by kernel_rfl, ?_⟩) (by assumption) ?_
    rotate_left
    · intro w hSw
      (try dsimp only at hSw)
      go_simp
      try (with_reducible rfl)
    (try simp only [Act.put, List.getElem_toArray, List.getElem_cons_succ, List.getElem_cons_zero, List.setIfInBounds_toArray, List.set_cons_zero, List.set_cons_succ])
    refine wpAnyH_take (i := 25) (v := ?_) rfl (by kernel_rfl) (by kernel_rfl) (by kernel_rfl) (fun _ _ _ h => h) (Or.inl ⟨by kernel_rfl, ?_⟩) (by assumption) ?_
    rotate_left
    · intro w hSw
      (try dsimp only at hSw)
      go_simp
      try (with_reducible rfl)
    (try simp only [Act.put, List.getElem_toArray, List.getElem_cons_succ, List.getElem_cons_zero, List.setIfInBounds_toArray, List.set_cons_zero, List.set_cons_succ])
    refine wpAnyH_take (i := 26) (v := ?_) rfl (by kernel_rfl) (by kernel_rfl) (by kernel_rfl) (fun _ _ _ h => h) (Or.inl ⟨by kernel_rfl, ?_⟩) (by assumption) ?_
    rotate_left
    · intro w hSw
      (try dsimp only at hSw)
      go_simp
      try (with_reducible rfl)
    (try simp only [Act.put, List.getElem_toArray, List.getElem_cons_succ, List.getElem_cons_zero, List.setIfInBounds_toArray, List.set_cons_zero, List.set_cons_succ])
    refine wpAnyH_take (i := 27) (v := ?_) rfl (by kernel_rfl) (by kernel_rfl) (by kernel_rfl) (fun _ _ _ h => h) (Or.inl ⟨by kernel_rfl, ?_⟩) (by assumption) ?_
    rotate_left
    · intro w hSw
      (try dsimp only at hSw)
      go_simp
      try (with_reducible rfl)
    (try simp only [Act.put, List.getElem_toArray, List.getElem_cons_succ, List.getElem_cons_zero, List.setIfInBounds_toArray, List.set_cons_zero, List.set_cons_succ])
    refine wpAnyH_take (i := 28) (v := ?_) rfl (by kernel_rfl) (by kernel_rfl) (by kernel_rfl) (fun _ _ _ h => h) (Or.inl ⟨by kernel_rfl, ?_⟩) (by assumption) ?_
    rotate_left
    · intro w hSw
      (try dsimp only at hSw)
      go_simp
      try (with_reducible rfl)
    (try simp only [Act.put, List.getElem_toArray, List.getElem_cons_succ, List.getElem_cons_zero, List.setIfInBounds_toArray, List.set_cons_zero, List.set_cons_succ])
    refine wpAnyH_take (i := 29) (v := ?_) rfl (by kernel_rfl) (by kernel_rfl) (by kernel_rfl) (fun _ _ _ h => h) (Or.inl ⟨by kernel_rfl, ?_⟩) (by assumption) ?_
    rotate_left
    · intro w hSw
      (try dsimp only at hSw)
      go_simp
      try (with_reducible rfl)
    (try simp only [Act.put, List.getElem_toArray, List.getElem_cons_succ, List.getElem_cons_zero, List.setIfInBounds_toArray, List.set_cons_zero, List.set_cons_succ])
    refine wpAnyH_take (i := 30) (v := ?_) rfl (by kernel_rfl) (by kernel_rfl) (by kernel_rfl) (fun _ _ _ h => h) (Or.inl ⟨by kernel_rfl, ?_⟩) (by assumption) ?_
    rotate_left
    · intro w hSw
      (try dsimp only at hSw)
      go_simp
      try (with_reducible rfl)
    (try simp only [Act.put, List.getElem_toArray, List.getElem_cons_succ, List.getElem_cons_zero, List.setIfInBounds_toArray, List.set_cons_zero, List.set_cons_succ])
    refine wpAnyH_take (i := 31) (v := ?_) rfl (by kernel_rfl) (by kernel_rfl) (by kernel_rfl) (fun _ _ _ h => h) (Or.inl ⟨by kernel_rfl, ?_⟩) (by assumption) ?_
    rotate_left
    · intro w hSw
      (try dsimp only at hSw)
      go_simp
      try (with_reducible rfl)
    (try simp only [Act.put, List.getElem_toArray, List.getElem_cons_succ, List.getElem_cons_zero, List.setIfInBounds_toArray, List.set_cons_zero, List.set_cons_succ])
    refine wpAnyH_take (i := 32) (v := ?_) rfl (by kernel_rfl) (by kernel_rfl) (by kernel_rfl) (fun _ _ _ h => h) (Or.inl ⟨by kernel_rfl, ?_⟩) (by assumption) ?_
    rotate_left
    · intro w hSw
      (try dsimp only at hSw)
      go_simp
      try (with_reducible rfl)
    (try simp only [Act.put, List.getElem_toArray, List.getElem_cons_succ, List.getElem_cons_zero, List.setIfInBounds_toArray, List.set_cons_zero, List.set_cons_succ])
    refine wpAnyH_take (i := 33) (v := ?_) rfl (by kernel_rfl) (by kernel_rfl) (by kernel_rfl) (fun _ _ _ h => h) (Or.inl ⟨by kernel_rfl, ?_⟩) (by assumption) ?_
    rotate_left
    · intro w hSw
      (try dsimp only at hSw)
      go_simp
      try (with_reducible rfl)
    (try simp only [Act.put, List.getElem_toArray, List.getElem_cons_succ, List.getElem_cons_zero, List.setIfInBounds_toArray, List.set_cons_zero, List.set_cons_succ])
    refine wpAnyH_take (i := 34) (v := ?_) rfl (by kernel_rfl) (by kernel_rfl) (by kernel_rfl) (fun _ _ _ h => h) (Or.inl ⟨by kernel_rfl, ?_⟩) (by assumption) ?_
    rotate_left
    · intro w hSw
      (try dsimp only at hSw)
      go_simp
      try (with_reducible rfl)
    (try simp only [Act.put, List.getElem_toArray, List.getElem_cons_succ, List.getElem_cons_zero, List.setIfInBounds_toArray, List.set_cons_zero, List.set_cons_succ])
    refine wpAnyH_take (i := 35) (v := ?_) rfl (by kernel_rfl) (by kernel_rfl) (by kernel_rfl) (fun _ _ _ h => h) (Or.inl ⟨by kernel_rfl, ?_⟩) (by assumption) ?_
    rotate_left
    · intro w hSw
      (try dsimp only at hSw)
      go_simp
      try (with_reducible rfl)
    (try simp only [Act.put, List.getElem_toArray, List.getElem_cons_succ, List.getElem_cons_zero, List.setIfInBounds_toArray, List.set_cons_zero, List.set_cons_succ])
    refine wpAnyH_take (i := 36) (v := ?_) rfl (by kernel_rfl) (by kernel_rfl) (by kernel_rfl) (fun _ _ _ h => h) (Or.inl ⟨by kernel_rfl, ?_⟩) (by assumption) ?_
    rotate_left
    · intro w hSw
      (try dsimp only at hSw)
      go_simp
      try (with_reducible rfl)
    (try simp only [Act.put, List.getElem_toArray, List.getElem_cons_succ, List.getElem_cons_zero, List.setIfInBounds_toArray, List.set_cons_zero, List.set_cons_succ])
    refine wpAnyH_take (i := 37) (v := ?_) rfl (by kernel_rfl) (by kernel_rfl) (by kernel_rfl) (fun _ _ _ h => h) (Or.inl ⟨by kernel_rfl, ?_⟩) (by assumption) ?_
    rotate_left
    · intro w hSw
      (try dsimp only at hSw)
      go_simp
      try (with_reducible rfl)
    (try simp only [Act.put, List.getElem_toArray, List.getElem_cons_succ, List.getElem_cons_zero, List.setIfInBounds_toArray, List.set_cons_zero, List.set_cons_succ])
    refine wpAnyH_take (i := 38) (v := ?_) rfl (by kernel_rfl) (by kernel_rfl) (by kernel_rfl) (fun _ _ _ h => h) (Or.inl ⟨by kernel_rfl, ?_⟩) (by assumption) ?_
    rotate_left
    · intro w hSw
      (try dsimp only at hSw)
      go_simp
      try (with_reducible rfl)
    (try simp only [Act.put, List.getElem_toArray, List.getElem_cons_succ, List.getElem_cons_zero, List.setIfInBounds_toArray, List.set_cons_zero, List.set_cons_succ])
    refine wpAnyH_take (i := 39) (v := ?_) rfl (by kernel_rfl) (by kernel_rfl) (by kernel_rfl) (fun _ _ _ h => h) (Or.inl ⟨by kernel_rfl, ?_⟩) (by assumption) ?_
    rotate_left
    · intro w hSw
      (try dsimp only at hSw)
      go_simp
      try (with_reducible rfl)
    (try simp only [Act.put, List.getElem_toArray, List.getElem_cons_succ, List.getElem_cons_zero, List.setIfInBounds_toArray, List.set_cons_zero, List.set_cons_succ])
    refine wpAnyH_take (i := 40) (v := ?_) rfl (by kernel_rfl) (by kernel_rfl) (by kernel_rfl) (fun _ _ _ h => h) (Or.inl ⟨by kernel_rfl, ?_⟩) (by assumption) ?_
    rotate_left
    · intro w hSw
      (try dsimp only at hSw)
      go_simp
      try (with_reducible rfl)
    (try simp only [Act.put, List.getElem_toArray, List.getElem_cons_succ, List.getElem_cons_zero, List.setIfInBounds_toArray, List.set_cons_zero, List.set_cons_succ])
    refine wpAnyH_take (i := 41) (v := ?_) rfl (by kernel_rfl) (by kernel_rfl) (by kernel_rfl) (fun _ _ _ h => h) (Or.inl ⟨by kernel_rfl, ?_⟩) (by assumption) ?_
    rotate_left
    · intro w hSw
      (try dsimp only at hSw)
      go_simp
      try (with_reducible rfl)
    (try simp only [Act.put, List.getElem_toArray, List.getElem_cons_succ, List.getElem_cons_zero, List.setIfInBounds_toArray, List.set_cons_zero, List.set_cons_succ])
    refine wpAnyH_take (i := 42) (v := ?_) rfl (by kernel_rfl) (by kernel_rfl) (by kernel_rfl) (fun _ _ _ h => h) (Or.inl ⟨by kernel_rfl, ?_⟩) (by assumption) ?_
    rotate_left
    · intro w hSw
      (try dsimp only at hSw)
      go_simp
      try (with_reducible rfl)
    (try simp only [Act.put, List.getElem_toArray, List.getElem_cons_succ, List.getElem_cons_zero, List.setIfInBounds_toArray, List.set_cons_zero, List.set_cons_succ])
    refine wpAnyH_take (i := 43) (v := ?_) rfl (by kernel_rfl) (by kernel_rfl) (by kernel_rfl) (fun _ _ _ h => h) (Or.inl ⟨by kernel_rfl, ?_⟩) (by assumption) ?_
    rotate_left
    · intro w hSw
      (try dsimp only at hSw)
      go_simp
      try (with_reducible rfl)
    (try simp only [Act.put, List.getElem_toArray, List.getElem_cons_succ, List.getElem_cons_zero, List.setIfInBounds_toArray, List.set_cons_zero, List.set_cons_succ])
    refine wpAnyH_take (i := 44) (v := ?_) rfl (by kernel_rfl) (by kernel_rfl) (by kernel_rfl) (fun _ _ _ h => h) (Or.inl ⟨by kernel_rfl, ?_⟩) (by assumption) ?_
    rotate_left
    · intro w hSw
      (try dsimp only at hSw)
      go_simp
      try (with_reducible rfl)
    (try simp only [Act.put, List.getElem_toArray, List.getElem_cons_succ, List.getElem_cons_zero, List.setIfInBounds_toArray, List.set_cons_zero, List.set_cons_succ])
    refine wpAnyH_take (i := 45) (v := ?_) rfl (by kernel_rfl) (by kernel_rfl) (by kernel_rfl) (fun _ _ _ h => h) (Or.inl ⟨by kernel_rfl, ?_⟩) (by assumption) ?_
    rotate_left
    · intro w hSw
      (try dsimp only at hSw)
      go_simp
      try (with_reducible rfl)
    (try simp only [Act.put, List.getElem_toArray, List.getElem_cons_succ, List.getElem_cons_zero, List.setIfInBounds_toArray, List.set_cons_zero, List.set_cons_succ])
    refine wpAnyH_take (i := 46) (v := ?_) rfl (by kernel_rfl) (by kernel_rfl) (by kernel_rfl) (fun _ _ _ h => h) (Or.inl ⟨by kernel_rfl, ?_⟩) (by assumption) ?_
    rotate_left
    · intro w hSw
      (try dsimp only at hSw)
      go_simp
      try (with_reducible rfl)
    (try simp only [Act.put, List.getElem_toArray, List.getElem_cons_succ, List.getElem_cons_zero, List.setIfInBounds_toArray, List.set_cons_zero, List.set_cons_succ])
    refine wpAnyH_take (i := 47) (v := ?_) rfl (by kernel_rfl) (by kernel_rfl) (by kernel_rfl) (fun _ _ _ h => h) (Or.inl ⟨by kernel_rfl, ?_⟩) (by assumption) ?_
    rotate_left
    · intro w hSw
      (try dsimp only at hSw)
      go_simp
      try (with_reducible rfl)
    (try simp only [Act.put, List.getElem_toArray, List.getElem_cons_succ, List.getElem_cons_zero, List.setIfInBounds_toArray, List.set_cons_zero, List.set_cons_succ])
    refine wpAnyH_take (i := 48) (v := ?_) rfl (by kernel_rfl) (by kernel_rfl) (by kernel_rfl) (fun _ _ _ h => h) (Or.inl ⟨by kernel_rfl, ?_⟩) (by assumption) ?_
    rotate_left
    · intro w hSw
      (try dsimp only at hSw)
      go_simp
      try (with_reducible rfl)
    (try simp only [Act.put, List.getElem_toArray, List.getElem_cons_succ, List.getElem_cons_zero, List.setIfInBounds_toArray, List.set_cons_zero, List.set_cons_succ])
    refine wpAnyH_take (i := 49) (v := ?_) rfl (by kernel_rfl) (by kernel_rfl) (by kernel_rfl) (fun _ _ _ h => h) (Or.inl ⟨by kernel_rfl, ?_⟩) (by assumption) ?_
    rotate_left
    · intro w hSw
      (try dsimp only at hSw)
      go_simp
      try (with_reducible rfl)
    (try simp only [Act.put, List.getElem_toArray, List.getElem_cons_succ, List.getElem_cons_zero, List.setIfInBounds_toArray, List.set_cons_zero, List.set_cons_succ])
    refine wpAnyH_done (by kernel_rfl) ?_ _
    go_wp2
    go_ret
    exact ⟨rfl, HB9.out.trans (hHeld.1.mono HB9.out.size)⟩
end Go.Proofs.YtlepbooegofoeaaGreatDoor
