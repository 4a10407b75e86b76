/-
  slices.IndexFunc and slices.ContainsFunc at jobs, timers, asks, with whatever predicate. Conditions: the predicate leaves what lay in memory as it was.
-/
import Derived.Test.YtpjbblbehbepbaaLpC
import Derived.Deep.LoopGhost
namespace Go.Proofs.Ytpjbblbehbepbaa
set_option linter.unusedSimpArgs false
set_option linter.unusedVariables false
open Go.RowKit

/-- the first place where p holds, or -1. -/
def idx {α : Type} (p : α → Bool) : List α → Int
  | [] => -1
  | x :: l => if p x then 0 else if idx p l < 0 then -1 else idx p l + 1
theorem idx_lo {α : Type} (p : α → Bool) : ∀ l, -1 ≤ idx p l
  | [] => by simp [idx]
  | x :: l => by have := idx_lo p l; unfold idx; split <;> (try split) <;> omega
theorem idx_any {α : Type} (p : α → Bool) : ∀ l, decide (0 ≤ idx p l) = l.any p
  | [] => by simp [idx]
  | x :: l => by
    have h := idx_any p l
    unfold idx
    rw [List.any_cons, ← h]
    cases hp : p x
    · by_cases hl : idx p l < 0
      · have : ¬ 0 ≤ idx p l := by omega
        simp [hl, this]
      · have : 0 ≤ idx p l + 1 := by omega
        have : 0 ≤ idx p l := by omega
        simp [*]
    · simp
theorem idx_hit {α : Type} (p : α → Bool) : ∀ (l : List α) (k : Nat) (x : α), l[k]? = some x → p x = true → (∀ j y, j < k → l[j]? = some y → p y = false) → idx p l = k
  | [], k, x, h, _, _ => by simp at h
  | y :: l, 0, x, h, hp, _ => by simp at h; subst h; simp [idx, hp]
  | y :: l, k + 1, x, h, hp, ha => by
    have h0 : p y = false := ha 0 y (by omega) rfl
    have ih := idx_hit p l k x (by simpa using h) hp (fun j z hj hz => ha (j + 1) z (by omega) (by simpa using hz))
    unfold idx
    rw [h0, ih]
    have : ¬ (k : Int) < 0 := by omega
    simp [this]
theorem idx_miss {α : Type} (p : α → Bool) : ∀ (l : List α), (∀ (j : Nat) (y : α), l[j]? = some y → p y = false) → idx p l = -1
  | [], _ => rfl
  | y :: l, ha => by
    have h0 : p y = false := ha 0 y rfl
    have ih := idx_miss p l (fun j z hz => ha (j + 1) z (by simpa using hz))
    unfold idx
    rw [h0, ih]; rfl

set_option maxHeartbeats 1000000 in
theorem index_ask (l : List Loopy.Ask) (p : Loopy.Ask → Bool) (g : Nat) (lb : Array Value) (v : Value) (w : World) (eg : ∀ args w, (callFunc g args).run Try.prog w = .ok (.enter g args) w)
    (hp : ∀ x ∈ l, ∀ w1, Below w.heap.size w w1 → Calls Try.prog g (#[.agg (ac x)] ++ lb) w1 fun e w' => e = .returned (.bool (p x)) ∧ Below w1.heap.size w1 w')
    (hR : RdL w 7 ac l v) (hl : l.length ≤ 1000000) :
    Calls Try.prog 26 #[v, .func (.func g) #[] lb] w fun e w' => e = .returned (.int .i64 (idx p l)) ∧ Below w.heap.size w w' := by
  obtain ⟨A, cap, rfl, hcap1, hcap2, hrow⟩ := hR
  have HP := Lib.hid hp
  have HR := Lib.hid hrow
  clear hp hrow
  go_enter Try.func26, Try.ntmps26
  go_wp2
  go_loopg [5, 8] l.length (fun gg _ s8 wr => ∃ kk : Nat, kk ≤ l.length ∧ l.length - kk ≤ gg ∧ s8 = .int .i64 (kk : Int) ∧ Hid (Below w.heap.size w wr) ∧ Hid (∀ j y, j < kk → l[j]? = some y → p y = false))
  case atStart => exact ⟨0, Nat.zero_le _, by omega, rfl, Below.refl _ w, fun j y hj => absurd hj (Nat.not_lt_zero _)⟩
  case round =>
    obtain ⟨kk, hkk, hg, rfl, BW, AA⟩ := hrel
    by_cases hlt : kk < l.length
    · have hltz : (kk : Int) < (l.length : Int) := by omega
      obtain ⟨y, hy⟩ : ∃ y, l[kk]? = some y := ⟨_, List.getElem?_eq_getElem hlt⟩
      obtain ⟨g0, o, rfl, hg0, hrg⟩ := HR.out (by omega)
      have hrange : Hid (wr.rangeAt g0 (o + kk * 7) (ac y).toList) := fun i u hu => by
        rw [BW.out.cell (p := ⟨g0, o + kk * 7 + i, none⟩) hg0]
        exact RdL.elem (f := ac) (fun _ => rfl) hrg hy i u hu
      have hcall0 := HP.out y (List.mem_of_getElem? hy) wr BW.out
      have HY := Lib.hid hy
      clear hy hrg
      cases hq : p y with
      | true =>
        rw [hq] at hcall0
        have hcall := Lib.hid hcall0
        clear hcall0
        go_wp2_with (refine wpList_load_mid rfl 35 (.tmp 14) rfl g0 (o + kk * 7) rfl (ac y).toList _ hrange.out Try.underlying35 rfl info_ask ?_)
        refine (hcall.out).mono ?_
        rintro e w1 ⟨rfl, hb'⟩
        go_wp2
        go_ret
        refine ⟨?_, BW.out.trans (hb'.mono BW.out.size)⟩
        rw [idx_hit p l kk y HY.out hq AA.out]; rfl
      | false =>
        rw [hq] at hcall0
        have hcall := Lib.hid hcall0
        clear hcall0
        go_wp2_with (refine wpList_load_mid rfl 35 (.tmp 14) rfl g0 (o + kk * 7) rfl (ac y).toList _ hrange.out Try.underlying35 rfl info_ask ?_)
        refine (hcall.out).mono ?_
        rintro e w1 ⟨rfl, hb'⟩
        go_wp2
        go_roundg (l.length - (kk + 1))
        case measure => omega
        case rel =>
          refine ⟨kk + 1, by omega, by omega, by go_num, BW.out.trans (hb'.mono BW.out.size), (show Hid _ from fun j z hj hz => ?_)⟩
          by_cases e : j = kk
          · subst e
            have := HY.out
            rw [hz] at this
            injection this with this
            rw [this]; exact hq
          · exact AA.out j z (by omega) hz
    · have hltz : ¬ (kk : Int) < (l.length : Int) := by omega
      go_wp2
      go_ret
      refine ⟨?_, BW.out⟩
      rw [idx_miss p l (fun j y hy => AA.out j y (by have := (List.getElem?_eq_some_iff.1 hy).1; omega) hy)]; rfl
set_option maxHeartbeats 1000000 in
theorem contains_ask (l : List Loopy.Ask) (p : Loopy.Ask → Bool) (g : Nat) (lb : Array Value) (v : Value) (w : World) (eg : ∀ args w, (callFunc g args).run Try.prog w = .ok (.enter g args) w)
    (hp : ∀ x ∈ l, ∀ w1, Below w.heap.size w w1 → Calls Try.prog g (#[.agg (ac x)] ++ lb) w1 fun e w' => e = .returned (.bool (p x)) ∧ Below w1.heap.size w1 w')
    (hR : RdL w 7 ac l v) (hl : l.length ≤ 1000000) :
    Calls Try.prog 11 #[v, .func (.func g) #[] lb] w fun e w' => e = .returned (.bool (l.any p)) ∧ Below w.heap.size w w' := by
  have H := Lib.hid (index_ask l p g lb v w eg hp hR hl)
  have HI := Lib.hid (idx_any p l)
  clear hp hR
  go_enter Try.func11, Try.ntmps11
  go_wp2_with (fail)
  refine (H.out).mono ?_
  rintro e w1 ⟨rfl, hb⟩
  go_wp2
  go_ret
  exact ⟨ret_bool (by simpa using HI.out), hb⟩

set_option maxHeartbeats 1000000 in
theorem index_timer (l : List Loopy.Timer) (p : Loopy.Timer → Bool) (g : Nat) (lb : Array Value) (v : Value) (w : World) (eg : ∀ args w, (callFunc g args).run Try.prog w = .ok (.enter g args) w)
    (hp : ∀ x ∈ l, ∀ w1, Below w.heap.size w w1 → Calls Try.prog g (#[.agg (tc x)] ++ lb) w1 fun e w' => e = .returned (.bool (p x)) ∧ Below w1.heap.size w1 w')
    (hR : RdL w 5 tc l v) (hl : l.length ≤ 1000000) :
    Calls Try.prog 18 #[v, .func (.func g) #[] lb] w fun e w' => e = .returned (.int .i64 (idx p l)) ∧ Below w.heap.size w w' := by
  obtain ⟨A, cap, rfl, hcap1, hcap2, hrow⟩ := hR
  have HP := Lib.hid hp
  have HR := Lib.hid hrow
  clear hp hrow
  go_enter Try.func18, Try.ntmps18
  go_wp2
  go_loopg [5, 8] l.length (fun gg _ s8 wr => ∃ kk : Nat, kk ≤ l.length ∧ l.length - kk ≤ gg ∧ s8 = .int .i64 (kk : Int) ∧ Hid (Below w.heap.size w wr) ∧ Hid (∀ j y, j < kk → l[j]? = some y → p y = false))
  case atStart => exact ⟨0, Nat.zero_le _, by omega, rfl, Below.refl _ w, fun j y hj => absurd hj (Nat.not_lt_zero _)⟩
  case round =>
    obtain ⟨kk, hkk, hg, rfl, BW, AA⟩ := hrel
    by_cases hlt : kk < l.length
    · have hltz : (kk : Int) < (l.length : Int) := by omega
      obtain ⟨y, hy⟩ : ∃ y, l[kk]? = some y := ⟨_, List.getElem?_eq_getElem hlt⟩
      obtain ⟨g0, o, rfl, hg0, hrg⟩ := HR.out (by omega)
      have hrange : Hid (wr.rangeAt g0 (o + kk * 5) (tc y).toList) := fun i u hu => by
        rw [BW.out.cell (p := ⟨g0, o + kk * 5 + i, none⟩) hg0]
        exact RdL.elem (f := tc) (fun _ => rfl) hrg hy i u hu
      have hcall0 := HP.out y (List.mem_of_getElem? hy) wr BW.out
      have HY := Lib.hid hy
      clear hy hrg
      cases hq : p y with
      | true =>
        rw [hq] at hcall0
        have hcall := Lib.hid hcall0
        clear hcall0
        go_wp2_with (refine wpList_load_mid rfl 49 (.tmp 14) rfl g0 (o + kk * 5) rfl (tc y).toList _ hrange.out Try.underlying49 rfl info_timer ?_)
        refine (hcall.out).mono ?_
        rintro e w1 ⟨rfl, hb'⟩
        go_wp2
        go_ret
        refine ⟨?_, BW.out.trans (hb'.mono BW.out.size)⟩
        rw [idx_hit p l kk y HY.out hq AA.out]; rfl
      | false =>
        rw [hq] at hcall0
        have hcall := Lib.hid hcall0
        clear hcall0
        go_wp2_with (refine wpList_load_mid rfl 49 (.tmp 14) rfl g0 (o + kk * 5) rfl (tc y).toList _ hrange.out Try.underlying49 rfl info_timer ?_)
        refine (hcall.out).mono ?_
        rintro e w1 ⟨rfl, hb'⟩
        go_wp2
        go_roundg (l.length - (kk + 1))
        case measure => omega
        case rel =>
          refine ⟨kk + 1, by omega, by omega, by go_num, BW.out.trans (hb'.mono BW.out.size), (show Hid _ from fun j z hj hz => ?_)⟩
          by_cases e : j = kk
          · subst e
            have := HY.out
            rw [hz] at this
            injection this with this
            rw [this]; exact hq
          · exact AA.out j z (by omega) hz
    · have hltz : ¬ (kk : Int) < (l.length : Int) := by omega
      go_wp2
      go_ret
      refine ⟨?_, BW.out⟩
      rw [idx_miss p l (fun j y hy => AA.out j y (by have := (List.getElem?_eq_some_iff.1 hy).1; omega) hy)]; rfl
set_option maxHeartbeats 1000000 in
theorem contains_timer (l : List Loopy.Timer) (p : Loopy.Timer → Bool) (g : Nat) (lb : Array Value) (v : Value) (w : World) (eg : ∀ args w, (callFunc g args).run Try.prog w = .ok (.enter g args) w)
    (hp : ∀ x ∈ l, ∀ w1, Below w.heap.size w w1 → Calls Try.prog g (#[.agg (tc x)] ++ lb) w1 fun e w' => e = .returned (.bool (p x)) ∧ Below w1.heap.size w1 w')
    (hR : RdL w 5 tc l v) (hl : l.length ≤ 1000000) :
    Calls Try.prog 16 #[v, .func (.func g) #[] lb] w fun e w' => e = .returned (.bool (l.any p)) ∧ Below w.heap.size w w' := by
  have H := Lib.hid (index_timer l p g lb v w eg hp hR hl)
  have HI := Lib.hid (idx_any p l)
  clear hp hR
  go_enter Try.func16, Try.ntmps16
  go_wp2_with (fail)
  refine (H.out).mono ?_
  rintro e w1 ⟨rfl, hb⟩
  go_wp2
  go_ret
  exact ⟨ret_bool (by simpa using HI.out), hb⟩

set_option maxHeartbeats 1000000 in
theorem index_job (l : List Loopy.Job) (p : Loopy.Job → Bool) (g : Nat) (lb : Array Value) (v : Value) (w : World) (eg : ∀ args w, (callFunc g args).run Try.prog w = .ok (.enter g args) w)
    (hp : ∀ x ∈ l, ∀ w1, Below w.heap.size w w1 → Calls Try.prog g (#[.agg (jc x)] ++ lb) w1 fun e w' => e = .returned (.bool (p x)) ∧ Below w1.heap.size w1 w')
    (hR : RdL w 7 jc l v) (hl : l.length ≤ 1000000) :
    Calls Try.prog 43 #[v, .func (.func g) #[] lb] w fun e w' => e = .returned (.int .i64 (idx p l)) ∧ Below w.heap.size w w' := by
  obtain ⟨A, cap, rfl, hcap1, hcap2, hrow⟩ := hR
  have HP := Lib.hid hp
  have HR := Lib.hid hrow
  clear hp hrow
  go_enter Try.func43, Try.ntmps43
  go_wp2
  go_loopg [5, 8] l.length (fun gg _ s8 wr => ∃ kk : Nat, kk ≤ l.length ∧ l.length - kk ≤ gg ∧ s8 = .int .i64 (kk : Int) ∧ Hid (Below w.heap.size w wr) ∧ Hid (∀ j y, j < kk → l[j]? = some y → p y = false))
  case atStart => exact ⟨0, Nat.zero_le _, by omega, rfl, Below.refl _ w, fun j y hj => absurd hj (Nat.not_lt_zero _)⟩
  case round =>
    obtain ⟨kk, hkk, hg, rfl, BW, AA⟩ := hrel
    by_cases hlt : kk < l.length
    · have hltz : (kk : Int) < (l.length : Int) := by omega
      obtain ⟨y, hy⟩ : ∃ y, l[kk]? = some y := ⟨_, List.getElem?_eq_getElem hlt⟩
      obtain ⟨g0, o, rfl, hg0, hrg⟩ := HR.out (by omega)
      have hrange : Hid (wr.rangeAt g0 (o + kk * 7) (jc y).toList) := fun i u hu => by
        rw [BW.out.cell (p := ⟨g0, o + kk * 7 + i, none⟩) hg0]
        exact RdL.elem (f := jc) (fun _ => rfl) hrg hy i u hu
      have hcall0 := HP.out y (List.mem_of_getElem? hy) wr BW.out
      have HY := Lib.hid hy
      clear hy hrg
      cases hq : p y with
      | true =>
        rw [hq] at hcall0
        have hcall := Lib.hid hcall0
        clear hcall0
        go_wp2_with (refine wpList_load_mid rfl 39 (.tmp 14) rfl g0 (o + kk * 7) rfl (jc y).toList _ hrange.out Try.underlying39 rfl info_job ?_)
        refine (hcall.out).mono ?_
        rintro e w1 ⟨rfl, hb'⟩
        go_wp2
        go_ret
        refine ⟨?_, BW.out.trans (hb'.mono BW.out.size)⟩
        rw [idx_hit p l kk y HY.out hq AA.out]; rfl
      | false =>
        rw [hq] at hcall0
        have hcall := Lib.hid hcall0
        clear hcall0
        go_wp2_with (refine wpList_load_mid rfl 39 (.tmp 14) rfl g0 (o + kk * 7) rfl (jc y).toList _ hrange.out Try.underlying39 rfl info_job ?_)
        refine (hcall.out).mono ?_
        rintro e w1 ⟨rfl, hb'⟩
        go_wp2
        go_roundg (l.length - (kk + 1))
        case measure => omega
        case rel =>
          refine ⟨kk + 1, by omega, by omega, by go_num, BW.out.trans (hb'.mono BW.out.size), (show Hid _ from fun j z hj hz => ?_)⟩
          by_cases e : j = kk
          · subst e
            have := HY.out
            rw [hz] at this
            injection this with this
            rw [this]; exact hq
          · exact AA.out j z (by omega) hz
    · have hltz : ¬ (kk : Int) < (l.length : Int) := by omega
      go_wp2
      go_ret
      refine ⟨?_, BW.out⟩
      rw [idx_miss p l (fun j y hy => AA.out j y (by have := (List.getElem?_eq_some_iff.1 hy).1; omega) hy)]; rfl
set_option maxHeartbeats 1000000 in
theorem contains_job (l : List Loopy.Job) (p : Loopy.Job → Bool) (g : Nat) (lb : Array Value) (v : Value) (w : World) (eg : ∀ args w, (callFunc g args).run Try.prog w = .ok (.enter g args) w)
    (hp : ∀ x ∈ l, ∀ w1, Below w.heap.size w w1 → Calls Try.prog g (#[.agg (jc x)] ++ lb) w1 fun e w' => e = .returned (.bool (p x)) ∧ Below w1.heap.size w1 w')
    (hR : RdL w 7 jc l v) (hl : l.length ≤ 1000000) :
    Calls Try.prog 30 #[v, .func (.func g) #[] lb] w fun e w' => e = .returned (.bool (l.any p)) ∧ Below w.heap.size w w' := by
  have H := Lib.hid (index_job l p g lb v w eg hp hR hl)
  have HI := Lib.hid (idx_any p l)
  clear hp hR
  go_enter Try.func30, Try.ntmps30
  go_wp2_with (fail)
  refine (H.out).mono ?_
  rintro e w1 ⟨rfl, hb⟩
  go_wp2
  go_ret
  exact ⟨ret_bool (by simpa using HI.out), hb⟩

end Go.Proofs.Ytpjbblbehbepbaa
