/-
  StoreApart returns true. Conditions: as each says.
-/
import Derived.Test.YtdolmjeiakdfhaaGreatDoorStX
import Derived.Test.YtdolmjeiakdfhaaGreatDoorStZ
import Derived.BigQuiet
namespace Story
set_option linter.unusedSimpArgs false
set_option linter.unusedVariables false
/-- is the op of this origin? -/
def mine (g : Bs) (o : Op) : Bool := match Urly.originOf o.loc with
  | .ok x => decide (x = g)
  | .error _ => false
/-- the answers of the ops of an origin. -/
def pick {α : Type} (g : Bs) : List Op → List α → List α
  | o :: l, a :: m => if mine g o then a :: pick g l m else pick g l m
  | _, _ => []
theorem setS_hit (S : St) (g : Bs) (d : D) : (setS S g d) g = some d := by simp [setS]
theorem setS_miss (S : St) {g x : Bs} (d : D) (h : g ≠ x) : (setS S x d) g = S g := by simp [setS, h]
theorem apart_law (g : Bs) : ∀ (ops : List Op) (S S' : St), (S g).getD d0 = (S' g).getD d0 → pick g ops (runs S ops) = runs S' (ops.filter (mine g))
  | [], _, _, _ => rfl
  | o :: l, S, S', h => by
    cases ho : Urly.originOf o.loc with
    | error e =>
      have hm : mine g o = false := by unfold mine; rw [ho]
      have hs : step S o = (⟨e, [], false, []⟩, S) := by unfold step; rw [ho]
      rw [runs, hs, pick, hm, List.filter_cons_of_neg (by simp [hm])]
      exact apart_law g l S S' h
    | ok x =>
      have hs : step S o = ((doOp ((S x).getD d0) o).1, setS S x (doOp ((S x).getD d0) o).2) := by unfold step; rw [ho]
      by_cases e : x = g
      · subst e
        have hm : mine x o = true := by unfold mine; rw [ho]; simp
        have hs' : step S' o = ((doOp ((S' x).getD d0) o).1, setS S' x (doOp ((S' x).getD d0) o).2) := by unfold step; rw [ho]
        rw [runs, hs, pick, hm, List.filter_cons_of_pos hm, runs, hs', h]
        simp only [if_true]
        congr 1
        exact apart_law x l _ _ (by rw [setS_hit, setS_hit])
      · have hm : mine g o = false := by unfold mine; rw [ho]; simp [e]
        rw [runs, hs, pick, hm, List.filter_cons_of_neg (by simp [hm])]
        exact apart_law g l _ S' (by simp only [setS_miss S _ (show g ≠ x from fun h => e h.symm)]; exact h)
theorem pick_take {α : Type} (g : Bs) : ∀ (l : List Op) (m : List α) (k : Nat) (o : Op) (a : α), l[k]? = some o → m[k]? = some a → pick g (l.take (k + 1)) (m.take (k + 1)) = pick g (l.take k) (m.take k) ++ (if mine g o then [a] else [])
  | [], _, _, _, _, h, _ => by simp at h
  | _ :: _, [], _, _, _, _, h => by simp at h
  | y :: l, b :: m, 0, o, a, h1, h2 => by
    simp at h1 h2; subst h1; subst h2
    simp [pick]
  | y :: l, b :: m, k + 1, o, a, h1, h2 => by
    have ih := pick_take g l m k o a (by simpa using h1) (by simpa using h2)
    rw [List.take_succ_cons, List.take_succ_cons, List.take_succ_cons, List.take_succ_cons, pick, pick, ih]
    split <;> simp
theorem filter_take (g : Bs) : ∀ (l : List Op) (k : Nat) (o : Op), l[k]? = some o → (l.take (k + 1)).filter (mine g) = (l.take k).filter (mine g) ++ (if mine g o then [o] else [])
  | l, k, o, h => by
    rw [List.take_add_one, h, List.filter_append]
    simp only [Option.toList, List.filter_cons, List.filter_nil]
theorem pick_map {α β : Type} (f : α → β) (g : Bs) : ∀ (l : List Op) (m : List α), (pick g l m).map f = pick g l (m.map f)
  | [], m => by cases m <;> rfl
  | o :: l, [] => rfl
  | o :: l, a :: m => by
    simp only [pick, List.map_cons]
    split
    · simp [pick_map f g l m]
    · exact pick_map f g l m
theorem pick_mem {α : Type} (g : Bs) : ∀ (l : List Op) (m : List α), ∀ x ∈ pick g l m, x ∈ m
  | [], m, x, h => by cases m <;> simp [pick] at h
  | o :: l, [], x, h => by simp [pick] at h
  | o :: l, a :: m, x, h => by
    simp only [pick] at h
    split at h
    · rcases List.mem_cons.1 h with rfl | h
      · simp
      · exact List.mem_cons_of_mem _ (pick_mem g l m x h)
    · exact List.mem_cons_of_mem _ (pick_mem g l m x h)
/-- every drawer keeps to its rules. -/
def Good (S : St) : Prop := ∀ x d, S x = some d → Inv d
theorem good0 : Good (fun _ => none) := fun _ _ h => by cases h
theorem Good.get {S : St} (h : Good S) (x : Bs) : Inv ((S x).getD d0) := by
  cases hx : S x with
  | none => exact inv_d0
  | some d => exact h x d hx
theorem Good.step {S : St} (h : Good S) (o : Op) : Good (step S o).2 := by
  cases ho : Urly.originOf o.loc with
  | error e => unfold Story.step; rw [ho]; exact h
  | ok x =>
    have hs : (Story.step S o).2 = setS S x (doOp ((S x).getD d0) o).2 := by unfold Story.step; rw [ho]
    rw [hs]
    intro y d hy
    by_cases e : y = x
    · subst e
      rw [setS_hit] at hy
      injection hy with hy; subst hy; exact do_inv (h.get y) o
    · rw [setS_miss S _ e] at hy
      exact h y d hy
theorem Good.after : ∀ {ops : List Op} {S : St}, Good S → Good (after S ops)
  | [], _, h => h
  | o :: l, S, h => Good.after (ops := l) (h.step o)
def kop (loc : Bs) : Op := ⟨5, loc, [], []⟩
def gop (loc k : Bs) : Op := ⟨2, loc, k, []⟩
theorem getS {S : St} {loc x : Bs} {d : D} (ho : Urly.originOf loc = .ok x) (hd : (S x).getD d0 = d) : ∀ (l : List Bs), runs S (l.map (gop loc)) = l.map fun k => (⟨0, (d.f k).getD [], (d.f k).isSome, []⟩ : Ans)
  | [] => rfl
  | k :: l => by
    have hs : step S (gop loc k) = (⟨0, (d.f k).getD [], (d.f k).isSome, []⟩, setS S x d) := by
      unfold step gop
      simp only [ho, hd]
      rfl
    rw [List.map_cons, runs, hs, List.map_cons]
    congr 1
    exact getS ho (by simp only [setS_hit]; rfl) l
theorem bulk_take (f : Bs → Option Bs) (n : Nat) (l : List Bs) : bulk f (l.take n) ≤ bulk f l := by
  have h := bulk_append f (l.take n) (l.drop n)
  rw [List.take_append_drop] at h
  have := bulk_nonneg f (l.drop n)
  omega
/-- what an origin keeps, asked for in the end. -/
theorem quota_law (S : St) (hS : Good S) (loc : Bs) : ∃ (a : Ans) (f : Bs → Option Bs), runs S [kop loc] = [a] ∧
    (∀ n, runs (after S [kop loc]) ((a.keys.take n).map (gop loc)) = (a.keys.take n).map fun k => (⟨0, (f k).getD [], true, []⟩ : Ans)) ∧ ∀ n, bulk f (a.keys.take n) ≤ 400 := by
  cases ho : Urly.originOf loc with
  | error e =>
    refine ⟨⟨e, [], false, []⟩, fun _ => none, ?_, fun n => ?_, fun n => ?_⟩
    · simp [runs, step, kop, ho]
    · simp [runs]
    · simp [bulk]
  | ok x =>
    obtain ⟨d, hd⟩ : ∃ d, (S x).getD d0 = d := ⟨_, rfl⟩
    have hi : Inv d := hd ▸ hS.get x
    have hs : step S (kop loc) = (⟨0, [], false, d.keys⟩, setS S x d) := by
      unfold step kop
      simp only [ho, hd]
      rfl
    refine ⟨⟨0, [], false, d.keys⟩, d.f, by rw [runs, hs]; rfl, fun n => ?_, fun n => ?_⟩
    · rw [after, hs, after, getS (S := setS S x d) (d := d) ho (by simp only [setS_hit]; rfl)]
      refine List.map_congr_left fun k hk => ?_
      rw [(hi.dom k).2 (List.mem_of_mem_take hk)]
    · have h1 := bulk_take d.f n d.keys
      have h2 := hi.sum
      have h3 := hi.few
      simp only at h1 ⊢
      omega
end Story

namespace Story
theorem pick_len {α : Type} (g : Bs) : ∀ (l : List Op) (m : List α), (pick g l m).length ≤ l.length
  | [], m => by cases m <;> simp [pick]
  | o :: l, [] => by simp [pick]
  | o :: l, a :: m => by
    have := pick_len g l m
    simp only [pick]
    split <;> simp <;> omega
end Story
namespace Go.Proofs.YtdolmjeiakdfhaaGreatDoor
set_option linter.unusedSimpArgs false
set_option linter.unusedVariables false
open Go.RowKit

theorem all_hit {α : Type} {p : α → Bool} {l : List α} {k : Nat} {x : α} (h : l[k]? = some x) (hp : p x = false) : l.all p = false := by
  rw [List.all_eq_false]
  exact ⟨x, List.mem_of_getElem? h, by rw [hp]; simp⟩
theorem all_yes {α : Type} {p : α → Bool} {l : List α} (h : ∀ (j : Nat) (y : α), l[j]? = some y → p y = true) : l.all p = true := by
  rw [List.all_eq_true]
  intro x hx
  obtain ⟨j, hj⟩ := List.getElem?_of_mem hx
  exact h j x hj
def errs (l : List Int) : Array Value := (l.map (Value.int .i64)).toArray
set_option maxHeartbeats 2000000 in
theorem ok_any (l : List Int) (b : Nat) (w : World) (hb : Box w b 24 (errs l)) (hl : l.length ≤ 100) :
    Calls Tryz.prog 11 #[.slice (some ⟨b, 0, none⟩) l.length l.length] w fun e w' => e = .returned (.bool (l.all fun n => decide (n = 0))) ∧ w' = w := by
  have HB := Lib.hid hb
  obtain ⟨n, hn⟩ : ∃ n, l.length = n := ⟨_, rfl⟩
  have HN := Lib.hid hn
  rw [hn] at hl ⊢
  clear hb hn
  go_enter Tryz.func11, Tryz.ntmps11
  go_upto_region 2 with (fail)
  go_loopg [4, 7] n (fun gg _ s7 wr => ∃ j : Nat, j ≤ n ∧ n - j ≤ gg ∧ s7 = .int .i64 (j : Int) ∧ wr = w ∧ Hid (∀ (i : Nat) (x : Int), i < j → l[i]? = some x → x = 0))
  case atStart => exact ⟨0, Nat.zero_le _, by omega, rfl, rfl, fun i x hi => absurd hi (Nat.not_lt_zero _)⟩
  case round =>
    obtain ⟨j, hj, hgg, rfl, rfl, AA⟩ := hrel
    by_cases hlt : j < n
    · have hlt2 : decide ((j : Int) < (n : Int)) = true := decide_eq_true (by omega)
      have hltz : (j : Int) < (n : Int) := by omega
      obtain ⟨x, hx⟩ : ∃ x, l[j]? = some x := ⟨_, List.getElem?_eq_getElem (by rw [HN.out]; exact hlt)⟩
      have cx : wr.cell? ⟨b, j, none⟩ = some (.int .i64 x) := by
        rw [HB.out.cell j]
        simp [errs, hx]
      have HX := Lib.hid hx
      clear hx
      by_cases y : x = 0
      · subst y
        go_wp2
        go_roundg (n - (j + 1))
        case measure => omega
        case rel =>
          refine ⟨j + 1, by omega, by omega, by go_num, rfl, (show Hid _ from fun i x hi hx => ?_)⟩
          by_cases e : i = j
          · subst e
            have := HX.out
            rw [hx] at this
            injection this
          · exact AA.out i x (by omega) hx
      · have e1 : (x != 0) = true := by simp [y]
        have Y := Lib.hid y
        clear y
        go_wp2
        go_ret
        exact ⟨ret_bool (all_hit HX.out (decide_eq_false Y.out)).symm, rfl⟩
    · have hlt2 : decide ((j : Int) < (n : Int)) = false := decide_eq_false (by omega)
      go_wp2
      go_ret
      exact ⟨ret_bool (all_yes (fun i x hi => decide_eq_true (AA.out i x (by have := (List.getElem?_eq_some_iff.1 hi).1; have := HN.out; omega) hi))).symm, rfl⟩
theorem flat_sing {α : Type} (f : α → Array Value) (x : α) : flat f [x] = (f x).toList := by simp [flat]
def TrueA (w : World) (e : Ending) (w' : World) : Prop := e = .returned (.bool true) ∧ Below w.heap.size w w'
set_option maxRecDepth 100000 in
set_option maxHeartbeats 16000000 in
theorem apart_true (ops : List Story.Op) (loc : List UInt8) (v : Value) (w : World) (he : Env w) (hv : Rd w 4 (flat ocells ops) ops.length v) (hsz : ∀ o ∈ ops, o.key.length ≤ 140737488355328 ∧ o.value.length ≤ 140737488355328) :
    Calls Tryz.prog 3 #[v, .string (byt loc)] w (TrueA w) := by
  obtain ⟨A0, cap0, rfl, hc1, hc2, hcells⟩ := hv
  have HV : Hid (Rd w 4 (flat ocells ops) ops.length (.slice A0 ops.length cap0)) := Lib.hid ⟨_, _, rfl, hc1, hc2, hcells⟩
  have HSZ := Lib.hid hsz
  have HLV : Hid (∀ w1, Below w.heap.size w w1 → Calls Tryz.prog 10 #[] w1 fun e w' => e = .returned (.bool true) ∧ Below w1.heap.size w1 w') := Lib.hid (fun w1 h1 => storeLives_true w1 (he.below h1))
  have HRUN : Hid (∀ (l : List Story.Op) (u : Value) (w1 : World), Below w.heap.size w w1 → Rd w1 4 (flat ocells l) l.length u → (∀ o ∈ l, o.key.length ≤ 140737488355328 ∧ o.value.length ≤ 140737488355328) → Calls Tryz.prog 8 #[u] w1 (RunOut l w1)) := Lib.hid (fun l u w1 h1 h2 h3 => run_any l u w1 (he.below h1) h2 h3)
  have HOR : Hid (∀ s w1, Below w.heap.size w w1 → OriginC s w1) := Lib.hid (fun s w1 h1 => uorigin_any s w1 (he.below h1))
  have HOK : Hid (∀ (m n : Int) (w1 : World), Calls Tryz.prog 11 #[.slice (some ⟨w1.heap.size, 0, none⟩) 2 2] (w1.alloc (.cells #[.int .i64 m, .int .i64 n] 24)) fun e w' => e = .returned (.bool (decide (m = 0) && decide (n = 0))) ∧ Below w1.heap.size w1 w') := Lib.hid (fun m n w1 => (ok_any [m, n] w1.heap.size _ (Box.new w1 _ _) (by simp)).mono fun e w' ⟨h1, h2⟩ => ⟨by rw [h1]; simp, by rw [h2]; exact below1 w1 _⟩)
  have HRC := Lib.hid (HRUN.out ops (.slice A0 ops.length cap0) w (Below.refl _ _) HV.out hsz)
  obtain ⟨i0, hi0, hi1, hi2, hi3⟩ := info_parts parts_op
  obtain ⟨j0, hj0, hj1, hj2, hj3⟩ := info_parts ans_info
  obtain ⟨N, hN⟩ : ∃ N, ops.length = N := ⟨_, rfl⟩
  have HN := Lib.hid hN
  obtain ⟨LO, hLO⟩ : ∃ c, byt loc = c := ⟨_, rfl⟩
  have HLO := Lib.hid hLO
  have HOL : Hid (∀ w1, Below w.heap.size w w1 → Calls Tryz.prog 9 #[.string LO] w1 (WriteOut (Urly.originOf loc) w1)) := Lib.hid (fun w1 h1 => by rw [← hLO]; exact HOR.out loc w1 h1)
  rw [hN] at hc1 HRC
  rw [hN, hLO]
  clear hcells hsz hN he hLO
  go_enter Tryz.func3, Tryz.ntmps3
  go_wp2_with (fail)
  refine HRC.out.mono ?_
  rintro e w1 (⟨h, rfl, h1⟩ | ⟨h, A, v, h1, h2, rfl, h3, h4, h5⟩)
  · have HB1 : Hid (Below w.heap.size w w1) := Lib.hid h1
    clear h1 h HRC
    go_wp2_with (fail)
    refine (HOL.out _ HB1.out).mono ?_
    rintro e w2 ⟨rfl, hw2⟩
    have HB2 : Hid (Below w.heap.size w w2) := Lib.hid (HB1.out.trans (hw2.mono HB1.out.size))
    clear hw2
    cases ho : Urly.originOf loc with
    | error n =>
      clear ho
      dsimp only
      obtain ⟨m2, hm2⟩ : ∃ m2 : Int, (n : Int) = m2 := ⟨_, rfl⟩
      rw [hm2]
      clear hm2
      go_wp2_with (fail)
      refine (HLV.out _ HB2.out).mono ?_
      rintro e w3 ⟨rfl, hw3⟩
      have HB3 : Hid (Below w.heap.size w w3) := Lib.hid (HB2.out.trans (hw3.mono HB2.out.size))
      clear hw3
      go_wp2_with (fail)
      refine (HOK.out _ _ _).mono ?_
      rintro e w4 ⟨he4, hw4⟩
      obtain rfl : e = .returned (.bool false) := he4.trans (by simp)
      clear he4
      have HB4 : Hid (Below w.heap.size w w4) := Lib.hid (HB3.out.trans (hw4.mono HB3.out.size))
      clear hw4
      go_wp2_with (fail)
      refine (HLV.out _ HB4.out).mono ?_
      rintro e w5 ⟨rfl, hw5⟩
      have HB5 : Hid (Below w.heap.size w w5) := Lib.hid (HB4.out.trans (hw5.mono HB4.out.size))
      clear hw5
      go_wp2_with (fail)
      refine (HOK.out _ _ _).mono ?_
      rintro e w6 ⟨he6, hw6⟩
      obtain rfl : e = .returned (.bool false) := he6.trans (by simp)
      clear he6
      have HB6 : Hid (Below w.heap.size w w6) := Lib.hid (HB5.out.trans (hw6.mono HB5.out.size))
      clear hw6
      go_wp2
      go_ret
      exact ⟨rfl, HB6.out⟩
    | ok x =>
      clear ho
      dsimp only
      go_wp2_with (fail)
      refine (HLV.out _ HB2.out).mono ?_
      rintro e w3 ⟨rfl, hw3⟩
      have HB3 : Hid (Below w.heap.size w w3) := Lib.hid (HB2.out.trans (hw3.mono HB2.out.size))
      clear hw3
      go_wp2_with (fail)
      refine (HOK.out _ _ _).mono ?_
      rintro e w4 ⟨he4, hw4⟩
      obtain rfl : e = .returned (.bool false) := he4.trans (by simp)
      clear he4
      have HB4 : Hid (Below w.heap.size w w4) := Lib.hid (HB3.out.trans (hw4.mono HB3.out.size))
      clear hw4
      go_wp2_with (fail)
      refine (HLV.out _ HB4.out).mono ?_
      rintro e w5 ⟨rfl, hw5⟩
      have HB5 : Hid (Below w.heap.size w w5) := Lib.hid (HB4.out.trans (hw5.mono HB4.out.size))
      clear hw5
      go_wp2_with (fail)
      refine (HOK.out _ _ _).mono ?_
      rintro e w6 ⟨he6, hw6⟩
      obtain rfl : e = .returned (.bool false) := he6.trans (by simp)
      clear he6
      have HB6 : Hid (Below w.heap.size w w6) := Lib.hid (HB5.out.trans (hw6.mono HB5.out.size))
      clear hw6
      go_wp2
      go_ret
      exact ⟨rfl, HB6.out⟩
  have HB1 : Hid (Below w.heap.size w w1) := Lib.hid h5
  have hAl : A.length = N := h2.trans HN.out
  have HH1 := Lib.hid h1
  have HH3 := Lib.hid h3
  have HH4 := Lib.hid h4
  have HAL := Lib.hid hAl
  have hNle : N ≤ 100 := by have := HN.out; omega
  have HRV : Hid (Rd w1 4 (flat ac A) A.length v) := Lib.hid (Rd.own h3)
  obtain ⟨Av, cv, rfl⟩ := own_slice h3
  clear h1 h2 h3 h4 h5 h HRC
  go_wp2_with (fail)
  refine (HOL.out _ HB1.out).mono ?_
  rintro e w2 ⟨rfl, hw2⟩
  have HB2 : Hid (Below w.heap.size w w2) := Lib.hid (HB1.out.trans (hw2.mono HB1.out.size))
  have HB12 := Lib.hid hw2
  clear hw2
  cases ho : Urly.originOf loc with
  | error n =>
    have hn0 := ori_no0 ho
    clear ho
    dsimp only
    obtain ⟨m2, hm2⟩ : ∃ m2 : Int, (n : Int) = m2 := ⟨_, rfl⟩
    have hm0 : m2 ≠ 0 := by omega
    rw [hm2]
    have HM0 := Lib.hid hm0
    clear hm2 hn0 hm0
    go_wp2_with (fail)
    refine (HLV.out _ HB2.out).mono ?_
    rintro e w3 ⟨rfl, hw3⟩
    have HB3 : Hid (Below w.heap.size w w3) := Lib.hid (HB2.out.trans (hw3.mono HB2.out.size))
    clear hw3
    go_wp2_with (fail)
    refine (HOK.out _ _ _).mono ?_
    rintro e w4 ⟨he4, hw4⟩
    obtain rfl : e = .returned (.bool false) := he4.trans (by simp [HM0.out])
    clear he4
    have HB4 : Hid (Below w.heap.size w w4) := Lib.hid (HB3.out.trans (hw4.mono HB3.out.size))
    clear hw4
    go_wp2_with (fail)
    refine (HLV.out _ HB4.out).mono ?_
    rintro e w5 ⟨rfl, hw5⟩
    have HB5 : Hid (Below w.heap.size w w5) := Lib.hid (HB4.out.trans (hw5.mono HB4.out.size))
    clear hw5
    go_wp2_with (fail)
    refine (HOK.out _ _ _).mono ?_
    rintro e w6 ⟨he6, hw6⟩
    obtain rfl : e = .returned (.bool false) := he6.trans (by simp [HM0.out])
    clear he6
    have HB6 : Hid (Below w.heap.size w w6) := Lib.hid (HB5.out.trans (hw6.mono HB5.out.size))
    clear hw6
    go_wp2
    go_ret
    exact ⟨rfl, HB6.out⟩
  | ok x =>
    have HO := Lib.hid ho
    clear ho HOL
    dsimp only
    go_wp2_with (fail)
    refine (HLV.out _ HB2.out).mono ?_
    rintro e w3 ⟨rfl, hw3⟩
    have HB3 : Hid (Below w.heap.size w w3) := Lib.hid (HB2.out.trans (hw3.mono HB2.out.size))
    have HB13 : Hid (Below w1.heap.size w1 w3) := Lib.hid (HB12.out.trans (hw3.mono HB12.out.size))
    clear hw3
    go_wp2_with (fail)
    refine (HOK.out _ _ _).mono ?_
    rintro e w4 ⟨he4, hw4⟩
    obtain rfl : e = .returned (.bool true) := he4.trans (by simp)
    have HB4 : Hid (Below w.heap.size w w4) := Lib.hid (HB3.out.trans (hw4.mono HB3.out.size))
    have HB14 : Hid (Below w1.heap.size w1 w4) := Lib.hid (HB13.out.trans (hw4.mono HB13.out.size))
    have HRV4 : Hid (Rd w4 4 (flat ac A) A.length (.slice Av A.length cv)) := Lib.hid (HRV.out.below HB14.out)
    have HV4 : Hid (Rd w4 4 (flat ocells ops) N (.slice A0 N cap0)) := Lib.hid (by have h6 := HV.out.below HB4.out; rw [HN.out] at h6; exact h6)
    obtain ⟨X, hX⟩ : ∃ X, byt x = X := ⟨_, rfl⟩
    rw [hX]
    have HX := Lib.hid hX
    clear he4 hw4 hX HRV HV HB3 HB13 HLV HOK
    rw [HAL.out] at HRV4
    go_upto_region 8 with (fail)
    go_loopg [9, 10, 11, 12, 13, 14, 53] (N - 0) (fun gg s9 s10 _ _ _ _ s53 wr => ∃ k : Nat, k ≤ N ∧ gg = N - k ∧ s53 = .int .i64 (k : Int) ∧ wr.ownsRow w4.heap.size 32 4 s9 ((ops.take k).filter (Story.mine x)).length (flat ocells ((ops.take k).filter (Story.mine x))) ∧ wr.ownsRow w4.heap.size 35 4 s10 (Story.pick x (ops.take k) (A.take k)).length (flat ac (Story.pick x (ops.take k) (A.take k))) ∧ Below w4.heap.size w4 wr)
    case atStart => exact ⟨0, by omega, rfl, rfl, ⟨rfl, .inl ⟨rfl, rfl⟩⟩, ⟨rfl, .inl ⟨rfl, rfl⟩⟩, Below.refl _ _⟩
    case round =>
      obtain ⟨k, hk, hg, rfl, hown, hwant, hbw⟩ := hrel
      have HG := Lib.hid hg
      have HOW := Lib.hid hown
      have HWA := Lib.hid hwant
      have HBW := Lib.hid hbw
      obtain ⟨A9, c9, rfl⟩ := own_slice hown
      obtain ⟨A10, c10, rfl⟩ := own_slice hwant
      have hzr := hbw.size
      have hl9 : ((ops.take k).filter (Story.mine x)).length ≤ N := by have := List.length_filter_le (Story.mine x) (ops.take k); rw [List.length_take] at this; omega
      have hl10 := Story.pick_len x (ops.take k) (A.take k)
      rw [List.length_take] at hl10
      obtain ⟨n9, hn9⟩ : ∃ n, ((ops.take k).filter (Story.mine x)).length = n := ⟨_, rfl⟩
      obtain ⟨n10, hn10⟩ : ∃ n, (Story.pick x (ops.take k) (A.take k)).length = n := ⟨_, rfl⟩
      rw [hn9] at hl9 HOW ⊢
      rw [hn10] at hl10 HWA ⊢
      have HN9 := Lib.hid hn9
      have HN10 := Lib.hid hn10
      clear hg hown hwant hbw hn9 hn10
      by_cases hlt : k < N
      · have l1 : decide ((k : Int) < (N : Int)) = true := decide_eq_true (by omega)
        have l2 : (k : Int) < (N : Int) := by omega
        obtain ⟨op, hop⟩ : ∃ op, ops[k]? = some op := ⟨_, List.getElem?_eq_getElem (by rw [HN.out]; exact hlt)⟩
        obtain ⟨an, han⟩ : ∃ an, A[k]? = some an := ⟨_, List.getElem?_eq_getElem (by rw [HAL.out]; exact hlt)⟩
        obtain ⟨gO, oO, rfl, hgO, hrO⟩ : ∃ gO oO, A0 = some ⟨gO, oO, none⟩ ∧ gO < w4.heap.size ∧ w4.rangeAt gO (oO + k * 4) (ocells op).toList := by
          obtain ⟨Y, c', e1, _, _, h3⟩ := HV4.out
          obtain ⟨g', o', e2, h4, h5⟩ := h3 (by omega)
          injection e1 with e1 _ _
          exact ⟨g', o', e1.trans e2, h4, RdL.elem (f := ocells) (fun _ => rfl) h5 hop⟩
        obtain ⟨gA, oA, rfl, hgA, hrA⟩ : ∃ gO oO, Av = some ⟨gO, oO, none⟩ ∧ gO < w4.heap.size ∧ w4.rangeAt gO (oO + k * 4) (ac an).toList := by
          obtain ⟨Y, c', e1, _, _, h3⟩ := HRV4.out
          obtain ⟨g', o', e2, h4, h5⟩ := h3 (by omega)
          injection e1 with e1 _ _
          exact ⟨g', o', e1.trans e2, h4, RdL.elem (f := ac) (fun _ => rfl) h5 han⟩
        have hrange : Hid (wr.rangeAt gO (oO + k * 4) (ocells op).toList) := fun i u hu => by
          rw [HBW.out.cell (p := ⟨gO, oO + k * 4 + i, none⟩) hgO]; exact hrO i u hu
        have HOP := Lib.hid hop
        have HAN := Lib.hid han
        have HRA := Lib.hid hrA
        have HGA := Lib.hid hgA
        have hone := op_one op
        have hoi : (Tryz.prog.info? 32).map (·.size) = some (ocells op).size := info_op
        have hois : (4 : Nat) = (ocells op).size := rfl
        have k1 : (ocells op)[1]? = some (.string (byt op.loc)) := rfl
        obtain ⟨oc, hoc⟩ : ∃ oc, ocells op = oc := ⟨_, rfl⟩
        rw [hoc] at hrange hone hoi hois k1
        have HOC := Lib.hid hoc
        have HOI := Lib.hid hoi
        have HOZ := Lib.hid hois
        have HK1 := Lib.hid k1
        have hoil : (Tryz.prog.info? 32).map (·.size) = some oc.toList.length := by rw [Array.length_toList]; exact hoi
        clear hop han hrO hrA hgO hgA hoc hois k1
        go_upto_region 10 with (first | (refine wpList_load_mid rfl 32 (.tmp 56) rfl gO (oO + k * 4) rfl oc.toList _ hrange.out Tryz.underlying32 rfl hoil ?_) | (refine wpList_store_box rfl 32 (.tmp 12) (.tmp 57) rfl wr.heap.size oc rfl rfl 32 _ (Box.new wr _ _) hoi (by rw [← HOZ.out]; rfl) hone ?_; intro w7 hx7 hu7 hz7; have HZ7 := Lib.hid hz7; clear hz7))
        have hb7 : Below wr.heap.size wr w7 := ((Below.refl _ wr).alloc (Nat.le_refl _) _).trans (hu7.own (Nat.le_refl _) (by simp))
        have HX7 := Lib.hid hx7
        have HB47 : Hid (Below w4.heap.size w4 w7) := Lib.hid (HBW.out.trans (hb7.mono hzr))
        have HOW7 := Lib.hid (own_below HOW.out hb7)
        have HWA7 := Lib.hid (own_below HWA.out hb7)
        have HL9 := Lib.hid HOW.out.lt
        have HL10 := Lib.hid HWA.out.lt
        have c1 : w7.cell? ⟨wr.heap.size, 1, none⟩ = some (.string (byt op.loc)) := (hx7.cell 1).trans HK1.out
        have HOO := Lib.hid (HOR.out op.loc w7 (HB4.out.trans (HB47.out.mono HB4.out.size)))
        obtain ⟨LP, hLP⟩ : ∃ S, byt op.loc = S := ⟨_, rfl⟩
        unfold OriginC at HOO
        rw [hLP] at c1 HOO
        clear hb7 hu7 hx7 hrange hLP hoil HZ7 HOW HWA
        go_wp2_with (fail)
        refine HOO.out.mono ?_
        rintro e w8 ⟨rfl, hw8⟩
        have HX8 := Lib.hid (HX7.out.below hw8 HX7.out.lt)
        have HB48 : Hid (Below w4.heap.size w4 w8) := Lib.hid (HB47.out.trans (hw8.mono HB47.out.size))
        have HOW8 := Lib.hid (own_below HOW7.out hw8)
        have HWA8 := Lib.hid (own_below HWA7.out hw8)
        clear hw8 HX7 HB47 HOW7 HWA7 HOO c1
        have HNXT : Hid (Story.mine x op = false → (ops.take (k + 1)).filter (Story.mine x) = (ops.take k).filter (Story.mine x) ∧ Story.pick x (ops.take (k + 1)) (A.take (k + 1)) = Story.pick x (ops.take k) (A.take k)) := Lib.hid (fun h => by
          rw [Story.filter_take x ops k op HOP.out, Story.pick_take x ops A k op an HOP.out HAN.out, h]; simp)
        cases hor : Urly.originOf op.loc with
        | error en =>
          have hn0 := ori_no0 hor
          have HM : Hid (Story.mine x op = false) := Lib.hid (by unfold Story.mine; rw [hor])
          obtain ⟨m, hm⟩ : ∃ m : Int, (en : Int) = m := ⟨_, rfl⟩
          have hm0 : (m == 0) = false := beq_no (by omega)
          dsimp only
          rw [hm]
          clear hor hn0 hm
          go_wp2
          go_roundg (N - (k + 1))
          case measure => rw [HG.out]; omega
          case rel =>
            obtain ⟨q1, q2⟩ := HNXT.out HM.out
            refine ⟨k + 1, by omega, rfl, by go_num, ?_, ?_, HB48.out⟩
            · rw [q1, HN9.out]; exact HOW8.out
            · rw [q2, HN10.out]; exact HWA8.out
        | ok y =>
          obtain ⟨Y, hY⟩ : ∃ Y, byt y = Y := ⟨_, rfl⟩
          dsimp only
          rw [hY]
          by_cases hxy : y = x
          · have HM : Hid (Story.mine x op = true) := Lib.hid (by unfold Story.mine; rw [hor]; exact decide_eq_true hxy)
            have hyx : Y = X := by rw [← hY, ← HX.out, hxy]
            subst hyx
            have q2 : (Y.toList == Y.toList) = true := by simp
            have HNX1 : Hid (Story.mine x op = true → (ops.take (k + 1)).filter (Story.mine x) = (ops.take k).filter (Story.mine x) ++ [op] ∧ Story.pick x (ops.take (k + 1)) (A.take (k + 1)) = Story.pick x (ops.take k) (A.take k) ++ [an]) := Lib.hid (fun h => by
              rw [Story.filter_take x ops k op HOP.out, Story.pick_take x ops A k op an HOP.out HAN.out, h]; simp)
            have HKB : Hid (∀ wa wb : World, (Below w4.heap.size w4 wa ∧ Box wa wr.heap.size 32 #[.int .i64 op.kind, .string (byt op.loc), .string (byt op.key), .string (byt op.value)] ∧ wa.rangeAt gA (oA + k * 4) (ac an).toList) → Below w4.heap.size wa wb → wb.heap[wr.heap.size]? = wa.heap[wr.heap.size]? → (Below w4.heap.size w4 wb ∧ Box wb wr.heap.size 32 #[.int .i64 op.kind, .string (byt op.loc), .string (byt op.key), .string (byt op.value)] ∧ wb.rangeAt gA (oA + k * 4) (ac an).toList)) := Lib.hid (fun wa wb h h1 h2 => ⟨h.1.trans h1, h2.trans h.2.1, fun i u hu => by rw [h1.cell (p := ⟨gA, oA + k * 4 + i, none⟩) HGA.out]; exact h.2.2 i u hu⟩)
            have HONA : Hid (∀ u ∈ ([.int .i64 (an.1.err : Int), .string (byt an.1.text), .bool an.1.is, an.2] : List Value), u.oneCell' = true) := Lib.hid (fun u hu => by simp only [List.mem_cons, List.not_mem_nil, or_false] at hu; rcases hu with rfl | rfl | rfl | rfl <;> first | rfl | exact own_one (HH4.out an (List.mem_of_getElem? HAN.out)))
            have HONE : Hid (∀ u ∈ ([.int .i64 op.kind, .string (byt op.loc), .string (byt op.key), .string (byt op.value)] : List Value), u.oneCell' = true) := Lib.hid (by simp [Value.oneCell'])
            have HX9 : Hid (Box w8 wr.heap.size 32 #[.int .i64 op.kind, .string (byt op.loc), .string (byt op.key), .string (byt op.value)]) := Lib.hid (by have h9 := HX8.out; rw [← HOC.out] at h9; exact h9)
            clear hor hY hxy
            go_upto_region 12 with (fail)
            refine wp_region_held_drew (S := fun w' => Below w4.heap.size w4 w' ∧ Box w' wr.heap.size 32 #[.int .i64 op.kind, .string (byt op.loc), .string (byt op.key), .string (byt op.value)] ∧ w'.rangeAt gA (oA + k * 4) (ac an).toList) (by kernel_rfl) ⟨HB48.out.drew, HX9.out.drew, fun i u hu => by rw [HB48.out.drew.cell (p := ⟨gA, oA + k * 4 + i, none⟩) HGA.out]; exact HRA.out i u hu⟩ (fun hHeld => ?_)
            refine wpAnyH_take (i := 0) (v := ?_) rfl (by kernel_rfl) (by kernel_rfl) (by kernel_rfl) (fun _ _ _ h => h) (Or.inl ⟨by kernel_rfl, ?_⟩) (by assumption) ?_
            rotate_left
            · intro w hSw
              (try dsimp only at hSw)
              go_simp
              try (with_reducible rfl)
            (try simp only [Act.put, List.getElem_toArray, List.getElem_cons_zero, List.setIfInBounds_toArray, List.set_cons_zero, List.set_cons_succ])
            refine wpAnyH_take (i := 1) (v := _) rfl (by kernel_rfl) (by kernel_rfl) (by kernel_rfl) (fun _ _ _ h => h) (yields_load_box (by kernel_rfl) 32 (.tmp 12) rfl (wr.heap.size) 32 (#[.int .i64 op.kind, .string (byt op.loc), .string (byt op.key), .string (byt op.value)]) _ rfl (fun _ h => h.2.1) Tryz.underlying32 rfl info_op) (by assumption) ?_
            (try simp only [Act.put, List.getElem_toArray, List.getElem_cons_succ, List.getElem_cons_zero, List.setIfInBounds_toArray, List.set_cons_zero, List.set_cons_succ])
            refine wpAnyH_take (i := 4) (v := ?_) rfl (by kernel_rfl) (by kernel_rfl) (by kernel_rfl) (fun _ _ _ h => h) (Or.inl ⟨by kernel_rfl, ?_⟩) (by assumption) ?_
            rotate_left
            · intro w hSw
              (try dsimp only at hSw)
              go_simp
              try (with_reducible rfl)
            (try simp only [Act.put, List.getElem_toArray, List.getElem_cons_succ, List.getElem_cons_zero, List.setIfInBounds_toArray, List.set_cons_zero, List.set_cons_succ])
            refine wpAnyH_take (i := 5) (v := ?_) rfl (by kernel_rfl) (by kernel_rfl) (by kernel_rfl) (fun _ _ _ h => h) (Or.inl ⟨by kernel_rfl, ?_⟩) (by assumption) ?_
            rotate_left
            · intro w hSw
              (try dsimp only at hSw)
              go_simp
              try (with_reducible rfl)
            (try simp only [Act.put, List.getElem_toArray, List.getElem_cons_succ, List.getElem_cons_zero, List.setIfInBounds_toArray, List.set_cons_zero, List.set_cons_succ])
            refine wpAnyH_take (i := 6) (v := ?_) rfl (by kernel_rfl) (by kernel_rfl) (by kernel_rfl) (fun _ _ _ h => h) (Or.inl ⟨by kernel_rfl, ?_⟩) (by assumption) ?_
            rotate_left
            · intro w hSw
              (try dsimp only at hSw)
              go_simp
              try (with_reducible rfl)
            (try simp only [Act.put, List.getElem_toArray, List.getElem_cons_succ, List.getElem_cons_zero, List.setIfInBounds_toArray, List.set_cons_zero, List.set_cons_succ])
            refine wpAnyH_take (i := 7) (v := ?_) rfl (by kernel_rfl) (by kernel_rfl) (by kernel_rfl) (fun _ _ _ h => h) (Or.inl ⟨by kernel_rfl, ?_⟩) (by assumption) ?_
            rotate_left
            · intro w hSw
              (try dsimp only at hSw)
              go_simp
              try (with_reducible rfl)
            (try simp only [Act.put, List.getElem_toArray, List.getElem_cons_succ, List.getElem_cons_zero, List.setIfInBounds_toArray, List.set_cons_zero, List.set_cons_succ])
            refine wpAnyH_take (i := 8) (v := _) rfl (by kernel_rfl) (by kernel_rfl) (by kernel_rfl) (fun _ _ _ h => h) (yieldsIf_load_mid (by kernel_rfl) 35 (.tmp 78) rfl (gA) (oA + k * 4) rfl ([.int .i64 (an.1.err : Int), .string (byt an.1.text), .bool an.1.is, an.2]) _ (fun _ h => h.2.2) Tryz.underlying35 rfl info_ans) (by assumption) ?_
            (try simp only [Act.put, List.getElem_toArray, List.getElem_cons_succ, List.getElem_cons_zero, List.setIfInBounds_toArray, List.set_cons_zero, List.set_cons_succ])
            obtain ⟨ua, hua⟩ : ∃ ua, w8.drew = ua := ⟨_, rfl⟩
            have hbd : Below w8.heap.size w8 ua := hua ▸ (Below.refl _ w8).drew
            rw [hua] at hHeld
            (try rw [hua])
            clear hua
            have zua : w4.heap.size ≤ ua.heap.size := Nat.le_trans HB48.out.size hbd.size
            have xua : wr.heap.size < ua.heap.size := hHeld.2.1.lt
            have r9ua := Lib.hid (own_below HOW8.out hbd)
            have r10ua := Lib.hid (own_below HWA8.out hbd)
            refine wpAnyH_ready (rs := [2, 9]) (by kernel_rfl) (by simp) ?_
            refine AllReadyH.cons rfl (fun K hK => ?_) (AllReadyH.cons rfl (fun K hK => ?_) AllReadyH.nil)
            · go_simp
              have bx2 := Box.new ua 32 #[.int .i64 op.kind, .string (byt op.loc), .string (byt op.key), .string (byt op.value)]
              have hb0 : Below ua.heap.size ua (ua.alloc (.cells #[.int .i64 op.kind, .string (byt op.loc), .string (byt op.key), .string (byt op.value)] 32)) := below1 ua _
              obtain ⟨u0, hu0⟩ : ∃ u0, (ua.alloc (.cells #[.int .i64 op.kind, .string (byt op.loc), .string (byt op.key), .string (byt op.value)] 32)) = u0 := ⟨_, rfl⟩
              rw [hu0] at bx2 hb0
              rw [hu0]
              clear hu0
              refine hK.out _ _ (HKB.out _ _ hHeld (hb0.mono zua) (hb0.block wr.heap.size hHeld.2.1.lt)) (fun hHeld => ?_)
              clear hK K
              (try simp only [Act.put, List.getElem_toArray, List.getElem_cons_succ, List.getElem_cons_zero, List.setIfInBounds_toArray, List.set_cons_zero, List.set_cons_succ])
              have zu0 : w4.heap.size ≤ u0.heap.size := Nat.le_trans zua hb0.size
              have yu0 : wr.heap.size ≤ ua.heap.size := Nat.le_of_lt xua
              have xu0 : wr.heap.size < u0.heap.size := Nat.lt_of_lt_of_le xua hb0.size
              have r9u0 := Lib.hid (own_below r9ua.out hb0)
              have r10u0 := Lib.hid (own_below r10ua.out hb0)
              refine wpAnyH_ready (rs := [3, 9]) (by kernel_rfl) (by simp) ?_
              refine AllReadyH.cons rfl (fun K hK => ?_) (AllReadyH.cons rfl (fun K hK => ?_) AllReadyH.nil)
              · refine step_append_lies _ rfl (.tmp 71) (.tmp 73) 22 rfl w4.heap.size 32 i0 _ 4 56 Tryz.underlying22 hi0 hi1 hi2 hi3 rfl (by decide) (.slice A9 n9 c9) n9 (flat ocells ((ops.take k).filter (Story.mine x))) (by simp [Act.eval, Act.put]) r9u0.out ⟨ua.heap.size, 0, none⟩ 1 1 [.int .i64 op.kind, .string (byt op.loc), .string (byt op.key), .string (byt op.value)] (by simp [Act.eval, Act.put]) rfl (by exact World.news_of_block bx2) (HONE.out) (by omega) (by unfold maxLen; omega) (by omega) zu0 u0.heap.size rfl ?_
                intro g3 cap3 u1 hown3 hgr3 hor3 hlt3
                have hb1 : Below w4.heap.size u0 u1 := below_grown hgr3 zu0 (fun j hj => (HL9.out j hj).1)
                refine hK.out _ _ (HKB.out _ _ hHeld hb1 (hgr3.block wr.heap.size hHeld.2.1.lt (fun ee => by have := (HL9.out _ ee.symm).2; omega))) (fun hHeld => ?_)
                clear hK K
                (try simp only [Act.put, List.getElem_toArray, List.getElem_cons_succ, List.getElem_cons_zero, List.setIfInBounds_toArray, List.set_cons_zero, List.set_cons_succ])
                have zu1 : w4.heap.size ≤ u1.heap.size := Nat.le_trans zu0 hb1.size
                have xu1 : wr.heap.size < u1.heap.size := Nat.lt_of_lt_of_le xu0 hb1.size
                have r9u1 := Lib.hid hown3
                have r10u1 := Lib.hid (own_grown r10u0.out hgr3 (own_own_ne r10u0.out r9u0.out (by decide)).ne)
                clear hor3 hlt3
                clear hgr3 hown3
                refine wpAnyH_ready (rs := [9]) (by kernel_rfl) (by simp) ?_
                refine AllReadyH.cons rfl (fun K hK => ?_) AllReadyH.nil
                go_simp
                have bx9 := Box.new u1 35 #[.int .i64 (an.1.err : Int), .string (byt an.1.text), .bool an.1.is, an.2]
                have hb2 : Below u1.heap.size u1 (u1.alloc (.cells #[.int .i64 (an.1.err : Int), .string (byt an.1.text), .bool an.1.is, an.2] 35)) := below1 u1 _
                obtain ⟨u2, hu2⟩ : ∃ u2, (u1.alloc (.cells #[.int .i64 (an.1.err : Int), .string (byt an.1.text), .bool an.1.is, an.2] 35)) = u2 := ⟨_, rfl⟩
                rw [hu2] at bx9 hb2
                rw [hu2]
                clear hu2
                refine hK.out _ _ (HKB.out _ _ hHeld (hb2.mono zu1) (hb2.block wr.heap.size hHeld.2.1.lt)) (fun hHeld => ?_)
                clear hK K
                (try simp only [Act.put, List.getElem_toArray, List.getElem_cons_succ, List.getElem_cons_zero, List.setIfInBounds_toArray, List.set_cons_zero, List.set_cons_succ])
                have zu2 : w4.heap.size ≤ u2.heap.size := Nat.le_trans zu1 hb2.size
                have yu2 : wr.heap.size ≤ u1.heap.size := Nat.le_of_lt xu1
                have xu2 : wr.heap.size < u2.heap.size := Nat.lt_of_lt_of_le xu1 hb2.size
                have r9u2 := Lib.hid (own_below r9u1.out hb2)
                have r10u2 := Lib.hid (own_below r10u1.out hb2)
                refine wpAnyH_ready (rs := [10]) (by kernel_rfl) (by simp) ?_
                refine AllReadyH.cons rfl (fun K hK => ?_) AllReadyH.nil
                refine step_append_lies _ rfl (.tmp 75) (.tmp 80) 23 rfl w4.heap.size 35 j0 _ 4 56 Tryz.underlying23 hj0 hj1 hj2 hj3 rfl (by decide) (.slice A10 n10 c10) n10 (flat ac (Story.pick x (ops.take k) (A.take k))) (by simp [Act.eval, Act.put]) r10u2.out ⟨u1.heap.size, 0, none⟩ 1 1 [.int .i64 (an.1.err : Int), .string (byt an.1.text), .bool an.1.is, an.2] (by simp [Act.eval, Act.put]) rfl (by exact World.news_of_block bx9) (HONA.out) (by omega) (by unfold maxLen; omega) (by omega) zu2 u2.heap.size rfl ?_
                intro g10 cap10 u3 hown10 hgr10 hor10 hlt10
                have hb3 : Below w4.heap.size u2 u3 := below_grown hgr10 zu2 (fun j hj => (HL10.out j hj).1)
                refine hK.out _ _ (HKB.out _ _ hHeld hb3 (hgr10.block wr.heap.size hHeld.2.1.lt (fun ee => by have := (HL10.out _ ee.symm).2; omega))) (fun hHeld => ?_)
                clear hK K
                (try simp only [Act.put, List.getElem_toArray, List.getElem_cons_succ, List.getElem_cons_zero, List.setIfInBounds_toArray, List.set_cons_zero, List.set_cons_succ])
                have zu3 : w4.heap.size ≤ u3.heap.size := Nat.le_trans zu2 hb3.size
                have xu3 : wr.heap.size < u3.heap.size := Nat.lt_of_lt_of_le xu2 hb3.size
                have r10u3 := Lib.hid hown10
                have r9u3 := Lib.hid (own_grown r9u2.out hgr10 (own_own_ne r9u2.out r10u2.out (by decide)).ne)
                clear hor10 hlt10
                clear hgr10 hown10
                refine wpAnyH_take (i := 11) (v := ?_) rfl (by kernel_rfl) (by kernel_rfl) (by kernel_rfl) (fun _ _ _ h => h) (Or.inl ⟨by kernel_rfl, ?_⟩) (by assumption) ?_
                rotate_left
                · intro w hSw
                  (try dsimp only at hSw)
                  go_simp
                  try (with_reducible rfl)
                (try simp only [Act.put, List.getElem_toArray, List.getElem_cons_succ, List.getElem_cons_zero, List.setIfInBounds_toArray, List.set_cons_zero, List.set_cons_succ])
                refine wpAnyH_take (i := 12) (v := ?_) rfl (by kernel_rfl) (by kernel_rfl) (by kernel_rfl) (fun _ _ _ h => h) (Or.inl ⟨by kernel_rfl, ?_⟩) (by assumption) ?_
                rotate_left
                · intro w hSw
                  (try dsimp only at hSw)
                  go_simp
                  try (with_reducible rfl)
                (try simp only [Act.put, List.getElem_toArray, List.getElem_cons_succ, List.getElem_cons_zero, List.setIfInBounds_toArray, List.set_cons_zero, List.set_cons_succ])
                refine wpAnyH_done (by kernel_rfl) ?_ _
                go_wp2
                go_roundg (N - (k + 1))
                case measure => rw [HG.out]; omega
                case rel =>
                  obtain ⟨q1, q2⟩ := HNX1.out HM.out
                  refine ⟨k + 1, by omega, rfl, by go_num, ?_, ?_, hHeld.1⟩
                  · rw [q1, List.length_append, HN9.out, flat_append, flat_sing]; exact r9u3.out
                  · rw [q2, List.length_append, HN10.out, flat_append, flat_sing]; exact r10u3.out
              · go_simp
                have bx9 := Box.new u0 35 #[.int .i64 (an.1.err : Int), .string (byt an.1.text), .bool an.1.is, an.2]
                have hb1 : Below u0.heap.size u0 (u0.alloc (.cells #[.int .i64 (an.1.err : Int), .string (byt an.1.text), .bool an.1.is, an.2] 35)) := below1 u0 _
                obtain ⟨u1, hu1⟩ : ∃ u1, (u0.alloc (.cells #[.int .i64 (an.1.err : Int), .string (byt an.1.text), .bool an.1.is, an.2] 35)) = u1 := ⟨_, rfl⟩
                rw [hu1] at bx9 hb1
                rw [hu1]
                clear hu1
                refine hK.out _ _ (HKB.out _ _ hHeld (hb1.mono zu0) (hb1.block wr.heap.size hHeld.2.1.lt)) (fun hHeld => ?_)
                clear hK K
                (try simp only [Act.put, List.getElem_toArray, List.getElem_cons_succ, List.getElem_cons_zero, List.setIfInBounds_toArray, List.set_cons_zero, List.set_cons_succ])
                have zu1 : w4.heap.size ≤ u1.heap.size := Nat.le_trans zu0 hb1.size
                have yu1 : wr.heap.size ≤ u0.heap.size := Nat.le_of_lt xu0
                have xu1 : wr.heap.size < u1.heap.size := Nat.lt_of_lt_of_le xu0 hb1.size
                have r9u1 := Lib.hid (own_below r9u0.out hb1)
                have r10u1 := Lib.hid (own_below r10u0.out hb1)
                have bx2u1 := bx2.below hb1 bx2.lt
                refine wpAnyH_ready (rs := [3]) (by kernel_rfl) (by simp) ?_
                refine AllReadyH.cons rfl (fun K hK => ?_) AllReadyH.nil
                refine step_append_lies _ rfl (.tmp 71) (.tmp 73) 22 rfl w4.heap.size 32 i0 _ 4 56 Tryz.underlying22 hi0 hi1 hi2 hi3 rfl (by decide) (.slice A9 n9 c9) n9 (flat ocells ((ops.take k).filter (Story.mine x))) (by simp [Act.eval, Act.put]) r9u1.out ⟨ua.heap.size, 0, none⟩ 1 1 [.int .i64 op.kind, .string (byt op.loc), .string (byt op.key), .string (byt op.value)] (by simp [Act.eval, Act.put]) rfl (by exact World.news_of_block bx2u1) (HONE.out) (by omega) (by unfold maxLen; omega) (by omega) zu1 u1.heap.size rfl ?_
                intro g3 cap3 u2 hown3 hgr3 hor3 hlt3
                have hb2 : Below w4.heap.size u1 u2 := below_grown hgr3 zu1 (fun j hj => (HL9.out j hj).1)
                refine hK.out _ _ (HKB.out _ _ hHeld hb2 (hgr3.block wr.heap.size hHeld.2.1.lt (fun ee => by have := (HL9.out _ ee.symm).2; omega))) (fun hHeld => ?_)
                clear hK K
                (try simp only [Act.put, List.getElem_toArray, List.getElem_cons_succ, List.getElem_cons_zero, List.setIfInBounds_toArray, List.set_cons_zero, List.set_cons_succ])
                have zu2 : w4.heap.size ≤ u2.heap.size := Nat.le_trans zu1 hb2.size
                have xu2 : wr.heap.size < u2.heap.size := Nat.lt_of_lt_of_le xu1 hb2.size
                have r9u2 := Lib.hid hown3
                have r10u2 := Lib.hid (own_grown r10u1.out hgr3 (own_own_ne r10u1.out r9u1.out (by decide)).ne)
                clear hor3 hlt3
                have bx9u2 := (hgr3.block u0.heap.size bx9.lt (fun ee => by have := (HL9.out _ ee.symm).2; have := yu1; omega)).trans bx9
                clear hgr3 hown3
                refine wpAnyH_ready (rs := [10]) (by kernel_rfl) (by simp) ?_
                refine AllReadyH.cons rfl (fun K hK => ?_) AllReadyH.nil
                refine step_append_lies _ rfl (.tmp 75) (.tmp 80) 23 rfl w4.heap.size 35 j0 _ 4 56 Tryz.underlying23 hj0 hj1 hj2 hj3 rfl (by decide) (.slice A10 n10 c10) n10 (flat ac (Story.pick x (ops.take k) (A.take k))) (by simp [Act.eval, Act.put]) r10u2.out ⟨u0.heap.size, 0, none⟩ 1 1 [.int .i64 (an.1.err : Int), .string (byt an.1.text), .bool an.1.is, an.2] (by simp [Act.eval, Act.put]) rfl (by exact World.news_of_block bx9u2) (HONA.out) (by omega) (by unfold maxLen; omega) (by omega) zu2 u2.heap.size rfl ?_
                intro g10 cap10 u3 hown10 hgr10 hor10 hlt10
                have hb3 : Below w4.heap.size u2 u3 := below_grown hgr10 zu2 (fun j hj => (HL10.out j hj).1)
                refine hK.out _ _ (HKB.out _ _ hHeld hb3 (hgr10.block wr.heap.size hHeld.2.1.lt (fun ee => by have := (HL10.out _ ee.symm).2; omega))) (fun hHeld => ?_)
                clear hK K
                (try simp only [Act.put, List.getElem_toArray, List.getElem_cons_succ, List.getElem_cons_zero, List.setIfInBounds_toArray, List.set_cons_zero, List.set_cons_succ])
                have zu3 : w4.heap.size ≤ u3.heap.size := Nat.le_trans zu2 hb3.size
                have xu3 : wr.heap.size < u3.heap.size := Nat.lt_of_lt_of_le xu2 hb3.size
                have r10u3 := Lib.hid hown10
                have r9u3 := Lib.hid (own_grown r9u2.out hgr10 (own_own_ne r9u2.out r10u2.out (by decide)).ne)
                clear hor10 hlt10
                clear hgr10 hown10
                refine wpAnyH_take (i := 11) (v := ?_) rfl (by kernel_rfl) (by kernel_rfl) (by kernel_rfl) (fun _ _ _ h => h) (Or.inl ⟨by kernel_rfl, ?_⟩) (by assumption) ?_
                rotate_left
                · intro w hSw
                  (try dsimp only at hSw)
                  go_simp
                  try (with_reducible rfl)
                (try simp only [Act.put, List.getElem_toArray, List.getElem_cons_succ, List.getElem_cons_zero, List.setIfInBounds_toArray, List.set_cons_zero, List.set_cons_succ])
                refine wpAnyH_take (i := 12) (v := ?_) rfl (by kernel_rfl) (by kernel_rfl) (by kernel_rfl) (fun _ _ _ h => h) (Or.inl ⟨by kernel_rfl, ?_⟩) (by assumption) ?_
                rotate_left
                · intro w hSw
                  (try dsimp only at hSw)
                  go_simp
                  try (with_reducible rfl)
                (try simp only [Act.put, List.getElem_toArray, List.getElem_cons_succ, List.getElem_cons_zero, List.setIfInBounds_toArray, List.set_cons_zero, List.set_cons_succ])
                refine wpAnyH_done (by kernel_rfl) ?_ _
                go_wp2
                go_roundg (N - (k + 1))
                case measure => rw [HG.out]; omega
                case rel =>
                  obtain ⟨q1, q2⟩ := HNX1.out HM.out
                  refine ⟨k + 1, by omega, rfl, by go_num, ?_, ?_, hHeld.1⟩
                  · rw [q1, List.length_append, HN9.out, flat_append, flat_sing]; exact r9u3.out
                  · rw [q2, List.length_append, HN10.out, flat_append, flat_sing]; exact r10u3.out
            · go_simp
              have bx9 := Box.new ua 35 #[.int .i64 (an.1.err : Int), .string (byt an.1.text), .bool an.1.is, an.2]
              have hb0 : Below ua.heap.size ua (ua.alloc (.cells #[.int .i64 (an.1.err : Int), .string (byt an.1.text), .bool an.1.is, an.2] 35)) := below1 ua _
              obtain ⟨u0, hu0⟩ : ∃ u0, (ua.alloc (.cells #[.int .i64 (an.1.err : Int), .string (byt an.1.text), .bool an.1.is, an.2] 35)) = u0 := ⟨_, rfl⟩
              rw [hu0] at bx9 hb0
              rw [hu0]
              clear hu0
              refine hK.out _ _ (HKB.out _ _ hHeld (hb0.mono zua) (hb0.block wr.heap.size hHeld.2.1.lt)) (fun hHeld => ?_)
              clear hK K
              (try simp only [Act.put, List.getElem_toArray, List.getElem_cons_succ, List.getElem_cons_zero, List.setIfInBounds_toArray, List.set_cons_zero, List.set_cons_succ])
              have zu0 : w4.heap.size ≤ u0.heap.size := Nat.le_trans zua hb0.size
              have yu0 : wr.heap.size ≤ ua.heap.size := Nat.le_of_lt xua
              have xu0 : wr.heap.size < u0.heap.size := Nat.lt_of_lt_of_le xua hb0.size
              have r9u0 := Lib.hid (own_below r9ua.out hb0)
              have r10u0 := Lib.hid (own_below r10ua.out hb0)
              refine wpAnyH_ready (rs := [2]) (by kernel_rfl) (by simp) ?_
              refine AllReadyH.cons rfl (fun K hK => ?_) AllReadyH.nil
              go_simp
              have bx2 := Box.new u0 32 #[.int .i64 op.kind, .string (byt op.loc), .string (byt op.key), .string (byt op.value)]
              have hb1 : Below u0.heap.size u0 (u0.alloc (.cells #[.int .i64 op.kind, .string (byt op.loc), .string (byt op.key), .string (byt op.value)] 32)) := below1 u0 _
              obtain ⟨u1, hu1⟩ : ∃ u1, (u0.alloc (.cells #[.int .i64 op.kind, .string (byt op.loc), .string (byt op.key), .string (byt op.value)] 32)) = u1 := ⟨_, rfl⟩
              rw [hu1] at bx2 hb1
              rw [hu1]
              clear hu1
              refine hK.out _ _ (HKB.out _ _ hHeld (hb1.mono zu0) (hb1.block wr.heap.size hHeld.2.1.lt)) (fun hHeld => ?_)
              clear hK K
              (try simp only [Act.put, List.getElem_toArray, List.getElem_cons_succ, List.getElem_cons_zero, List.setIfInBounds_toArray, List.set_cons_zero, List.set_cons_succ])
              have zu1 : w4.heap.size ≤ u1.heap.size := Nat.le_trans zu0 hb1.size
              have yu1 : wr.heap.size ≤ u0.heap.size := Nat.le_of_lt xu0
              have xu1 : wr.heap.size < u1.heap.size := Nat.lt_of_lt_of_le xu0 hb1.size
              have r9u1 := Lib.hid (own_below r9u0.out hb1)
              have r10u1 := Lib.hid (own_below r10u0.out hb1)
              have bx9u1 := bx9.below hb1 bx9.lt
              refine wpAnyH_ready (rs := [3]) (by kernel_rfl) (by simp) ?_
              refine AllReadyH.cons rfl (fun K hK => ?_) AllReadyH.nil
              refine step_append_lies _ rfl (.tmp 71) (.tmp 73) 22 rfl w4.heap.size 32 i0 _ 4 56 Tryz.underlying22 hi0 hi1 hi2 hi3 rfl (by decide) (.slice A9 n9 c9) n9 (flat ocells ((ops.take k).filter (Story.mine x))) (by simp [Act.eval, Act.put]) r9u1.out ⟨u0.heap.size, 0, none⟩ 1 1 [.int .i64 op.kind, .string (byt op.loc), .string (byt op.key), .string (byt op.value)] (by simp [Act.eval, Act.put]) rfl (by exact World.news_of_block bx2) (HONE.out) (by omega) (by unfold maxLen; omega) (by omega) zu1 u1.heap.size rfl ?_
              intro g3 cap3 u2 hown3 hgr3 hor3 hlt3
              have hb2 : Below w4.heap.size u1 u2 := below_grown hgr3 zu1 (fun j hj => (HL9.out j hj).1)
              refine hK.out _ _ (HKB.out _ _ hHeld hb2 (hgr3.block wr.heap.size hHeld.2.1.lt (fun ee => by have := (HL9.out _ ee.symm).2; omega))) (fun hHeld => ?_)
              clear hK K
              (try simp only [Act.put, List.getElem_toArray, List.getElem_cons_succ, List.getElem_cons_zero, List.setIfInBounds_toArray, List.set_cons_zero, List.set_cons_succ])
              have zu2 : w4.heap.size ≤ u2.heap.size := Nat.le_trans zu1 hb2.size
              have xu2 : wr.heap.size < u2.heap.size := Nat.lt_of_lt_of_le xu1 hb2.size
              have r9u2 := Lib.hid hown3
              have r10u2 := Lib.hid (own_grown r10u1.out hgr3 (own_own_ne r10u1.out r9u1.out (by decide)).ne)
              clear hor3 hlt3
              have bx9u2 := (hgr3.block ua.heap.size bx9u1.lt (fun ee => by have := (HL9.out _ ee.symm).2; have := yu0; omega)).trans bx9u1
              clear hgr3 hown3
              refine wpAnyH_ready (rs := [10]) (by kernel_rfl) (by simp) ?_
              refine AllReadyH.cons rfl (fun K hK => ?_) AllReadyH.nil
              refine step_append_lies _ rfl (.tmp 75) (.tmp 80) 23 rfl w4.heap.size 35 j0 _ 4 56 Tryz.underlying23 hj0 hj1 hj2 hj3 rfl (by decide) (.slice A10 n10 c10) n10 (flat ac (Story.pick x (ops.take k) (A.take k))) (by simp [Act.eval, Act.put]) r10u2.out ⟨ua.heap.size, 0, none⟩ 1 1 [.int .i64 (an.1.err : Int), .string (byt an.1.text), .bool an.1.is, an.2] (by simp [Act.eval, Act.put]) rfl (by exact World.news_of_block bx9u2) (HONA.out) (by omega) (by unfold maxLen; omega) (by omega) zu2 u2.heap.size rfl ?_
              intro g10 cap10 u3 hown10 hgr10 hor10 hlt10
              have hb3 : Below w4.heap.size u2 u3 := below_grown hgr10 zu2 (fun j hj => (HL10.out j hj).1)
              refine hK.out _ _ (HKB.out _ _ hHeld hb3 (hgr10.block wr.heap.size hHeld.2.1.lt (fun ee => by have := (HL10.out _ ee.symm).2; omega))) (fun hHeld => ?_)
              clear hK K
              (try simp only [Act.put, List.getElem_toArray, List.getElem_cons_succ, List.getElem_cons_zero, List.setIfInBounds_toArray, List.set_cons_zero, List.set_cons_succ])
              have zu3 : w4.heap.size ≤ u3.heap.size := Nat.le_trans zu2 hb3.size
              have xu3 : wr.heap.size < u3.heap.size := Nat.lt_of_lt_of_le xu2 hb3.size
              have r10u3 := Lib.hid hown10
              have r9u3 := Lib.hid (own_grown r9u2.out hgr10 (own_own_ne r9u2.out r10u2.out (by decide)).ne)
              clear hor10 hlt10
              clear hgr10 hown10
              refine wpAnyH_take (i := 11) (v := ?_) rfl (by kernel_rfl) (by kernel_rfl) (by kernel_rfl) (fun _ _ _ h => h) (Or.inl ⟨by kernel_rfl, ?_⟩) (by assumption) ?_
              rotate_left
              · intro w hSw
                (try dsimp only at hSw)
                go_simp
                try (with_reducible rfl)
              (try simp only [Act.put, List.getElem_toArray, List.getElem_cons_succ, List.getElem_cons_zero, List.setIfInBounds_toArray, List.set_cons_zero, List.set_cons_succ])
              refine wpAnyH_take (i := 12) (v := ?_) rfl (by kernel_rfl) (by kernel_rfl) (by kernel_rfl) (fun _ _ _ h => h) (Or.inl ⟨by kernel_rfl, ?_⟩) (by assumption) ?_
              rotate_left
              · intro w hSw
                (try dsimp only at hSw)
                go_simp
                try (with_reducible rfl)
              (try simp only [Act.put, List.getElem_toArray, List.getElem_cons_succ, List.getElem_cons_zero, List.setIfInBounds_toArray, List.set_cons_zero, List.set_cons_succ])
              refine wpAnyH_done (by kernel_rfl) ?_ _
              go_wp2
              go_roundg (N - (k + 1))
              case measure => rw [HG.out]; omega
              case rel =>
                obtain ⟨q1, q2⟩ := HNX1.out HM.out
                refine ⟨k + 1, by omega, rfl, by go_num, ?_, ?_, hHeld.1⟩
                · rw [q1, List.length_append, HN9.out, flat_append, flat_sing]; exact r9u3.out
                · rw [q2, List.length_append, HN10.out, flat_append, flat_sing]; exact r10u3.out
          · have HM : Hid (Story.mine x op = false) := Lib.hid (by unfold Story.mine; rw [hor]; exact decide_eq_false hxy)
            have hne : ¬ Y = X := fun e => hxy (byt_inj (by rw [hY, HX.out, e]))
            have q2 : decide (Y.toList = X.toList) = false := decide_eq_false fun h => hne (by cases Y; cases X; simpa [ByteArray.toList_eq] using h)
            have q4 : ¬ Y.toList = X.toList := of_decide_eq_false q2
            have q6 : decide (Y = X) = false := decide_eq_false hne
            have q7 : (Y.toList == X.toList) = false := by rw [beq_eq_false_iff_ne]; exact q4
            clear hor hY hxy hne
            go_wp2
            go_roundg (N - (k + 1))
            case measure => rw [HG.out]; omega
            case rel =>
              obtain ⟨q1, q2⟩ := HNXT.out HM.out
              refine ⟨k + 1, by omega, rfl, by go_num, ?_, ?_, HB48.out⟩
              · rw [q1, HN9.out]; exact HOW8.out
              · rw [q2, HN10.out]; exact HWA8.out
      · have l1 : decide ((k : Int) < (N : Int)) = false := decide_eq_false (by omega)
        have l2 : ¬ (k : Int) < (N : Int) := by omega
        have e1 : ops.take k = ops := List.take_of_length_le (by rw [HN.out]; omega)
        have e2 : A.take k = A := List.take_of_length_le (by rw [HAL.out]; omega)
        rw [e1] at HOW HN9
        rw [e1, e2] at HWA HN10
        have HRC := Lib.hid (HRUN.out (ops.filter (Story.mine x)) (.slice A9 n9 c9) wr (HB4.out.trans (HBW.out.mono HB4.out.size)) (by rw [HN9.out]; exact Rd.own HOW.out) (fun o ho => HSZ.out o (List.mem_filter.1 ho).1))
        clear e1 e2
        go_wp2_with (fail)
        refine HRC.out.mono ?_
        rintro e w9 (⟨h, _⟩ | ⟨_, B, v, h1, h2, rfl, h3, h4, h5⟩)
        · rw [HN9.out] at h; omega
        have HB9 : Hid (Below w.heap.size w w9) := Lib.hid ((HB4.out.trans (HBW.out.mono HB4.out.size)).trans (h5.mono (Nat.le_trans HB4.out.size hzr)))
        have HB19 : Hid (Below w1.heap.size w1 w9) := Lib.hid ((HB14.out.trans (HBW.out.mono HB14.out.size)).trans (h5.mono (Nat.le_trans HB14.out.size hzr)))
        have heq : B.map (·.1) = (Story.pick x ops A).map (·.1) := by
          rw [h1, Story.pick_map, HH1.out]
          exact (Story.apart_law x ops _ _ rfl).symm
        have HEQ := Lib.hid (equalfn_any B (Story.pick x ops A) v (.slice A10 n10 c10) 13 w9 eg_samest (fun a b w2 ha hb => samest_any a.1 b.1 a.2 b.2 w2 ha hb) (Rd.own h3) (by rw [HN10.out]; exact (Rd.own HWA.out).below h5) (fun a ha => Rd.own (h4 a ha)) (fun a ha => (Rd.own (HH4.out a (Story.pick_mem x ops A a ha))).below HB19.out))
        rw [decide_eq_true heq] at HEQ
        obtain ⟨Ab, cb, rfl⟩ := own_slice h3
        clear h1 h2 h3 h4 h5 heq HRC
        go_wp2_with (fail)
        refine HEQ.out.mono ?_
        rintro e w10 ⟨rfl, hw10⟩
        have HB10 : Hid (Below w.heap.size w w10) := Lib.hid (HB9.out.trans (hw10.mono HB9.out.size))
        clear hw10
        go_wp2
        go_ret
        exact ⟨rfl, HB10.out⟩
end Go.Proofs.YtdolmjeiakdfhaaGreatDoor
