/-
  StoreQuota returns true. Conditions: as each says.
-/
import Derived.Test.YtlepbooegofoeaaGreatDoorStX
import Derived.Test.YtlepbooegofoeaaGreatDoorStZ
import Derived.BigQuiet
namespace Story
set_option linter.unusedSimpArgs false
set_option linter.unusedVariables false
/-- is the op of this origin? -/
def mine (g : Bs) (o : Op) : Bool := match Urly.originOf o.loc with
  | .ok x => decide (x = g)
  | .error _ => false
/-- the answers of the ops of an origin. -/
def pick {α : Type} (g : Bs) : List Op → List α → List α
  | o :: l, a :: m => if mine g o then a :: pick g l m else pick g l m
  | _, _ => []
theorem setS_hit (S : St) (g : Bs) (d : D) : (setS S g d) g = some d := by simp [setS]
theorem setS_miss (S : St) {g x : Bs} (d : D) (h : g ≠ x) : (setS S x d) g = S g := by simp [setS, h]
theorem apart_law (g : Bs) : ∀ (ops : List Op) (S S' : St), (S g).getD d0 = (S' g).getD d0 → pick g ops (runs S ops) = runs S' (ops.filter (mine g))
  | [], _, _, _ => rfl
  | o :: l, S, S', h => by
    cases ho : Urly.originOf o.loc with
    | error e =>
      have hm : mine g o = false := by unfold mine; rw [ho]
      have hs : step S o = (⟨e, [], false, []⟩, S) := by unfold step; rw [ho]
      rw [runs, hs, pick, hm, List.filter_cons_of_neg (by simp [hm])]
      exact apart_law g l S S' h
    | ok x =>
      have hs : step S o = ((doOp ((S x).getD d0) o).1, setS S x (doOp ((S x).getD d0) o).2) := by unfold step; rw [ho]
      by_cases e : x = g
      · subst e
        have hm : mine x o = true := by unfold mine; rw [ho]; simp
        have hs' : step S' o = ((doOp ((S' x).getD d0) o).1, setS S' x (doOp ((S' x).getD d0) o).2) := by unfold step; rw [ho]
        rw [runs, hs, pick, hm, List.filter_cons_of_pos hm, runs, hs', h]
        simp only [if_true]
        congr 1
        exact apart_law x l _ _ (by rw [setS_hit, setS_hit])
      · have hm : mine g o = false := by unfold mine; rw [ho]; simp [e]
        rw [runs, hs, pick, hm, List.filter_cons_of_neg (by simp [hm])]
        exact apart_law g l _ S' (by simp only [setS_miss S _ (show g ≠ x from fun h => e h.symm)]; exact h)
theorem pick_take {α : Type} (g : Bs) : ∀ (l : List Op) (m : List α) (k : Nat) (o : Op) (a : α), l[k]? = some o → m[k]? = some a → pick g (l.take (k + 1)) (m.take (k + 1)) = pick g (l.take k) (m.take k) ++ (if mine g o then [a] else [])
  | [], _, _, _, _, h, _ => by simp at h
  | _ :: _, [], _, _, _, _, h => by simp at h
  | y :: l, b :: m, 0, o, a, h1, h2 => by
    simp at h1 h2; subst h1; subst h2
    simp [pick]
  | y :: l, b :: m, k + 1, o, a, h1, h2 => by
    have ih := pick_take g l m k o a (by simpa using h1) (by simpa using h2)
    rw [List.take_succ_cons, List.take_succ_cons, List.take_succ_cons, List.take_succ_cons, pick, pick, ih]
    split <;> simp
theorem filter_take (g : Bs) : ∀ (l : List Op) (k : Nat) (o : Op), l[k]? = some o → (l.take (k + 1)).filter (mine g) = (l.take k).filter (mine g) ++ (if mine g o then [o] else [])
  | l, k, o, h => by
    rw [List.take_add_one, h, List.filter_append]
    simp only [Option.toList, List.filter_cons, List.filter_nil]
theorem pick_map {α β : Type} (f : α → β) (g : Bs) : ∀ (l : List Op) (m : List α), (pick g l m).map f = pick g l (m.map f)
  | [], m => by cases m <;> rfl
  | o :: l, [] => rfl
  | o :: l, a :: m => by
    simp only [pick, List.map_cons]
    split
    · simp [pick_map f g l m]
    · exact pick_map f g l m
theorem pick_mem {α : Type} (g : Bs) : ∀ (l : List Op) (m : List α), ∀ x ∈ pick g l m, x ∈ m
  | [], m, x, h => by cases m <;> simp [pick] at h
  | o :: l, [], x, h => by simp [pick] at h
  | o :: l, a :: m, x, h => by
    simp only [pick] at h
    split at h
    · rcases List.mem_cons.1 h with rfl | h
      · simp
      · exact List.mem_cons_of_mem _ (pick_mem g l m x h)
    · exact List.mem_cons_of_mem _ (pick_mem g l m x h)
/-- every drawer keeps to its rules. -/
def Good (S : St) : Prop := ∀ x d, S x = some d → Inv d
theorem good0 : Good (fun _ => none) := fun _ _ h => by cases h
theorem Good.get {S : St} (h : Good S) (x : Bs) : Inv ((S x).getD d0) := by
  cases hx : S x with
  | none => exact inv_d0
  | some d => exact h x d hx
theorem Good.step {S : St} (h : Good S) (o : Op) : Good (step S o).2 := by
  cases ho : Urly.originOf o.loc with
  | error e => unfold Story.step; rw [ho]; exact h
  | ok x =>
    have hs : (Story.step S o).2 = setS S x (doOp ((S x).getD d0) o).2 := by unfold Story.step; rw [ho]
    rw [hs]
    intro y d hy
    by_cases e : y = x
    · subst e
      rw [setS_hit] at hy
      injection hy with hy; subst hy; exact do_inv (h.get y) o
    · rw [setS_miss S _ e] at hy
      exact h y d hy
theorem Good.after : ∀ {ops : List Op} {S : St}, Good S → Good (after S ops)
  | [], _, h => h
  | o :: l, S, h => Good.after (ops := l) (h.step o)
def kop (loc : Bs) : Op := ⟨5, loc, [], []⟩
def gop (loc k : Bs) : Op := ⟨2, loc, k, []⟩
theorem getS {S : St} {loc x : Bs} {d : D} (ho : Urly.originOf loc = .ok x) (hd : (S x).getD d0 = d) : ∀ (l : List Bs), runs S (l.map (gop loc)) = l.map fun k => (⟨0, (d.f k).getD [], (d.f k).isSome, []⟩ : Ans)
  | [] => rfl
  | k :: l => by
    have hs : step S (gop loc k) = (⟨0, (d.f k).getD [], (d.f k).isSome, []⟩, setS S x d) := by
      unfold step gop
      simp only [ho, hd]
      rfl
    rw [List.map_cons, runs, hs, List.map_cons]
    congr 1
    exact getS ho (by simp only [setS_hit]; rfl) l
theorem bulk_take (f : Bs → Option Bs) (n : Nat) (l : List Bs) : bulk f (l.take n) ≤ bulk f l := by
  have h := bulk_append f (l.take n) (l.drop n)
  rw [List.take_append_drop] at h
  have := bulk_nonneg f (l.drop n)
  omega
/-- what an origin keeps, asked for in the end. -/
theorem quota_law (S : St) (hS : Good S) (loc : Bs) : ∃ (a : Ans) (f : Bs → Option Bs), runs S [kop loc] = [a] ∧
    (∀ n, runs (after S [kop loc]) ((a.keys.take n).map (gop loc)) = (a.keys.take n).map fun k => (⟨0, (f k).getD [], true, []⟩ : Ans)) ∧ ∀ n, bulk f (a.keys.take n) ≤ 400 := by
  cases ho : Urly.originOf loc with
  | error e =>
    refine ⟨⟨e, [], false, []⟩, fun _ => none, ?_, fun n => ?_, fun n => ?_⟩
    · simp [runs, step, kop, ho]
    · simp [runs]
    · simp [bulk]
  | ok x =>
    obtain ⟨d, hd⟩ : ∃ d, (S x).getD d0 = d := ⟨_, rfl⟩
    have hi : Inv d := hd ▸ hS.get x
    have hs : step S (kop loc) = (⟨0, [], false, d.keys⟩, setS S x d) := by
      unfold step kop
      simp only [ho, hd]
      rfl
    refine ⟨⟨0, [], false, d.keys⟩, d.f, by rw [runs, hs]; rfl, fun n => ?_, fun n => ?_⟩
    · rw [after, hs, after, getS (S := setS S x d) (d := d) ho (by simp only [setS_hit]; rfl)]
      refine List.map_congr_left fun k hk => ?_
      rw [(hi.dom k).2 (List.mem_of_mem_take hk)]
    · have h1 := bulk_take d.f n d.keys
      have h2 := hi.sum
      have h3 := hi.few
      simp only at h1 ⊢
      omega
end Story

namespace Go.Proofs.YtlepbooegofoeaaGreatDoor
set_option linter.unusedSimpArgs false
set_option linter.unusedVariables false
open Go.RowKit

theorem last1 {α β : Type} {A : List (α × β)} {R : List α} {n : Nat} {x : α} (h : A.map (·.1) = R ++ [x]) (hn : R.length = n) : ∃ k, A[n]? = some (x, k) ∧ A.length = n + 1 := by
  have hl : A.length = n + 1 := by have := congrArg List.length h; simpa [hn] using this
  have h1 : (A.map (·.1))[n]? = some x := by
    rw [h, List.getElem?_append_right (by omega), hn, Nat.sub_self]; rfl
  rw [List.getElem?_map] at h1
  cases ha : A[n]? with
  | none => rw [ha] at h1; cases h1
  | some y =>
    rw [ha] at h1
    injection h1 with h1
    exact ⟨y.2, by rw [← h1], hl⟩
def TrueQ (w : World) (e : Ending) (w' : World) : Prop := e = .returned (.bool true) ∧ Below w.heap.size w w'
set_option maxRecDepth 100000 in
set_option maxHeartbeats 16000000 in
theorem quota_true (ops : List Story.Op) (loc : List UInt8) (v : Value) (w : World) (he : Env w) (hv : Rd w 4 (flat ocells ops) ops.length v) (hsz : ∀ o ∈ ops, o.key.length ≤ 140737488355328 ∧ o.value.length ≤ 140737488355328) :
    Calls Tryz.prog 5 #[v, .string (byt loc)] w (TrueQ w) := by
  obtain ⟨A0, cap0, rfl, hc1, hc2, hcells⟩ := hv
  have HV : Hid (Rd w 4 (flat ocells ops) ops.length (.slice A0 ops.length cap0)) := Lib.hid ⟨_, _, rfl, hc1, hc2, hcells⟩
  have HSZ := Lib.hid hsz
  have HLV : Hid (∀ w1, Below w.heap.size w w1 → Calls Tryz.prog 16 #[] w1 fun e w' => e = .returned (.bool true) ∧ Below w1.heap.size w1 w') := Lib.hid (fun w1 h1 => storeLives_true w1 (he.below h1))
  have HRUN : Hid (∀ (l : List Story.Op) (u : Value) (w1 : World), Below w.heap.size w w1 → Rd w1 4 (flat ocells l) l.length u → (∀ o ∈ l, o.key.length ≤ 140737488355328 ∧ o.value.length ≤ 140737488355328) → Calls Tryz.prog 18 #[u] w1 (RunOut l w1)) := Lib.hid (fun l u w1 h1 h2 h3 => run_any l u w1 (he.below h1) h2 h3)
  have HCL : Hid (∀ w1, Below w.heap.size w w1 → ops.length ≤ 90 → Calls Tryz.prog 17 #[.slice A0 ops.length cap0] w1 fun e w' => OwnOut w1 34 4 ops.length (flat ocells ops) e w') := Lib.hid (fun w1 h1 hl => clone_op ops _ w1 (HV.out.below h1) (by omega))
  obtain ⟨i0, hi0, hi1, hi2, hi3⟩ := info_parts parts_op
  obtain ⟨N, hN⟩ : ∃ N, ops.length = N := ⟨_, rfl⟩
  have HN := Lib.hid hN
  obtain ⟨LO, hLO⟩ : ∃ c, byt loc = c := ⟨_, rfl⟩
  have HLO := Lib.hid hLO
  rw [hN] at hc1 HCL
  rw [hN, hLO]
  clear hcells hsz hN he hLO
  go_enter Tryz.func5, Tryz.ntmps5
  go_wp2_with (fail)
  refine (HLV.out _ (Below.refl _ _)).mono ?_
  rintro e w1 ⟨rfl, hw1⟩
  have HB1 : Hid (Below w.heap.size w w1) := Lib.hid hw1
  clear hw1
  by_cases hlarge : 50 < N
  · have d1 : decide ((N : Int) > 50) = true := decide_eq_true (by omega)
    have d2 : (50 : Int) < (N : Int) := by omega
    go_wp2_with (fail)
    refine (HLV.out _ HB1.out).mono ?_
    rintro e w2 ⟨rfl, hw2⟩
    have HB2 : Hid (Below w.heap.size w w2) := Lib.hid (HB1.out.trans (hw2.mono HB1.out.size))
    clear hw2
    go_wp2
    go_ret
    exact ⟨rfl, HB2.out⟩
  have d1 : decide ((N : Int) > 50) = false := decide_eq_false (by omega)
  have d2 : ¬ (50 : Int) < (N : Int) := by omega
  have hN50 : N ≤ 50 := by omega
  clear hlarge
  go_wp2_with (fail)
  refine (HCL.out _ HB1.out (by omega)).mono ?_
  rintro e w2 ⟨vc, rfl, hown, hw2⟩
  have HB2 : Hid (Below w.heap.size w w2) := Lib.hid (HB1.out.trans (hw2.mono HB1.out.size))
  have HOW2 : Hid (w2.ownsRow w.heap.size 34 4 vc N (flat ocells ops)) := Lib.hid (own_base hown HB1.out.size)
  clear hown hw2
  obtain ⟨Av, cv, rfl⟩ := own_slice HOW2.out
  have hacs : (#[.int .i64 5, .string LO, .string ⟨#[]⟩, .string ⟨#[]⟩] : Array Value).toList.length = 1 * 4 := rfl
  have haco : ∀ u ∈ (#[.int .i64 5, .string LO, .string ⟨#[]⟩, .string ⟨#[]⟩] : Array Value).toList, u.oneCell' = true := by
    intro u hu
    simp at hu
    rcases hu with rfl | rfl | rfl | rfl <;> rfl
  have hz2 := HB2.out.size
  go_wp2_with (at_builtin; refine wpList_append_own _ rfl (.tmp 25) (.tmp 28) 31 rfl w.heap.size 34 i0 (.agg #[.int .i64 0, .string ⟨#[]⟩, .string ⟨#[]⟩, .string ⟨#[]⟩]) 4 56 Tryz.underlying31 hi0 hi1 hi2 hi3 rfl (by decide) (.slice Av N cv) N (flat ocells ops) rfl (HOW2.out.alloc _) ⟨w2.heap.size, 0, none⟩ 1 1 (#[.int .i64 5, .string LO, .string ⟨#[]⟩, .string ⟨#[]⟩] : Array Value).toList rfl hacs (arr_new _ _ _ _ rfl) haco (by unfold maxLen; omega) (by omega) (by simp; omega) ?_; intro v3 w3 hown3 hgrow3 _)
  have HB3 : Hid (Below w.heap.size w w3) := Lib.hid ((HB2.out.alloc hz2 _).grown hgrow3 (by simp; omega) (fun g hg => (HOW2.out.lt g hg).1))
  have HOP5 : Hid (ocells (Story.kop loc) = #[.int .i64 5, .string LO, .string ⟨#[]⟩, .string ⟨#[]⟩]) := Lib.hid (by rw [← HLO.out]; rfl)
  have HOW3 : Hid (w3.ownsRow w.heap.size 34 4 v3 (N + 1) (flat ocells (ops ++ [Story.kop loc]))) := Lib.hid (by
    rw [flat_append, show flat ocells [Story.kop loc] = (#[.int .i64 5, .string LO, .string ⟨#[]⟩, .string ⟨#[]⟩] : Array Value).toList by
      rw [← HOP5.out]; simp [flat]]
    exact hown3)
  have hlen3 : (ops ++ [Story.kop loc]).length = N + 1 := by rw [List.length_append, HN.out]; rfl
  have HRC := Lib.hid (HRUN.out (ops ++ [Story.kop loc]) v3 w3 HB3.out (by rw [hlen3]; exact Rd.own HOW3.out) (by
    intro o ho
    rcases List.mem_append.1 ho with ho | ho
    · exact HSZ.out o ho
    · simp at ho; subst ho; simp [Story.kop]))
  have HL3 := Lib.hid hlen3
  obtain ⟨A3, cap3, rfl⟩ := own_slice HOW3.out
  clear hown3 hgrow3 hacs haco hlen3 hz2
  go_wp2_with (fail)
  refine HRC.out.mono ?_
  rintro e w4 (⟨h, _⟩ | ⟨_, A, v, h1, h2, rfl, h3, h4, h5⟩)
  · rw [HL3.out] at h; omega
  rw [Story.runs_append] at h1
  have hrl := Story.runs_len ops (fun _ => none)
  rw [HN.out] at hrl
  obtain ⟨a, f, hq1, hq2, hq3⟩ := Story.quota_law (Story.after (fun _ => none) ops) (Story.Good.after Story.good0) loc
  rw [hq1] at h1
  obtain ⟨kv, hkv, hAl⟩ := last1 h1 hrl
  have HB4 : Hid (Below w.heap.size w w4) := Lib.hid (HB3.out.trans (h5.mono HB3.out.size))
  have HOW4 := Lib.hid (own_below HOW3.out h5)
  obtain ⟨g, cap, ev⟩ : ∃ g cap, v = .slice (some ⟨g, 0, none⟩) (N + 1) cap := own_succ (k := N) (by have := h3; rw [hAl] at this; exact this)
  have ev2 : v = .slice (some ⟨g, 0, none⟩) A.length cap := by rw [hAl]; exact ev
  have c3 : w4.cell? ⟨g, N * 4 + 3, none⟩ = some kv := by have := ans_cell (k := N) (j := 3) h3 ev2 hkv rfl; rw [show 0 + N * 4 + 3 = N * 4 + 3 by omega] at this; exact this
  have HKR : Hid (w4.ownsRow w.heap.size 9 1 kv a.keys.length (txts a.keys)) := Lib.hid (own_base (h4 _ (List.mem_of_getElem? hkv)) HB3.out.size)
  have hal : ((A.length : Nat) : Int) = (N : Int) + 1 := by omega
  obtain ⟨Ak, capk, rfl⟩ := own_slice HKR.out
  obtain ⟨M, hM⟩ : ∃ M, a.keys.length = M := ⟨_, rfl⟩
  rw [hM] at HKR c3
  have HQ1 := Lib.hid hq1
  have HQ2 := Lib.hid hq2
  have HQ3 := Lib.hid hq3
  have HMK := Lib.hid hM
  have HAL := Lib.hid hAl
  subst ev
  clear ev2 h1 h2 h3 h4 h5 hrl hkv hAl hq1 hq2 hq3 hM HRC HCL HLV HV
  clear hal
  have hMc : M ≤ capk ∧ capk ≤ 9223372036854775807 := by
    obtain ⟨X, c', e1, h6, h7, _⟩ := Rd.own HKR.out
    injection e1 with _ _ e1
    subst e1
    exact ⟨h6, h7⟩
  obtain ⟨hMc1, hMc2⟩ := hMc
  obtain ⟨K, hK, hKM, hK49⟩ : ∃ K : Nat, min (M : Int) 49 = (K : Int) ∧ K ≤ M ∧ K ≤ 49 := ⟨min M 49, by omega, by omega, by omega⟩
  have hKm : min M 49 = K := by omega
  have hKc : (K : Int) ≤ (capk : Int) := by omega
  have HKM := Lib.hid hKM
  go_upto_region 9 with (fail)
  go_loopg [5, 10, 56] (K - 0) (fun gg u _ s56 wr => ∃ k : Nat, k ≤ K ∧ gg = K - k ∧ s56 = .int .i64 (k : Int) ∧ wr.ownsRow w.heap.size 34 4 u (N + 1 + k) (flat ocells (ops ++ [Story.kop loc] ++ (a.keys.take k).map (Story.gop loc))) ∧ wr.ownsRow w.heap.size 9 1 (.slice Ak M capk) M (txts a.keys) ∧ Below w.heap.size w wr)
  case atStart => exact ⟨0, by omega, rfl, rfl, by have := HOW4.out; simpa using this, HKR.out, HB4.out⟩
  case round =>
    obtain ⟨k, hk, hg, rfl, hown, hkr, hbw⟩ := hrel
    have HG := Lib.hid hg
    have HOR := Lib.hid hown
    have HKW := Lib.hid hkr
    have HBW := Lib.hid hbw
    have hzr := hbw.size
    obtain ⟨A5, c5, rfl⟩ := own_slice hown
    clear hg hown hkr hbw
    by_cases hlt : k < K
    · have l1 : decide ((k : Int) < (K : Int)) = true := decide_eq_true (by omega)
      have l2 : (k : Int) < (K : Int) := by omega
      obtain ⟨ky, hky⟩ : ∃ ky, a.keys[k]? = some ky := ⟨_, List.getElem?_eq_getElem (by rw [HMK.out]; omega)⟩
      obtain ⟨gk, ck, ek, hkc⟩ : ∃ gk ck, (Value.slice Ak M capk) = .slice (some ⟨gk, 0, none⟩) M ck ∧ wr.cell? ⟨gk, k, none⟩ = some (.string (byt ky)) := by
        obtain ⟨X, c', e1, _, _, h3⟩ := Rd.own HKW.out
        obtain ⟨g', o', e2, h4, h5⟩ := h3 (by omega)
        obtain ⟨g2, c2, e3⟩ := own_succ (k := M - 1) (by rw [show M - 1 + 1 = M by omega]; exact HKW.out)
        rw [show M - 1 + 1 = M by omega] at e3
        subst e2
        rw [e3] at e1
        injection e1 with e1 _ _
        injection e1 with e1
        injection e1 with e1 e4 _
        subst e1; subst e4
        exact ⟨g2, c2, e3, by have := h5 k (.string (byt ky)) (by simp [txts, hky]); rw [Nat.zero_add] at this; exact this⟩
      injection ek with ek _ ec
      subst ek; subst ec
      obtain ⟨KY, hKY⟩ : ∃ KY, byt ky = KY := ⟨_, rfl⟩
      rw [hKY] at hkc
      have HKY := Lib.hid hKY
      have HKA := Lib.hid hky
      have hacs : (#[.int .i64 2, .string LO, .string KY, .string ⟨#[]⟩] : Array Value).toList.length = 1 * 4 := rfl
      have haco : ∀ u ∈ (#[.int .i64 2, .string LO, .string KY, .string ⟨#[]⟩] : Array Value).toList, u.oneCell' = true := by
        intro u hu
        simp at hu
        rcases hu with rfl | rfl | rfl | rfl <;> rfl
      clear hKY hky
      go_wp2_with (at_builtin; refine wpList_append_own _ rfl (.tmp 60) (.tmp 64) 31 rfl w.heap.size 34 i0 (.agg #[.int .i64 0, .string ⟨#[]⟩, .string ⟨#[]⟩, .string ⟨#[]⟩]) 4 56 Tryz.underlying31 hi0 hi1 hi2 hi3 rfl (by decide) (.slice A5 (N + 1 + k) c5) (N + 1 + k) (flat ocells (ops ++ [Story.kop loc] ++ (a.keys.take k).map (Story.gop loc))) rfl (HOR.out.alloc _) ⟨wr.heap.size, 0, none⟩ 1 1 (#[.int .i64 2, .string LO, .string KY, .string ⟨#[]⟩] : Array Value).toList rfl hacs (arr_new _ _ _ _ rfl) haco (by unfold maxLen; omega) (by omega) (by simp; omega) ?_; intro v6 w6 hown6 hgrow6 _)
      have HO6 := Lib.hid hown6
      have HG6 := Lib.hid hgrow6
      clear hown6 hgrow6
      go_wp2
      go_roundg (K - (k + 1))
      case measure => rw [HG.out]; omega
      case rel =>
        have hb6 : Below w.heap.size w w6 := (HBW.out.alloc hzr _).grown HG6.out (by simp; omega) (fun g hg => (HOR.out.lt g hg).1)
        have hk6 : w6.ownsRow w.heap.size 9 1 (.slice (some ⟨gk, 0, none⟩) M capk) M (txts a.keys) := own_grown (HKW.out.alloc _) HG6.out (.inr fun e => own_own_ne HKW.out HOR.out (by decide) gk rfl (by rw [← e]; rfl))
        refine ⟨k + 1, by omega, rfl, by go_num, ?_, hk6, hb6⟩
        have e1 : (a.keys.take (k + 1)).map (Story.gop loc) = (a.keys.take k).map (Story.gop loc) ++ [Story.gop loc ky] := by rw [List.take_add_one, HKA.out]; simp
        have e2 : flat ocells [Story.gop loc ky] = (#[.int .i64 2, .string LO, .string KY, .string ⟨#[]⟩] : Array Value).toList := by rw [← HKY.out, ← HLO.out]; simp [flat, ocells, Story.gop, byt]
        rw [e1, ← List.append_assoc, flat_append, e2]
        exact HO6.out
    · have l1 : decide ((k : Int) < (K : Int)) = false := decide_eq_false (by omega)
      have l2 : ¬ (k : Int) < (K : Int) := by omega
      obtain rfl : k = K := by omega
      have hlen : (ops ++ [Story.kop loc] ++ (a.keys.take k).map (Story.gop loc)).length = N + 1 + k := by
        rw [List.length_append, HL3.out, List.length_map, List.length_take, HMK.out]; omega
      have HLEN := Lib.hid hlen
      have HRC := Lib.hid (HRUN.out (ops ++ [Story.kop loc] ++ (a.keys.take k).map (Story.gop loc)) (.slice A5 (N + 1 + k) c5) wr HBW.out (by rw [hlen]; exact Rd.own HOR.out) (by
        intro o ho
        rcases List.mem_append.1 ho with ho | ho
        · rcases List.mem_append.1 ho with ho | ho
          · exact HSZ.out o ho
          · simp at ho; subst ho; simp [Story.kop]
        · obtain ⟨x, hx, rfl⟩ := List.mem_map.1 ho
          have h1 := Story.bulk_mem (f := f) hx
          have h2 := HQ3.out k
          exact ⟨by simp only [Story.gop]; omega, by simp [Story.gop]⟩))
      clear hlen
      go_wp2_with (fail)
      refine HRC.out.mono ?_
      rintro e w7 (⟨h, _⟩ | ⟨_, B, v, h1, h2, rfl, h3, h4, h5⟩)
      · rw [HLEN.out] at h; omega
      have hBl : B.length = N + 1 + k := by
        have h6 := congrArg List.length h1
        rw [List.length_map, Story.runs_len] at h6
        rw [h6]; exact HLEN.out
      have HBK : Hid (∀ (i : Nat) (ky : List UInt8), i < k → a.keys[i]? = some ky → ∃ kx, B[N + 1 + i]? = some (⟨0, (f ky).getD [], true, []⟩, kx)) := Lib.hid (by
        intro i ky hi hky
        rw [Story.runs_append, Story.after_append, HQ2.out k] at h1
        have h7 : (B.map (·.1))[N + 1 + i]? = some ⟨0, (f ky).getD [], true, []⟩ := by
          have h8 : (Story.runs (fun _ => none) (ops ++ [Story.kop loc])).length = N + 1 := by rw [Story.runs_len]; exact HL3.out
          rw [h1, List.getElem?_append_right (by omega), h8, Nat.add_sub_cancel_left, List.getElem?_map, List.getElem?_take, if_pos hi, hky]
          rfl
        rw [List.getElem?_map] at h7
        cases hb : B[N + 1 + i]? with
        | none => rw [hb] at h7; cases h7
        | some y =>
          rw [hb] at h7
          injection h7 with h7
          exact ⟨y.2, by rw [← h7]⟩)
      obtain ⟨gb, cb, ev⟩ : ∃ gb cb, v = .slice (some ⟨gb, 0, none⟩) (N + 1 + k) cb := by
        have h6 := h3
        rw [hBl, show N + 1 + k = N + k + 1 by omega] at h6
        have h7 := own_succ h6
        rw [show N + k + 1 = N + 1 + k by omega] at h7
        exact h7
      have ev2 : v = .slice (some ⟨gb, 0, none⟩) B.length cb := by rw [hBl]; exact ev
      have HB7 : Hid (Below w.heap.size w w7) := Lib.hid (HBW.out.trans (h5.mono HBW.out.size))
      have HK7 : Hid (RdL w7 1 (fun s => #[.string (byt s)]) a.keys (.slice Ak M capk)) := Lib.hid (by
        have h6 := Rd.own (own_below HKW.out h5)
        rw [← HMK.out] at h6
        rw [← HMK.out]
        have e : flat (fun s : List UInt8 => (#[.string (byt s)] : Array Value)) a.keys = txts a.keys := by
          unfold flat txts; induction a.keys with
          | nil => rfl
          | cons x l ih => simp only [List.flatMap_cons, List.map_cons, ih]; rfl
        show Rd _ _ (flat _ _) _ _
        rw [e]; exact h6)
      have HCB : Hid (k + (N + 1) ≤ cb ∧ cb ≤ 9223372036854775807) := Lib.hid (by
        obtain ⟨X, c', e1, h6, h7, _⟩ := Rd.own h3
        rw [ev2] at e1
        injection e1 with _ _ e1
        subst e1
        exact ⟨by omega, h7⟩)
      have HANS : Hid (∀ (i j : Nat) (an : Story.Ans) (kx u : Value), B[N + 1 + i]? = some (an, kx) → (acells an kx).toList[j]? = some u → gb < w7.heap.size ∧ w7.cell? ⟨gb, (N + 1) * 4 + i * 4 + j, none⟩ = some u) := Lib.hid (by
        intro i j an kx u hb hu
        have := ans_cell (k := N + 1 + i) (j := j) h3 ev2 hb hu
        rw [show 0 + (N + 1 + i) * 4 + j = (N + 1) * 4 + i * 4 + j by omega] at this
        exact ⟨block_lt_of_cell this, this⟩)
      have HSL : Hid (∀ (an : Story.Ans × Value), an ∈ B → ∃ X c, an.2 = .slice X an.1.keys.length c) := Lib.hid (fun an ha => by obtain ⟨X, c, e⟩ := own_slice (h4 _ ha); exact ⟨X, c, e⟩)
      obtain ⟨hcb1, hcb2⟩ := HCB.out
      have hbl : ((B.length : Nat) : Int) = (N : Int) + 1 + (k : Int) := by omega
      subst ev
      clear ev2 h1 h2 h3 h4 h5 hBl HRC HOR HKW HBW HLEN
      by_cases hcb : cb = N + 1
      · obtain rfl : k = 0 := by omega
        subst hcb
        go_upto_region 18 with (fail)
        go_loopg [13, 14, 15, 87] (0 - 0) (fun gg s13 _ _ s87 wr => ∃ j : Nat, j ≤ 0 ∧ gg = 0 - j ∧ s13 = .int .i64 (Story.bulk f (a.keys.take j)) ∧ s87 = .int .i64 (j : Int) ∧ Below w7.heap.size w7 wr)
        case atStart => exact ⟨0, by omega, rfl, by simp [Story.bulk], rfl, Below.refl _ _⟩
        case round =>
          obtain ⟨j, hj, hg, rfl, rfl, hbw⟩ := hrel
          have HG2 := Lib.hid hg
          clear hg
          by_cases hjk : j < 0
          · have l3 : decide ((j : Int) < (0 : Int)) = true := decide_eq_true (by omega)
            have l4 : (j : Int) < (0 : Int) := by omega
            exfalso; omega
          · have l3 : decide ((j : Int) < (0 : Int)) = false := decide_eq_false (by omega)
            have l4 : ¬ (j : Int) < (0 : Int) := by omega
            have hle := HQ3.out j
            have l5 : decide (Story.bulk f (a.keys.take j) ≤ 400) = true := decide_eq_true hle
            go_wp2
            go_ret
            exact ⟨by first | rfl | simp [hle], HB7.out.trans (hbw.mono HB7.out.size)⟩
      · go_upto_region 18 with (fail)
        go_loopg [13, 14, 15, 87] (k - 0) (fun gg s13 _ _ s87 wr => ∃ j : Nat, j ≤ k ∧ gg = k - j ∧ s13 = .int .i64 (Story.bulk f (a.keys.take j)) ∧ s87 = .int .i64 (j : Int) ∧ Below w7.heap.size w7 wr)
        case atStart => exact ⟨0, by omega, rfl, by simp [Story.bulk], rfl, Below.refl _ _⟩
        case round =>
          obtain ⟨j, hj, hg, rfl, rfl, hbw⟩ := hrel
          have HG2 := Lib.hid hg
          clear hg
          by_cases hjk : j < k
          · have l3 : decide ((j : Int) < (k : Int)) = true := decide_eq_true (by omega)
            have l4 : (j : Int) < (k : Int) := by omega
            obtain ⟨ky, hky⟩ : ∃ ky, a.keys[j]? = some ky := ⟨_, List.getElem?_eq_getElem (by rw [HMK.out]; omega)⟩
            obtain ⟨kx, hkx⟩ := HBK.out j ky hjk hky
            obtain ⟨X1, c1, ekx⟩ := HSL.out _ (List.mem_of_getElem? hkx)
            simp only at ekx
            obtain ⟨XC, hXC⟩ : ∃ c, acells ⟨0, (f ky).getD [], true, []⟩ kx = c := ⟨_, rfl⟩
            have hrange : Hid (wr.rangeAt gb ((N + 1) * 4 + j * 4) XC.toList) := fun i u hu => by
              obtain ⟨q1, q2⟩ := HANS.out j i _ _ u hkx (by rw [hXC]; exact hu)
              rw [hbw.cell (p := ⟨gb, (N + 1) * 4 + j * 4 + i, none⟩) q1]; exact q2
            have hone : XC.all (·.oneCell') = true := by rw [← hXC, ekx]; exact acells_one _ _ _ _
            have hxi : (Tryz.prog.info? 40).map (·.size) = some XC.size := by rw [← hXC]; exact info_ans
            have hxil : (Tryz.prog.info? 40).map (·.size) = some XC.toList.length := by rw [Array.length_toList]; exact hxi
            have hxz : (4 : Nat) = XC.size := by rw [← hXC]; rfl
            have k2 : XC[2]? = some (.bool true) := by rw [← hXC]; rfl
            obtain ⟨TX, hTX⟩ : ∃ TX, byt ((f ky).getD []) = TX := ⟨_, rfl⟩
            have k1 : XC[1]? = some (.string TX) := by rw [← hXC, ← hTX]; rfl
            obtain ⟨gk, ok, ek, hgk, hkr⟩ : ∃ gk ok, Ak = some ⟨gk, ok, none⟩ ∧ gk < w7.heap.size ∧ w7.cell? ⟨gk, ok + j, none⟩ = some (.string (byt ky)) := by
              obtain ⟨X, c', e1, _, _, h3⟩ := HK7.out
              obtain ⟨g', o', e2, h4, h5⟩ := h3 (by rw [HMK.out]; omega)
              subst e2
              injection e1 with e1 _ _
              have := RdL.elem (k := 1) (f := fun s : List UInt8 => (#[.string (byt s)] : Array Value)) (fun _ => rfl) h5 hky 0 _ rfl
              simp only [Nat.mul_one, Nat.add_zero] at this
              exact ⟨g', o', e1, h4, this⟩
            subst ek
            obtain ⟨KY, hKY⟩ : ∃ KY, byt ky = KY := ⟨_, rfl⟩
            rw [hKY] at hkr
            have hks : KY.size = ky.length := by rw [← hKY, byt_size]
            have hts : TX.size = ((f ky).getD []).length := by rw [← hTX, byt_size]
            have hbn : Story.bulk f (a.keys.take (j + 1)) = Story.bulk f (a.keys.take j) + ((KY.size : Int) + (TX.size : Int)) := by
              rw [List.take_add_one, hky, Story.bulk_append]
              simp [Story.bulk]; omega
            have hb1 := HQ3.out (j + 1)
            have hb0 := Story.bulk_nonneg f (a.keys.take j)
            obtain ⟨bb, hbb⟩ : ∃ bb, Story.bulk f (a.keys.take j) = bb := ⟨_, rfl⟩
            rw [hbb] at hbn hb0 ⊢
            rw [hbn] at hb1
            have HBN := Lib.hid hbn
            have w1_ : IntKind.i64.wrap ((KY.size : Int) + (TX.size : Int)) = (KY.size : Int) + (TX.size : Int) := by rw [IntKind.wrap_i64]; omega
            have w2_ : IntKind.i64.wrap (bb + ((KY.size : Int) + (TX.size : Int))) = bb + ((KY.size : Int) + (TX.size : Int)) := by rw [IntKind.wrap_i64]; omega
            have HKC := Lib.hid hkr
            have HGK := Lib.hid hgk
            have HXZ := Lib.hid hxz
            have HBW2 := Lib.hid hbw
            have HK1 := Lib.hid k1
            have HK2 := Lib.hid k2
            have hjm : (j : Int) < (M : Int) := by omega
            clear ekx hXC hTX hKY hks hts hbn hbb hkr hky hkx hxz hbw k1 k2 hgk
            go_upto_region 20 with (first | (refine wpList_load_mid rfl 40 (.tmp 90) rfl gb ((N + 1) * 4 + j * 4) rfl XC.toList _ hrange.out Tryz.underlying40 rfl hxil ?_) | (refine wpList_store_box rfl 40 (.tmp 15) (.tmp 91) rfl wr.heap.size XC rfl rfl 40 _ (Box.new wr _ _) hxi (by rw [← HXZ.out]; rfl) hone ?_; intro w8 hx8 hu8 hz8; have HZ8 := Lib.hid hz8; clear hz8))
            have hb8 : Below wr.heap.size wr w8 := ((Below.refl _ wr).alloc (Nat.le_refl _) _).trans (hu8.own (Nat.le_refl _) (by simp))
            have HB8 : Hid (Below w7.heap.size w7 w8) := Lib.hid (HBW2.out.trans (hb8.mono HBW2.out.size))
            have u1 : w8.cell? ⟨wr.heap.size, 1, none⟩ = some (.string TX) := (hx8.cell 1).trans HK1.out
            have u2 : w8.cell? ⟨wr.heap.size, 2, none⟩ = some (.bool true) := (hx8.cell 2).trans HK2.out
            have u3 : w8.cell? ⟨gk, ok + j, none⟩ = some (.string KY) := by rw [HB8.out.cell (p := ⟨gk, ok + j, none⟩) HGK.out]; exact HKC.out
            clear hb8 hu8 hx8 hrange HZ8
            go_upto_region 22 with (fail)
            go_quiet (fail)
            go_wp2
            go_roundg (k - (j + 1))
            case measure => rw [HG2.out]; omega
            case rel =>
              exact ⟨j + 1, by omega, rfl, by first | rfl | (rw [HBN.out]) | (rw [HBN.out]; rfl), by go_num, below_drewN HB8.out _⟩
          · have l3 : decide ((j : Int) < (k : Int)) = false := decide_eq_false (by omega)
            have l4 : ¬ (j : Int) < (k : Int) := by omega
            have hle := HQ3.out j
            have l5 : decide (Story.bulk f (a.keys.take j) ≤ 400) = true := decide_eq_true hle
            go_wp2
            go_ret
            exact ⟨by first | rfl | simp [hle], HB7.out.trans (hbw.mono HB7.out.size)⟩
end Go.Proofs.YtlepbooegofoeaaGreatDoor
