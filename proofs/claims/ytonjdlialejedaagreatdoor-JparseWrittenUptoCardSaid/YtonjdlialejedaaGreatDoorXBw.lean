/-
  Texts that the law leans on: PxG, PlI, PlJ, PxW, PxO. Conditions: as each says.
-/
import Derived.Test.YtonjdlialejedaaGreatDoorXBo
import Derived.Test.YtonjdlialejedaaGreatDoorXBp
import Derived.Test.YtonjdlialejedaaGreatDoorXBc
import Derived.Test.YtonjdlialejedaaGreatDoorXBv
import Derived.Test.YtonjdlialejedaaGreatDoorXBq
import Derived.Test.YtonjdlialejedaaGreatDoorXBr
import Derived.Test.YtonjdlialejedaaGreatDoorXBs
import Derived.Test.YtonjdlialejedaaGreatDoorRows
import Derived.Deep.Slices
import Derived.Deep.Strs
import Derived.ProofKit
import Derived.OpenShut
import Derived.SizedLaws
import Derived.Lib.SmallJoins
import Derived.ChangeSame
import Derived.Test.YtonjdlialejedaaGreatDoorXAa
set_option linter.unusedSimpArgs false
set_option linter.unusedVariables false
namespace Go.Proofs.YtonjdlialejedaaGreatDoor
open Go.Lib (hid)
open Go.RowKit
theorem parse_c (s : List UInt8) (w : World) (he : EnvW w) (hm : s.length ≤ 9223372036854775807) :
  Calls Tryz.prog 9 #[.string (byt s)] w fun e w' => ∃ n cs k, e = .returned (.tuple #[.agg cs, .int .i64 k]) ∧ NodeAt w' (fun _ => True) n cs ∧ Below w.heap.size w w' ∧ PC s n k :=
 (parse_any s w he.sp (by have := he.big; omega) hm).mono (by
  rintro e w' (⟨n, cs, hp, rfl, hn, hb⟩ | ⟨k, hp, hk, rfl, hb⟩)
  ·exact ⟨n, cs, 0, rfl, hn.weak (fun _ _ => trivial), hb, .inl ⟨hp, rfl⟩⟩
  ·refine ⟨.mk 0 0 [] [], _, k, rfl, NodeAt.leaf _ _ 0 0 [], hb, .inr ⟨rfl, ?_⟩⟩
   rcases hk with rfl | rfl
   ·exact .inl ⟨rfl, hp⟩
   ·exact .inr ⟨rfl, hp⟩)
def WQ (n : Pars.Node) (t : List UInt8) (k : Int) : Prop := (Wri.write n = .ok t ∧ k = 0) ∨ (t = [] ∧ (k = 2 ∧ Wri.write n = .error 2 ∨ k = 3 ∧ Wri.write n = .error 3))
theorem write_c {n : Pars.Node} {cs : Array Value} {w : World} {S : Nat → Prop} (hM : Wri.wg n ≤ 1048576) (hn : NodeAt w S n cs) (he : EnvW w) :
  Calls Tryz.prog 11 #[.agg cs] w fun e w' => ∃ t k, e = .returned (.tuple #[.string (byt t), .int .i64 k]) ∧ Below w.heap.size w w' ∧ WQ n t k :=
 (write_any hM hn he).mono (by
  rintro e w' (⟨t, ht, rfl, hb⟩ | ⟨k, ht, hk, rfl, hb⟩)
  ·exact ⟨t, 0, rfl, hb, .inl ⟨ht, rfl⟩⟩
  ·refine ⟨[], k, rfl, hb, .inr ⟨rfl, ?_⟩⟩
   rcases hk with rfl | rfl
   ·exact .inl ⟨rfl, ht⟩
   ·exact .inr ⟨rfl, ht⟩)
end Go.Proofs.YtonjdlialejedaaGreatDoor
namespace Pars
open Lexy (Tk)
def Sm (k : Int) (p q : List Tk → R) : Prop := ∀ l, (l.length : Int) ≤ k → p l = q l
theorem sm_refl {k : Int} (p : List Tk → R) : Sm k p p := fun _ _ => rfl
theorem sm_alt {k : Int} {s : Bs} {f g f' g' : List Tk → R} (hf : Sm (k - 1) f f') (hg : Sm k g g') : Sm k (fun l => alt s l f (g l)) (fun l => alt s l f' (g' l)) := by
 intro l hl
 cases hi : is s l with
 | none => simp only [alt, hi]; exact hg l hl
 | some r =>
  simp only [alt, hi]
  obtain ⟨⟨t, rfl, _⟩, _⟩ := is_some hi
  exact hf r (by simp only [List.length_cons] at hl; omega)
theorem sm_must {k : Int} {s : Bs} {f f' : List Tk → R} (hf : Sm (k - 1) f f') : Sm k (fun l => must s l f) (fun l => must s l f') := sm_alt hf (sm_refl _)
theorem sm_tok {k : Int} {j : Nat} {f f' : Tk → List Tk → R} {g g' : List Tk → R} (hf : ∀ t, Sm (k - 1) (f t) (f' t)) (hg : Sm k g g') : Sm k (fun l => tok j l f (g l)) (fun l => tok j l f' (g' l)) := by
 intro l hl
 cases l with
 | nil => exact hg [] hl
 | cons t l =>
  simp only [tok]
  by_cases hk : t.kind = j
  ·rw [if_pos hk, if_pos hk]; exact hf t l (by simp only [List.length_cons] at hl; omega)
  ·rw [if_neg hk, if_neg hk]; exact hg _ hl
theorem sm_named {k : Int} {f f' : Bs → List Tk → R} (hf : ∀ s, Sm (k - 1) (f s) (f' s)) : Sm k (fun l => named l f) (fun l => named l f') := sm_tok (fun t => hf t.text) (sm_refl _)
theorem sm_and {k j : Int} {p p' : List Tk → R} {q q' : Node → List Tk → R} (hp : Sm k p p') (hs : ∀ l x r, p l = some (x, r) → (r.length : Int) + (k - j) ≤ l.length) (hq : ∀ x, Sm j (q x) (q' x)) : Sm k (fun l => andThen (p l) q) (fun l => andThen (p' l) q') := by
 intro l hl
 have e := hp l hl
 simp only [andThen]
 cases h : p l with
 | none => rw [h] at e; rw [← e]
 | some y =>
  obtain ⟨x, r⟩ := y
  rw [h] at e
  rw [← e]
  exact hq x r (by have := hs l x r h; omega)
theorem sm_and1 {k : Int} {n : Nat} {nt : Nt} {fn lp : Bool} {p' : List Tk → R} {q q' : Node → List Tk → R} (hpa : passes nt = true) (hp : Sm k (fun l => run n nt fn lp l) p') (hq : ∀ x, Sm (k - 1) (q x) (q' x)) : Sm k (fun l => andThen (run n nt fn lp l) q) (fun l => andThen (p' l) q') :=
 sm_and hp (fun l x r h => by have := (run_short n nt fn lp l x r h).2 hpa; omega) hq
theorem sm_and0 {k : Int} {n : Nat} {nt : Nt} {fn lp : Bool} {p' : List Tk → R} {q q' : Node → List Tk → R} (hp : Sm k (fun l => run n nt fn lp l) p') (hq : ∀ x, Sm k (q x) (q' x)) : Sm k (fun l => andThen (run n nt fn lp l) q) (fun l => andThen (p' l) q') :=
 sm_and hp (fun l x r h => by have := (run_short n nt fn lp l x r h).1; omega) hq
theorem sm_signs {k : Int} {ss : List Bs} {f f' : Bs → List Tk → R} {g g' : List Tk → R} (hf : ∀ s, Sm (k - 1) (f s) (f' s)) (hg : Sm k g g') : Sm k (fun l => signs ss l f (g l)) (fun l => signs ss l f' (g' l)) := by
 intro l hl
 cases hi : anyOf ss l with
 | none => simp only [signs, hi]; exact hg l hl
 | some z =>
  obtain ⟨s, r⟩ := z
  simp only [signs, hi]
  obtain ⟨⟨t, rfl⟩, _⟩ := any_some hi
  exact hf s r (by simp only [List.length_cons] at hl; omega)
theorem sm_peek {k : Int} {s : Bs} {a b a' b' : List Tk → R} (ha : Sm k a a') (hb : Sm k b b') : Sm k (fun l => peek s l (a l) (b l)) (fun l => peek s l (a' l) (b' l)) := by
 intro l hl
 cases l with
 | nil => exact hb [] hl
 | cons t l =>
  simp only [peek]
  split
  ·exact ha _ hl
  ·exact hb _ hl
theorem Sm.down {k j : Int} {p q : List Tk → R} (h : Sm k p q) (hj : j ≤ k) : Sm j p q := fun l hl => h l (by omega)
theorem sm_sep {k : Int} {more : Bool} {f f' : List Tk → R} (hf : Sm k f f') : Sm k (fun l => sep more l f) (fun l => sep more l f') := by
 cases more
 ·exact hf
 ·exact sm_must (hf.down (by omega))
theorem sm_ite {k : Int} {c : Prop} [Decidable c] {p q p' q' : List Tk → R} (hp : Sm k p p') (hq : Sm k q q') : Sm k (fun l => if c then p l else q l) (fun l => if c then p' l else q' l) := by
 by_cases h : c
 ·simpa [h] using hp
 ·simpa [h] using hq
def ord : Nt → Int
 | .blockGo _ => 14
 | .body _ => 2
 | .ifs => 2
 | .tries => 2
 | .statement => 13
 | .expression => 12
 | .cond => 11
 | .binary r => 10 - r
 | .unary => 3
 | .first => 2
 | .some _ _ _ _ => 13
 | _ => 1
def okN : Nt → Bool
 | .binary r => decide (r ≤ 6)
 | .binGo r _ => decide (r < 6)
 | .some _ .param _ _ => true
 | .some _ .expression _ _ => true
 | .some _ .pair _ _ => true
 | .some _ _ _ _ => false
 | _ => true
theorem ok_some {f : Bs} {one : Nt} {m : Bool} {acc : List Node} (h : okN (.some f one m acc) = true) : okN one = true ∧ ord one ≤ 12 ∧ passes one = true ∧ ∀ m acc, okN (.some f one m acc) = true := by
 cases one <;> first | (simp [okN] at h; done) | exact ⟨rfl, by simp [ord], rfl, fun _ _ => rfl⟩
theorem run_same : ∀ (n : Nat) nt fn lp (k : Int), okN nt = true → 20 * k + ord nt ≤ n → Sm k (fun l => run n nt fn lp l) (fun l => run (n + 1) nt fn lp l)
 | 0, nt, fn, lp, k, ho, hk => by
  intro l hl
  have : 0 < ord nt := by
   cases nt <;> simp only [ord] <;> try omega
   simp only [okN, decide_eq_true_eq] at ho; omega
  omega
 | n + 1, nt, fn, lp, k, ho, hk => by
  have ih := run_same n
  have hk' : 20 * k + ord nt ≤ (n : Int) + 1 := by simpa using hk
  clear hk
  cases nt
  case some fin one more acc =>
   obtain ⟨h1, h2, h3, h4⟩ := ok_some ho
   simp only [ord] at hk'
   simp only [run]
   exact sm_alt (sm_refl _) (sm_sep (sm_and1 h3 (ih _ _ _ _ h1 (by omega)) fun x => ih _ _ _ _ (h4 _ _) (by simp only [ord]; omega)))
  case binary r =>
   simp only [okN, decide_eq_true_eq] at ho
   simp only [ord] at hk'
   simp only [run]
   by_cases hr : r = 6
   ·simp only [hr, if_true]
    exact ih _ _ _ _ rfl (by simp only [ord]; omega)
   ·simp only [if_neg hr]
    exact sm_and1 rfl (ih _ _ _ _ (by simp only [okN, decide_eq_true_eq]; omega) (by simp only [ord]; omega)) fun x => ih _ _ _ _ (by simp only [okN, decide_eq_true_eq]; omega) (by simp only [ord]; omega)
  case binGo r e =>
   simp only [okN, decide_eq_true_eq] at ho
   simp only [ord] at hk'
   simp only [run]
   exact sm_signs (fun s => sm_and1 rfl (ih _ _ _ _ (by simp only [okN, decide_eq_true_eq]; omega) (by simp only [ord]; omega)) fun x => ih _ _ _ _ (by simp only [okN, decide_eq_true_eq]; omega) (by simp only [ord]; omega)) (sm_refl _)
  all_goals
   simp only [ord] at hk'
   simp only [run]
   repeat' first
    | exact sm_refl _
    | exact ih _ _ _ _ rfl (by simp only [ord]; omega)
    | (refine sm_must ?_)
    | (refine sm_named fun _ => ?_)
    | (refine sm_alt ?_ ?_)
    | (refine sm_and1 rfl ?_ fun _ => ?_)
    | (refine sm_and0 ?_ fun _ => ?_)
    | (refine sm_tok (fun _ => ?_) ?_)
    | (refine sm_signs (fun _ => ?_) ?_)
    | (refine sm_peek ?_ ?_)
    | (refine sm_ite ?_ ?_)
theorem ev_fuel {nt : Nt} {fn lp : Bool} {l r : List Tk} {x : Node} (h : Ev nt fn lp l x r) (ho : okN nt = true) {n : Nat} (hn : 20 * (l.length : Int) + ord nt ≤ n) : run n nt fn lp l = some (x, r) := by
 obtain ⟨F, h⟩ := h
 have key : ∀ d, run n nt fn lp l = run (n + d) nt fn lp l := by
  intro d
  induction d with
  | zero => rfl
  | succ d ih => rw [ih]; exact run_same (n + d) nt fn lp l.length ho (by omega) l (Int.le_refl _)
 rw [key F]
 exact h _ (by omega)
theorem ev_stmt {l r : List Tk} {x : Node} (h : Ev .statement false false l x r) : run (fuel l) .statement false false l = some (x, r) := ev_fuel h rfl (by unfold fuel; simp only [ord]; omega)
end Pars
namespace Wri
open Pars
open Lexy (Tk sg kw nm)
theorem top_tw : ∀ (l acc : List Node) (n : Nat), l.length ≤ n → (∀ x ∈ l, Rt false false x) → (∀ x ∈ l, 20 ≤ x.kind) → top n acc (l.flatMap fun x => tw x .stmt) = some (acc ++ l) ∧ NoF (l.flatMap fun x => tw x .stmt)
 | [], acc, n, _, _, _ => ⟨by cases n <;> simp [top], ⟨rfl, rfl, rfl⟩⟩
 | x :: l, acc, 0, h, _, _ => by simp at h
 | x :: l, acc, n + 1, h, h1, h2 => by
  obtain ⟨i1, i2⟩ := top_tw l (acc ++ [x]) n (by simp at h; omega) (fun y hy => h1 y (by simp [hy])) fun y hy => h2 y (by simp [hy])
  have hx := (ps (h1 x (by simp))).stmt (h2 x (by simp)) _ i2
  rw [List.flatMap_cons]
  have hne := stmt_ne (r := x) hx
  have hr := ev_stmt hx
  refine ⟨?_, noF_ev hx⟩
  cases hl : tw x .stmt ++ l.flatMap fun x => tw x .stmt with
  | nil => exact absurd hl hne
  | cons t q =>
   rw [hl] at hr
   simp only [top]
   rw [hr]
   simp only
   rw [i1, List.append_assoc]; rfl
theorem tree_tw {n : Node} (h : Rt false false n) (hk : n.kind = 30) : tree (ttext n) = some n := by
 cases h with
 | block _ _ l h1 h2 =>
  unfold tree
  have := (top_tw l [] (l.flatMap fun x => tw x .stmt).length (flat_len l h2 fun x hx => (h1 x hx).1) h2 fun x hx => (h1 x hx).1).1
  rw [List.nil_append] at this
  show Option.map _ (top _ [] (l.flatMap fun x => tw x .stmt)) = _
  rw [show (ttext (.mk 30 0 [] l)).length = (l.flatMap fun x => tw x .stmt).length from rfl, this]
  rfl
 | _ => simp [Node.kind] at hk
theorem check_ok {n : Node} (h : check n = 0) : n.kind = 30 ∧ Rt false false n ∧ Pars.deep n ≤ 40 := by
 unfold check at h
 split at h
 ·cases h
 ·rename_i h1
  split at h
  ·cases h
  ·rename_i h2
   refine ⟨?_, rt_of n false false ?_, by omega⟩
   ·by_cases hk : n.kind = 30
    ·exact hk
    ·exact absurd (.inl hk) h1
   ·cases hr : right n false false with
    | true => rfl
    | false => exact absurd (.inr hr) h1
theorem written {n : Node} {s : Bs} (h : write n = .ok s) : parse s = .error 2 ∧ ¬ (ttext n).length ≤ 1000 ∨ parse s = .ok n := by
 unfold write at h
 split at h
 ·cases h
 ·rename_i hc
  split at h
  ·cases h
  ·rename_i hl
   injection h with h
   subst h
   obtain ⟨h1, h2, h3⟩ := check_ok (Decidable.not_not.1 hc)
   have ht := toks_text h2 h1 (Nat.not_lt.1 hl)
   unfold parse
   by_cases hn : (ttext n).length ≤ 1000
   ·rw [if_pos hn] at ht
    obtain ⟨full, e1, e2, _⟩ := ht
    rw [e1]
    simp only
    rw [e2, tree_tw h2 h1]
    simp only
    rw [if_neg (by omega)]
    exact .inr rfl
   ·rw [if_neg hn] at ht
    rw [ht]
    exact .inl ⟨rfl, hn⟩
end Wri
namespace Go.Proofs.YtonjdlialejedaaGreatDoor
open Go.Lib (hid)
open Go.RowKit
set_option maxRecDepth 100000 in
set_option maxHeartbeats 4000000 in
theorem written_true {n0 : Pars.Node} {cs0 : Array Value} {S : Nat → Prop} (w : World) (hn : NodeAt w S n0 cs0) (hM : Wri.wg n0 ≤ 1048576) (he : EnvW w) : Calls Tryz.prog 4 #[.agg cs0] w (TruthOut w) := by
 have HE := hid he
 have hbig := he.big
 clear he
 have HINF0 : Hid ((Tryz.prog.info? 24).map (·.size) = some cs0.size) := hid (by rw [NodeAt.size hn]; exact info_nod)
 have H40 : Hid ((4 : Nat) = cs0.size) := hid (NodeAt.size hn).symm
 have HONE0 := hid (NodeAt.one hn)
 have hsz0 : Pars.size n0 ≤ 4611686018427387904 := by have := size_wg n0; omega
 go_enter Tryz.func4, Tryz.ntmps4
 go_upto_region 1 with fail
 have hx := Box.new w 24 cs0
 have hb : Below w.heap.size w (w.alloc (.cells cs0 24)) := below1 w _
 obtain ⟨w1, hw1⟩ : ∃ q, w.alloc (.cells cs0 24) = q := ⟨_, rfl⟩
 rw [hw1] at hx hb
 rw [hw1]
 clear hw1
 have EB0 := hid hx
 have HN0 := hid (hn.below hb)
 have HU := hid hb
 clear hx hb hn
 have eb0 := EB0.out
 go_wp2_with (refine wpList_load_row rfl 24 (.tmp 1) rfl w.heap.size rfl _ cs0 (0, 0) _ eb0 Tryz.underlying24 rfl HINF0.out ?_)
 refine (write_c hM HN0.out (HE.out.below HU.out hbig)).mono ?_
 rintro e w2 ⟨t1, k1, rfl, hb, hwq⟩
 clear eb0
 replace HN0 := hid (HN0.out.below hb)
 replace EB0 := bl EB0 hb
 replace HU := hid (HU.out.trans (hb.mono HU.out.size))
 have HWQ1 := hid hwq
 clear hb hwq
 go_wp2_with fail
 refine (lives_true _ (HE.out.below HU.out hbig)).mono ?_
 rintro e w3 ⟨rfl, hb⟩
 replace HN0 := hid (HN0.out.below hb)
 replace EB0 := bl EB0 hb
 replace HU := hid (HU.out.trans (hb.mono HU.out.size))
 clear hb
 rcases HWQ1.out with ⟨hw, hk⟩ | ⟨rfl, hk⟩
 ·subst hk
  have d2 : ((0 : Int) != 0) = false := rfl
  have htl : t1.length ≤ 9223372036854775807 := by
   unfold Wri.write at hw
   split at hw
   ·cases hw
   ·split at hw
    ·cases hw
    ·injection hw with hw; subst hw; omega
  have HWR := hid (Wri.written hw)
  clear hw
  go_wp2_with fail
  refine (parse_c t1 _ (HE.out.below HU.out hbig) htl).mono ?_
  rintro e w4 ⟨n2, cs2, k2, rfl, hn, hb, hpc⟩
  replace HN0 := hid (HN0.out.below hb)
  replace EB0 := bl EB0 hb
  replace HU := hid (HU.out.trans (hb.mono HU.out.size))
  have HN2 := hid hn
  have HPC2 := hid hpc
  have HINF2 : Hid ((Tryz.prog.info? 24).map (·.size) = some cs2.size) := hid (by rw [NodeAt.size hn]; exact info_nod)
  have H42 : Hid ((4 : Nat) = cs2.size) := hid (NodeAt.size hn).symm
  have HONE2 := hid (NodeAt.one hn)
  clear hn hb hpc
  go_upto_region 5 with (refine wpList_store_box rfl 24 (.tmp 5) (.tmp 26) rfl w4.heap.size cs2 rfl rfl 24 _ (Box.new w4 _ _) HINF2.out H42.out HONE2.out ?_; intro w5 hx hu hz; have HZ := hid hz; clear hz)
  have hb : Below w4.heap.size w4 w5 := (below1 w4 _).trans (hu.own (Nat.le_refl _) (by simp))
  have EB2 := hid hx
  replace HN0 := hid (HN0.out.below hb)
  replace HN2 := hid (HN2.out.below hb)
  replace EB0 := bl EB0 hb
  replace HU := hid (HU.out.trans (hb.mono HU.out.size))
  clear hx hu hb
  have hk2 : k2 = 2 ∨ k2 = 0 ∧ n2 = n0 := by
   rcases HPC2.out with ⟨h, rfl⟩ | ⟨_, ⟨rfl, _⟩ | ⟨_, h⟩⟩
   ·rcases HWR.out with ⟨e, _⟩ | e
    ·rw [h] at e; cases e
    ·rw [h] at e; injection e with e; exact .inr ⟨rfl, e⟩
   ·exact .inl rfl
   ·rcases HWR.out with ⟨e, _⟩ | e
    ·rw [h] at e; cases e
    ·rw [h] at e; cases e
  rcases hk2 with rfl | ⟨rfl, rfl⟩
  ·have e1 : ((2 : Int) == 2) = true := rfl
   go_wp2
   go_ret
   exact ⟨rfl, HU.out⟩
  ·have e1 : ((0 : Int) == 2) = false := rfl
   have eb0 := EB0.out
   have eb2 := EB2.out
   go_wp2_with (first | (refine wpList_load_row_g (by kernel_rfl) 24 (.tmp 1) rfl w.heap.size rfl _ cs0 _ eb0 Tryz.underlying24 rfl HINF0.out ?_) | (refine wpList_load_row_g (by kernel_rfl) 24 (.tmp 5) rfl w4.heap.size rfl _ cs2 _ eb2 Tryz.underlying24 rfl HINF2.out ?_))
   refine (same_any hsz0 HN0.out HN2.out).mono ?_
   rintro e w6 ⟨rfl, hb⟩
   clear eb0 eb2
   replace HN0 := hid (HN0.out.below hb)
   replace HN2 := hid (HN2.out.below hb)
   replace EB0 := bl EB0 hb
   replace EB2 := bl EB2 hb
   replace HU := hid (HU.out.trans (hb.mono HU.out.size))
   clear hb
   rw [Pars.same_refl]
   go_wp2
   go_ret
   exact ⟨rfl, HU.out⟩
 ·have hk0 : k1 ≠ 0 := by rcases hk with ⟨rfl, _⟩ | ⟨rfl, _⟩ <;> decide
  have e1 : (k1 == 0) = false := bn hk0
  have e2 : (k1 != 0) = true := by simp [bne, e1]
  go_wp2_with fail
  refine (lives_true _ (HE.out.below HU.out hbig)).mono ?_
  rintro e w4 ⟨rfl, hb⟩
  replace HN0 := hid (HN0.out.below hb)
  replace EB0 := bl EB0 hb
  replace HU := hid (HU.out.trans (hb.mono HU.out.size))
  clear hb
  go_wp2
  go_ret
  exact ⟨by simp [byt], HU.out⟩
end Go.Proofs.YtonjdlialejedaaGreatDoor
namespace Go.Proofs.YtonjdlialejedaaGreatDoor
open Go.Lib (hid)
open Go.RowKit Go.ChangeShapes Go.WideShapes Go.Joins Go.Deep
instance : Inhabited Pars.Node := ⟨.mk 0 0 [] []⟩
theorem flatA_get : ∀ (css : List (Array Value)), (∀ c ∈ css, c.size = 4) → ∀ (j : Nat) (u : Value), (flatA css)[j]? = some u → ∃ c, css[j / 4]? = some c ∧ c.toList[j % 4]? = some u
 | [], _, j, u, h => by simp [flatA] at h
 | c :: css, hs, j, u, h => by
  have hc : c.toList.length = 4 := by rw [Array.length_toList]; exact hs c (by simp)
  have e : flatA (c :: css) = c.toList ++ flatA css := by simp [flatA]
  rw [e] at h
  by_cases hj : j < 4
  ·rw [List.getElem?_append_left (by omega)] at h
   refine ⟨c, ?_, ?_⟩
   ·rw [show j / 4 = 0 by omega]; rfl
   ·rw [show j % 4 = j by omega]; exact h
  ·rw [List.getElem?_append_right (by omega), hc] at h
   obtain ⟨d, h1, h2⟩ := flatA_get css (fun c hc => hs c (by simp [hc])) (j - 4) u h
   refine ⟨d, ?_, ?_⟩
   ·rw [show j / 4 = (j - 4) / 4 + 1 by omega]; exact h1
   ·rw [show j % 4 = (j - 4) % 4 by omega]; exact h2
theorem nodesAt_map {w : World} {S : Nat → Prop} {K : Nat → Pars.Node} {C : Nat → Array Value} : ∀ L : List Nat, (∀ i ∈ L, NodeAt w S (K i) (C i)) → NodesAt w S (L.map K) (L.map C)
 | [], _ => by simp only [List.map_nil]; unfold NodesAt; trivial
 | i :: L, h => by simp only [List.map_cons]; unfold NodesAt; exact ⟨h i (by simp), nodesAt_map L fun j hj => h j (by simp [hj])⟩
theorem wgs_map {H : Type} {K : Nat → Pars.Node} {D : Nat → DataW H} : ∀ L : List Nat, (∀ i ∈ L, Wri.wg (K i) ≤ Rows.uptoBulk (D i)) → Wri.wgs (L.map K) ≤ Rows.uptoBulkAll (L.map D)
 | [], _ => by simp [Wri.wgs]
 | i :: L, h => by
  have h1 := h i (by simp)
  have h2 := wgs_map L fun j hj => h j (by simp [hj])
  simp only [List.map_cons, Wri.wgs, Rows.uptoBulkAll]
  omega
theorem c4_nod : Tryz.prog.cellsOf 24 = 4 := by kernel_rfl
theorem c1_int : Tryz.prog.cellsOf 3 = 1 := by kernel_rfl
theorem c1_str : Tryz.prog.cellsOf 9 = 1 := by kernel_rfl
theorem c1_row : Tryz.prog.cellsOf 22 = 1 := by kernel_rfl
section
variable {H : Type} {enc : TypeId × Value → H} {w : World} {base : Nat} {spare : Nat → Bool} {held : Bool}
set_option maxRecDepth 100000 in
theorem open_node : ∀ (fuel : Nat) {cs : List Value} {x : DataW H × List MemPlace}, DataW.trod enc Tryz.prog w base spare held fuel 24 cs = some x → ∃ (n : Pars.Node) (ca : Array Value), cs = ca.toList ∧ NodeAt w (fun _ => True) n ca ∧ Wri.wg n ≤ Rows.uptoBulk x.1 := by
 intro fuel
 induction fuel using Nat.strongRecOn with
 | _ fuel ih =>
 intro cs x h
 obtain ⟨xs, m, hm, hxx, hl, hx, hf⟩ := DataW.trod_struct Tryz.underlying24 h
 rw [c4_nod] at hl
 match cs, hl with
 | [c0, c1, c2, c3], _ =>
  match xs, hx with
  | [y0, y1, y2, y3], _ =>
   have f0 : DataW.trod enc Tryz.prog w base spare held m 3 [c0] = some y0 := by have := hf 0 _ rfl; simpa [c1_int] using this
   have f1 : DataW.trod enc Tryz.prog w base spare held m 3 [c1] = some y1 := by have := hf 1 _ rfl; simpa [c1_int] using this
   have f2 : DataW.trod enc Tryz.prog w base spare held m 9 [c2] = some y2 := by have := hf 2 _ rfl; simpa [c1_str] using this
   have f3 : DataW.trod enc Tryz.prog w base spare held m 22 [c3] = some y3 := by have := hf 3 _ rfl; simpa [c1_row] using this
   obtain ⟨a0, e0, d0, _⟩ := DataW.trod_int Tryz.underlying3 f0
   obtain ⟨a1, e1, d1, _⟩ := DataW.trod_int Tryz.underlying3 f1
   obtain ⟨s2, e2, d2, _⟩ := DataW.trod_string Tryz.underlying9 f2
   obtain ⟨a2, rfl⟩ := byt_of s2
   simp at e0 e1 e2
   subst e0 e1 e2
   subst hxx d0 d1 d2
   rcases DataW.trod_slice Tryz.underlying22 f3 with ⟨e3, hy3⟩ | ⟨a, len, cap, elems, rest, m2, hm2, e3, hy3, _, hlc, hcap, hel, hi, _, _⟩
   ·simp at e3
    subst e3 hy3
    refine ⟨.mk a0 a1 a2 [], nc a0 a1 a2 (.slice none 0 0), rfl, NodeAt.leaf _ _ _ _ _, ?_⟩
    simp [Wri.wg, Wri.wgs, Rows.uptoBulk, Rows.uptoBulkAll, byt]
    omega
   ·simp at e3
    subst e3
    rw [c4_nod] at hi
    have key : ∀ i, i < len → ∃ p : Pars.Node × Array Value, w.cells? base (a.add (i * 4)) 4 = some p.2.toList ∧ NodeAt w (fun _ => True) p.1 p.2 ∧ Wri.wg p.1 ≤ Rows.uptoBulk ((elems.getD i (.nil, [])).1) := by
     intro i hil
     have hii := hi i hil
     rw [List.getElem?_eq_getElem (by omega)] at hii
     obtain ⟨cs', h1, h2⟩ := Option.bind_eq_some_iff.1 hii
     obtain ⟨k, ck, rfl, hk, hwk⟩ := ih m2 (by omega) h2
     refine ⟨(k, ck), h1, hk, ?_⟩
     simpa [List.getD, List.getElem?_eq_getElem (show i < elems.length by omega)] using hwk
    obtain ⟨F, hF⟩ := choose_lt (α := Pars.Node × Array Value) (n := len) key
    have hcell : ∀ i, i < len → ∀ j, j < 4 → w.cell? (a.add (i * 4 + j)) = (F i).2.toList[j]? := by
     intro i hil j hj
     obtain ⟨_, _, h3⟩ := World.cells?_some (hF i hil).1
     rw [← add_add]
     exact h3 j hj
    have hlen : ((List.range len).map fun i => (F i).1).length = len := by simp
    have hnn : NodesAt w (fun _ => True) ((List.range len).map fun i => (F i).1) ((List.range len).map fun i => (F i).2) := nodesAt_map _ fun i hi2 => (hF i (List.mem_range.1 hi2)).2.1
    refine ⟨.mk a0 a1 a2 ((List.range len).map fun i => (F i).1), nc a0 a1 a2 (.slice (some a) len cap), rfl, ?_, ?_⟩
    ·unfold NodeAt
     refine ⟨some a, cap, _, by rw [hlen], by rw [hlen]; exact hlc, by unfold maxLen at hcap; omega, fun hn => ?_, hnn⟩
     rw [hlen] at hn
     have hsz : ∀ i, i < len → (F i).2.size = 4 := fun i hil => NodeAt.size (hF i hil).2.1
     have h0 := hcell 0 hn 0 (by omega)
     have h0l : 0 < (F 0).2.toList.length := by rw [Array.length_toList, hsz 0 hn]; omega
     rw [List.getElem?_eq_getElem h0l, show a.add (0 * 4 + 0) = a by simp [Addr.add]] at h0
     obtain ⟨g, o, sp⟩ := a
     have hsp : sp = none := World.cell?_spot h0
     subst hsp
     have hadd : ∀ n, Addr.add ⟨g, o, none⟩ n = ⟨g, o + n, none⟩ := by intro n; unfold Addr.add; split <;> simp_all
     refine ⟨g, o, rfl, trivial, ?_, ?_⟩
     ·have : w.cell? ⟨g, o, none⟩ ≠ none := by rw [h0]; simp
      by_cases hg : g < w.heap.size
      ·exact hg
      ·exfalso; apply this; simp [World.cell?, Array.getElem?_eq_none (Nat.le_of_not_lt hg)]
     ·intro j u hu
      obtain ⟨c, h1, h2⟩ := flatA_get _ (fun c hc => by
       obtain ⟨i, hi2, rfl⟩ := List.mem_map.1 hc
       exact hsz i (List.mem_range.1 hi2)) j u hu
      have hjl : j / 4 < len := by
       have := (List.getElem?_eq_some_iff.1 h1).1
       simpa using this
      have hc : c = (F (j / 4)).2 := by
       have h3 : ((List.range len).map fun i => (F i).2)[j / 4]? = some ((F (j / 4)).2) := by simp [hjl]
       rw [h3] at h1
       injection h1 with h1
       exact h1.symm
      subst hc
      have h4 := hcell (j / 4) hjl (j % 4) (Nat.mod_lt _ (by omega))
      rw [show j / 4 * 4 + j % 4 = j by omega, hadd, h2] at h4
      exact h4
    ·have hw := wgs_map (K := fun i => (F i).1) (D := fun i => (elems.getD i (.nil, [])).1) (List.range len) fun i hi2 => (hF i (List.mem_range.1 hi2)).2.2
     have he : (List.range len).map (fun i => (elems.getD i (.nil, [])).1) = elems.map (·.1) := by rw [map_by_index elems (.nil, []) (·.1), hel]
     rw [he] at hw
     subst hy3
     simp only [Wri.wg, List.map_cons, List.map_nil, Rows.uptoBulk, Rows.uptoBulkAll, byt]
     simp
     omega
variable {r : Reach} {b0 : Nat} {v : Value} {d : DataW H} {p : List MemPlace}
set_option maxRecDepth 100000 in
theorem open_tree (hv : Value.okWide Tryz.prog w r b0 24 v) (h : DataW.Trod enc Tryz.prog w base spare held 24 v d p) : ∃ (n : Pars.Node) (ca : Array Value), v = .agg ca ∧ NodeAt w (fun _ => True) n ca ∧ Wri.wg n ≤ Rows.uptoBulk d := by
 obtain ⟨cs, rfl, _⟩ := okWide_struct Tryz.underlying24 hv
 obtain ⟨fuel, hf⟩ := h
 obtain ⟨n, ca, e, hn, hw⟩ := open_node fuel hf
 exact ⟨n, ca, congrArg Value.agg (Array.toList_inj.1 e), hn, hw⟩
end
end Go.Proofs.YtonjdlialejedaaGreatDoor
