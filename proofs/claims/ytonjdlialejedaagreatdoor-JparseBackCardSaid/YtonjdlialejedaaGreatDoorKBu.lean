/-
  Texts that the law leans on: PlJ, LexB, LexP, PlM, PxD, PxN. Conditions: as each says.
-/
import Derived.Test.YtonjdlialejedaaGreatDoorKBs
import Derived.Test.YtonjdlialejedaaGreatDoorKBt
import Derived.Test.YtonjdlialejedaaGreatDoorKBn
import Derived.Test.YtonjdlialejedaaGreatDoorKAb
import Derived.Test.YtonjdlialejedaaGreatDoorKBq
import Derived.Test.YtonjdlialejedaaGreatDoorRows
import Derived.Test.YtonjdlialejedaaGreatDoorKBa
import Derived.LaidMore
import Derived.Lib.LaidTab
import Derived.Stop.LaidErr
import Derived.Deep.DeepHandedRow
import Derived.Deep.DeepWitnessRowRef
import Derived.Test.YtonjdlialejedaaGreatDoorKAa
set_option linter.unusedSimpArgs false
set_option linter.unusedVariables false
namespace Wri
open Pars
open Lexy (Tk sg kw nm)
theorem stmt_ne {x r : Node} {l m : List Tk} (h : Ev .statement false false l x m) : l ≠ [] := by
 rintro rfl
 obtain ⟨n, h⟩ := h.one
 rw [eats _ .statement _ _ rfl] at h
 cases h
theorem top_tw : ∀ (l acc : List Node) (n : Nat), l.length ≤ n → (∀ x ∈ l, Rt false false x) → (∀ x ∈ l, 20 ≤ x.kind) → top n acc (l.flatMap fun x => tw x .stmt) = some (acc ++ l) ∧ NoF (l.flatMap fun x => tw x .stmt)
 | [], acc, n, _, _, _ => ⟨by cases n <;> simp [top], ⟨rfl, rfl, rfl⟩⟩
 | x :: l, acc, 0, h, _, _ => by simp at h
 | x :: l, acc, n + 1, h, h1, h2 => by
  obtain ⟨i1, i2⟩ := top_tw l (acc ++ [x]) n (by simp at h; omega) (fun y hy => h1 y (by simp [hy])) fun y hy => h2 y (by simp [hy])
  have hx := (ps (h1 x (by simp))).stmt (h2 x (by simp)) _ i2
  rw [List.flatMap_cons]
  have hne := stmt_ne (r := x) hx
  have hr := ev_stmt hx
  refine ⟨?_, noF_ev hx⟩
  cases hl : tw x .stmt ++ l.flatMap fun x => tw x .stmt with
  | nil => exact absurd hl hne
  | cons t q =>
   rw [hl] at hr
   simp only [top]
   rw [hr]
   simp only
   rw [i1, List.append_assoc]; rfl
theorem tw_pos {x : Node} (h1 : Rt false false x) (h2 : 20 ≤ x.kind) : 0 < (tw x .stmt).length := by
 have := stmt_ne (r := x) ((ps h1).stmt h2 [] ⟨rfl, rfl, rfl⟩)
 rw [List.append_nil] at this
 exact List.length_pos_iff.2 this
theorem flat_len : ∀ l : List Node, (∀ x ∈ l, Rt false false x) → (∀ x ∈ l, 20 ≤ x.kind) → l.length ≤ (l.flatMap fun x => tw x .stmt).length
 | [], _, _ => by simp
 | x :: l, h1, h2 => by
  have := flat_len l (fun y hy => h1 y (by simp [hy])) fun y hy => h2 y (by simp [hy])
  have := tw_pos (h1 x (by simp)) (h2 x (by simp))
  simp only [List.flatMap_cons, List.length_append, List.length_cons]; omega
theorem tree_tw {n : Node} (h : Rt false false n) (hk : n.kind = 30) : tree (ttext n) = some n := by
 cases h with
 | block _ _ l h1 h2 =>
  unfold tree
  have := (top_tw l [] (l.flatMap fun x => tw x .stmt).length (flat_len l h2 fun x hx => (h1 x hx).1) h2 fun x hx => (h1 x hx).1).1
  rw [List.nil_append] at this
  show Option.map _ (top _ [] (l.flatMap fun x => tw x .stmt)) = _
  rw [show (ttext (.mk 30 0 [] l)).length = (l.flatMap fun x => tw x .stmt).length from rfl, this]
  rfl
 | _ => simp [Node.kind] at hk
theorem check_ok {n : Node} (h : check n = 0) : n.kind = 30 ∧ Rt false false n ∧ Pars.deep n ≤ 40 := by
 unfold check at h
 split at h
 ·cases h
 ·rename_i h1
  split at h
  ·cases h
  ·rename_i h2
   refine ⟨?_, rt_of n false false ?_, by omega⟩
   ·by_cases hk : n.kind = 30
    ·exact hk
    ·exact absurd (.inl hk) h1
   ·cases hr : right n false false with
    | true => rfl
    | false => exact absurd (.inr hr) h1
theorem written {n : Node} {s : Bs} (h : write n = .ok s) : parse s = .error 2 ∧ ¬ (ttext n).length ≤ 1000 ∨ parse s = .ok n := by
 unfold write at h
 split at h
 ·cases h
 ·rename_i hc
  split at h
  ·cases h
  ·rename_i hl
   injection h with h
   subst h
   obtain ⟨h1, h2, h3⟩ := check_ok (Decidable.not_not.1 hc)
   have ht := toks_text h2 h1 (Nat.not_lt.1 hl)
   unfold parse
   by_cases hn : (ttext n).length ≤ 1000
   ·rw [if_pos hn] at ht
    obtain ⟨full, e1, e2, _⟩ := ht
    rw [e1]
    simp only
    rw [e2, tree_tw h2 h1]
    simp only
    rw [if_neg (by omega)]
    exact .inr rfl
   ·rw [if_neg hn] at ht
    rw [ht]
    exact .inl ⟨rfl, hn⟩
end Wri
namespace Lexy
def SO : Bs := [32, 9, 47, 47, 32, 115, 111, 10]
def so (first : Bool) (g : Bs) : Bs := if !first && !(g.contains 47) then SO else []
end Lexy
namespace Lexy
theorem skp_zero_take {l : Bs} (h : skp false l = 0) (n : Nat) : skp false (l.take n) = 0 := by
 cases l with
 | nil => simp [skp]
 | cons c r =>
  cases n with
  | zero => simp [skp]
  | succ n =>
   rw [List.take_succ_cons]
   simp only [skp] at h ⊢
   by_cases h1 : isBlank c = true
   ·rw [if_pos h1] at h; omega
   ·rw [if_neg h1] at h ⊢
    by_cases h2 : (c == 47 && r.head? == some 47) = true
    ·rw [if_pos h2] at h; omega
    ·rw [if_neg]
     intro h3
     apply h2
     simp only [Bool.and_eq_true] at h3 ⊢
     refine ⟨h3.1, ?_⟩
     cases n with
     | zero => simp at h3
     | succ n =>
      cases r with
      | nil => simp at h3
      | cons d q => simpa using h3.2
theorem own_toks {l : Bs} {t : Tk} {n : Nat} (hz : skp false l = 0) (hn : next l = .ok (t, n)) (h : l.length ≤ 2000) : toks (l.take n) = .ok [⟨t, 0, n⟩] := by
 obtain ⟨_, hl, h0, hs⟩ := next_split hn
 have h1 := hs [] (.inr (by simp))
 rw [List.append_nil] at h1
 have h2 := skp_zero_take hz n
 unfold toks
 rw [if_neg (by simp; omega), toksR_eq, h2, List.drop_zero]
 have hlen := next_len hn
 cases ht : l.take n with
 | nil => rw [ht] at hl; simp at hl; omega
 | cons c r =>
  rw [ht] at h1 hl
  simp only [h1]
  have hd : (c :: r).drop n = [] := List.drop_eq_nil_of_le (by omega)
  rw [hd, toksR_eq]
  simp
end Lexy
namespace Wri
open Pars
open Lexy (Tk sg kw nm LexT Lex)
theorem numF_le : ∀ (l : Bs) (m n : Nat), m ≤ 9007199254740992 → Lexy.numF m l = some n → n ≤ 9007199254740992
 | [], m, n, hm, h => by simp only [Lexy.numF, Option.some.injEq] at h; omega
 | c :: r, m, n, hm, h => by
  simp only [Lexy.numF] at h
  split at h
  ·cases h
  ·exact numF_le r _ n (by omega) h
theorem next_tg {l : Bs} {t : Tk} {n : Nat} (hz : Lexy.skp false l = 0) (hn : Lexy.next l = .ok (t, n)) (hl : l.length ≤ 2000) : TG t := by
 have hown := Lexy.own_toks hz hn hl
 cases l with
 | nil => simp [Lexy.next] at hn
 | cons c r =>
  simp only [Lexy.next] at hn
  by_cases h1 : Lexy.isLetter c = true
  ·rw [if_pos h1] at hn
   simp only [Lexy.Res.ok.injEq, Prod.mk.injEq] at hn
   obtain ⟨rfl, rfl⟩ := hn
   refine ⟨fun hk => ?_, fun hk => ?_, fun hk => ?_⟩
   ·unfold name
    simp only at hk ⊢
    rw [hown]
    simp only [hk]
    simp
   ·simp only at hk; split at hk <;> cases hk
   ·simp only at hk ⊢
    split at hk
    ·assumption
    ·cases hk
  rw [if_neg h1] at hn
  by_cases h2 : Lexy.isDigit c = true
  ·rw [if_pos h2] at hn
   split at hn
   ·cases hn
   ·rename_i m hm
    split at hn
    ·cases hn
    ·simp only [Lexy.Res.ok.injEq, Prod.mk.injEq] at hn
     obtain ⟨rfl, rfl⟩ := hn
     exact ⟨fun hk => (by cases hk), fun _ => numF_le _ 0 m (by omega) hm, fun hk => (by cases hk)⟩
  rw [if_neg h2] at hn
  split at hn
  ·split at hn
   ·cases hn
   ·simp only [Lexy.Res.ok.injEq, Prod.mk.injEq] at hn
    obtain ⟨rfl, rfl⟩ := hn
    exact ⟨fun hk => (by cases hk), fun hk => (by cases hk), fun hk => (by cases hk)⟩
  ·unfold Lexy.sign at hn
   split at hn
   ·simp only [Lexy.Res.ok.injEq, Prod.mk.injEq] at hn
    obtain ⟨rfl, rfl⟩ := hn
    exact ⟨fun hk => (by cases hk), fun hk => (by cases hk), fun hk => (by cases hk)⟩
   ·split at hn
    ·simp only [Lexy.Res.ok.injEq, Prod.mk.injEq] at hn
     obtain ⟨rfl, rfl⟩ := hn
     exact ⟨fun hk => (by cases hk), fun hk => (by cases hk), fun hk => (by cases hk)⟩
    ·cases hn
theorem lex_tg {p : Nat} {l : Bs} {ts : List Lexy.Tok} (h : Lex p l ts) : l.length ≤ 2000 → TGs (ts.map (·.toTk)) := by
 induction h with
 | done p l hd => intro _ t ht; cases ht
 | more p l t n ts hne hn _ ih =>
  intro hl x hx
  rw [List.map_cons, List.mem_cons] at hx
  rcases hx with rfl | hx
  ·exact next_tg (Lexy.skp_idem false l) hn (by rw [List.length_drop]; omega)
  ·exact ih (by rw [List.length_drop, List.length_drop]; omega) x hx
theorem top_cw : ∀ (n : Nat) (acc : List Node) (l : List Tk) (k : List Node), TGs l → (∀ y ∈ acc, (20 ≤ y.kind ∧ y.kind ≤ 31) ∧ Rt false false y) → top n acc l = some k →
  (∀ y ∈ k, (20 ≤ y.kind ∧ y.kind ≤ 31) ∧ Rt false false y) ∧ (k.flatMap fun x => tw x .stmt).length ≤ (acc.flatMap fun x => tw x .stmt).length + l.length
 | n, acc, [], k, _, ha, h => by
  have : k = acc := by cases n <;> simp [top] at h <;> exact h.symm
  subst this
  exact ⟨ha, by omega⟩
 | 0, acc, t :: l, k, _, _, h => by simp [top] at h
 | n + 1, acc, t :: l, k, hg, ha, h => by
  simp only [top] at h
  cases hr : run (fuel (t :: l)) .statement false false (t :: l) with
  | none => rw [hr] at h; cases h
  | some y =>
   obtain ⟨x, r⟩ := y
   rw [hr] at h
   obtain ⟨h1, h2, h3⟩ := run_cw _ .statement false false true trivial (t :: l) x r hg trivial hr
   have := top_cw n (acc ++ [x]) r k h3 (fun y hy => by
    rcases List.mem_append.1 hy with hy | hy
    ·exact ha y hy
    ·rw [List.mem_singleton.1 hy]; exact h1) h
   refine ⟨this.1, ?_⟩
   have h4 := this.2
   simp only [fc, ow] at h2
   simp only [List.flatMap_append, List.flatMap_cons, List.flatMap_nil, List.append_nil, List.length_append] at h4
   omega
theorem tree_cw {l : List Tk} {n : Node} (hg : TGs l) (h : tree l = some n) : n.kind = 30 ∧ Rt false false n ∧ (ttext n).length ≤ l.length := by
 unfold tree at h
 cases ht : top l.length [] l with
 | none => rw [ht] at h; cases h
 | some k =>
  rw [ht] at h
  injection h with h
  subst h
  obtain ⟨h1, h2⟩ := top_cw _ [] l k hg (fun y hy => by cases hy) ht
  exact ⟨rfl, .block false false k (fun x hx => (h1 x hx).1) fun x hx => (h1 x hx).2, Nat.le_trans h2 (by simp)⟩
theorem parse_right {s : Bs} {n : Node} (h : parse s = .ok n) : ∃ full, Lexy.toks s = .ok full ∧ Lex 0 s full ∧ full.length ≤ 1000 ∧ n.kind = 30 ∧ Rt false false n ∧ Pars.deep n ≤ 40 ∧ (ttext n).length ≤ full.length := by
 unfold parse at h
 cases ht : Lexy.toks s with
 | err e => rw [ht] at h; cases h
 | ok l =>
  rw [ht] at h
  simp only at h
  unfold Lexy.toks at ht
  split at ht
  ·cases ht
  ·rename_i hl
   obtain ⟨h1, h2⟩ := Lexy.lex_of _ _ _ _ ht
   cases hr : tree (l.map (·.toTk)) with
   | none => rw [hr] at h; cases h
   | some m =>
    rw [hr] at h
    simp only at h
    split at h
    ·cases h
    ·rename_i hd
     injection h with h
     subst h
     obtain ⟨e1, e2, e3⟩ := tree_cw (lex_tg h1 (Nat.not_lt.1 hl)) hr
     exact ⟨l, rfl, h1, h2, e1, e2, by omega, by simpa using e3⟩
theorem back {s : Bs} {n : Node} (h : parse s = .ok n) : check n = 0 ∧ (write n = .error 2 ∨ ∃ t, write n = .ok t ∧ parse t = .ok n ∧ t.length ≤ 2000) := by
 obtain ⟨full, h1, h2, h3, h4, h5, h6, h7⟩ := parse_right h
 have hc : check n = 0 := by
  unfold check
  rw [if_neg, if_neg (by omega)]
  rintro (h | h)
  ·exact h h4
  ·rw [of_rt h5] at h; cases h
 refine ⟨hc, ?_⟩
 unfold write
 rw [if_neg (by simp [hc])]
 by_cases hl : 2000 < (text n).length
 ·rw [if_pos hl]; exact .inl rfl
 ·rw [if_neg hl]
  refine .inr ⟨_, rfl, ?_, Nat.not_lt.1 hl⟩
  have hw : write n = .ok (text n) := by unfold write; rw [if_neg (by simp [hc]), if_neg hl]
  rcases written hw with ⟨_, h8⟩ | h8
  ·exact absurd (by omega) h8
  ·exact h8
end Wri
namespace Go.Proofs.YtonjdlialejedaaGreatDoor
open Go.Lib (hid)
open Go.RowKit
set_option maxRecDepth 100000 in
set_option maxHeartbeats 4000000 in
theorem back_true (s : List UInt8) (w : World) (he : EnvW w) (hs : s.length ≤ 9223372036854775807) : Calls Tryz.prog 3 #[.string (byt s)] w (TruthOut w) := by
 have HE := hid he
 have hbig := he.big
 have HU := hid (Below.refl w.heap.size w)
 clear he
 go_enter Tryz.func3, Tryz.ntmps3
 go_wp2_with fail
 refine (parse_c s _ (HE.out.below HU.out hbig) (by assumption)).mono ?_
 rintro e w1 ⟨n0, cs0, k0, rfl, hn, hb, hpc⟩
 replace HU := hid (HU.out.trans (hb.mono HU.out.size))
 have HN0 := hid hn
 have HPC0 := hid hpc
 have HINF0 : Hid ((Tryz.prog.info? 24).map (·.size) = some cs0.size) := hid (by rw [NodeAt.size hn]; exact info_nod)
 have H40 : Hid ((4 : Nat) = cs0.size) := hid (NodeAt.size hn).symm
 have HONE0 := hid (NodeAt.one hn)
 clear hn hb hpc
 go_upto_region 2 with (refine wpList_store_box rfl 24 (.tmp 3) (.tmp 14) rfl w1.heap.size cs0 rfl rfl 24 _ (Box.new w1 _ _) HINF0.out H40.out HONE0.out ?_; intro w2 hx hu hz; have HZ := hid hz; clear hz)
 have hb : Below w1.heap.size w1 w2 := (below1 w1 _).trans (hu.own (Nat.le_refl _) (by simp))
 have EB0 := hid hx
 replace HN0 := hid (HN0.out.below hb)
 replace HU := hid (HU.out.trans (hb.mono HU.out.size))
 clear hx hu hb
 go_wp2_with fail
 refine (lives_true _ (HE.out.below HU.out hbig)).mono ?_
 rintro e w3 ⟨rfl, hb⟩
 replace HN0 := hid (HN0.out.below hb)
 replace EB0 := bl EB0 hb
 replace HU := hid (HU.out.trans (hb.mono HU.out.size))
 clear hb
 rcases HPC0.out with ⟨hps, hk⟩ | ⟨hn0, hk⟩
 ·subst hk
  have d2 : ((0 : Int) != 0) = false := rfl
  have HPS := hid hps
  have HBK := hid (Wri.back hps)
  clear hps
  have eb0 := EB0.out
  go_wp2_with (refine wpList_load_row rfl 24 (.tmp 3) rfl w1.heap.size rfl _ cs0 (0, 0) _ eb0 Tryz.underlying24 rfl HINF0.out ?_)
  refine (write_c (by have := pc_wg HPC0.out; omega) HN0.out (HE.out.below HU.out hbig)).mono ?_
  rintro e w4 ⟨t1, k1, rfl, hb, hwq⟩
  clear eb0
  replace HN0 := hid (HN0.out.below hb)
  replace EB0 := bl EB0 hb
  replace HU := hid (HU.out.trans (hb.mono HU.out.size))
  have HWQ1 := hid hwq
  clear hb hwq
  rcases HWQ1.out with ⟨hw, hk⟩ | ⟨rfl, ⟨hk, hw⟩ | ⟨hk, hw⟩⟩
  ·subst hk
   obtain ⟨t, h1, h2, h3⟩ : ∃ t, Wri.write n0 = .ok t ∧ Pars.parse t = .ok n0 ∧ t.length ≤ 2000 := by
    rcases HBK.out.2 with h | h
    ·rw [h] at hw; cases hw
    ·exact h
   rw [h1] at hw
   injection hw with hw
   subst hw
   have HW1 := hid h1
   have HP1 := hid h2
   have htl : t.length ≤ 9223372036854775807 := by omega
   clear h1 h2 h3
   go_wp2_with fail
   refine (parse_c t _ (HE.out.below HU.out hbig) htl).mono ?_
   rintro e w5 ⟨n2, cs2, k2, rfl, hn, hb, hpc⟩
   replace HN0 := hid (HN0.out.below hb)
   replace EB0 := bl EB0 hb
   replace HU := hid (HU.out.trans (hb.mono HU.out.size))
   have HN2 := hid hn
   have HPC2 := hid hpc
   have HINF2 : Hid ((Tryz.prog.info? 24).map (·.size) = some cs2.size) := hid (by rw [NodeAt.size hn]; exact info_nod)
   have H42 : Hid ((4 : Nat) = cs2.size) := hid (NodeAt.size hn).symm
   have HONE2 := hid (NodeAt.one hn)
   clear hn hb hpc
   go_upto_region 8 with (refine wpList_store_box rfl 24 (.tmp 7) (.tmp 38) rfl w5.heap.size cs2 rfl rfl 24 _ (Box.new w5 _ _) HINF2.out H42.out HONE2.out ?_; intro w6 hx hu hz; have HZ := hid hz; clear hz)
   have hb : Below w5.heap.size w5 w6 := (below1 w5 _).trans (hu.own (Nat.le_refl _) (by simp))
   have EB2 := hid hx
   replace HN0 := hid (HN0.out.below hb)
   replace HN2 := hid (HN2.out.below hb)
   replace EB0 := bl EB0 hb
   replace HU := hid (HU.out.trans (hb.mono HU.out.size))
   clear hx hu hb
   obtain ⟨e1, e2⟩ : n2 = n0 ∧ k2 = 0 := by
    rcases HPC2.out with ⟨h, hk⟩ | ⟨_, ⟨_, h⟩ | ⟨_, h⟩⟩
    ·rw [HP1.out] at h; injection h with h; exact ⟨h.symm, hk⟩
    ·rw [HP1.out] at h; cases h
    ·rw [HP1.out] at h; cases h
   subst e1 e2
   have eb2 := EB2.out
   go_wp2_with (refine wpList_load_row rfl 24 (.tmp 7) rfl w5.heap.size rfl _ cs2 (0, 0) _ eb2 Tryz.underlying24 rfl HINF2.out ?_)
   refine (write_c (by have := pc_wg HPC2.out; omega) HN2.out (HE.out.below HU.out hbig)).mono ?_
   rintro e w7 ⟨t3, k3, rfl, hb, hwq⟩
   clear eb2
   replace HN0 := hid (HN0.out.below hb)
   replace HN2 := hid (HN2.out.below hb)
   replace EB0 := bl EB0 hb
   replace EB2 := bl EB2 hb
   replace HU := hid (HU.out.trans (hb.mono HU.out.size))
   have HWQ3 := hid hwq
   clear hb hwq
   obtain ⟨e1, e2⟩ : t3 = t ∧ k3 = 0 := by
    rcases HWQ3.out with ⟨h, hk⟩ | ⟨_, ⟨_, h⟩ | ⟨_, h⟩⟩
    ·rw [HW1.out] at h; injection h with h; exact ⟨h.symm, hk⟩
    ·rw [HW1.out] at h; cases h
    ·rw [HW1.out] at h; cases h
   subst e1 e2
   go_wp2_with fail
   refine (ok2_any 0 0 w7).mono ?_
   rintro e w8 ⟨rfl, hb⟩
   replace HN0 := hid (HN0.out.below hb)
   replace HN2 := hid (HN2.out.below hb)
   replace EB0 := bl EB0 hb
   replace EB2 := bl EB2 hb
   replace HU := hid (HU.out.trans (hb.mono HU.out.size))
   clear hb
   have eb0 := EB0.out
   have eb2 := EB2.out
   go_wp2_with (first | (refine wpList_load_row_g (by kernel_rfl) 24 (.tmp 3) rfl w1.heap.size rfl _ cs0 _ eb0 Tryz.underlying24 rfl HINF0.out ?_) | (refine wpList_load_row_g (by kernel_rfl) 24 (.tmp 7) rfl w5.heap.size rfl _ cs2 _ eb2 Tryz.underlying24 rfl HINF2.out ?_))
   refine (same_any (pc_size HPC0.out) HN0.out HN2.out).mono ?_
   rintro e w9 ⟨rfl, hb⟩
   clear eb0 eb2
   replace HN0 := hid (HN0.out.below hb)
   replace HN2 := hid (HN2.out.below hb)
   replace EB0 := bl EB0 hb
   replace EB2 := bl EB2 hb
   replace HU := hid (HU.out.trans (hb.mono HU.out.size))
   clear hb
   rw [Pars.same_refl]
   go_wp2
   go_ret
   exact ⟨by simp, HU.out⟩
  ·subst hk
   go_wp2
   go_ret
   exact ⟨rfl, HU.out⟩
  ·exfalso
   rcases HBK.out.2 with h | ⟨t, h, _⟩
   ·rw [h] at hw; cases hw
   ·rw [h] at hw; cases hw
 ·have hc0 : cs0[0]? = some (.int .i64 0) := by have h := HN0.out; rw [hn0] at h; unfold NodeAt at h; obtain ⟨A, cap, css, rfl, _⟩ := h; rfl
  have HC0 := hid hc0
  clear hc0 hn0
  rcases hk with ⟨hk, _⟩ | ⟨hk, _⟩
  ·subst hk
   have d2 : ((2 : Int) != 0) = true := rfl
   go_wp2_with fail
   refine (lives_true _ (HE.out.below HU.out hbig)).mono ?_
   rintro e w4 ⟨rfl, hb⟩
   replace HN0 := hid (HN0.out.below hb)
   replace EB0 := bl EB0 hb
   replace HU := hid (HU.out.trans (hb.mono HU.out.size))
   clear hb
   have c0 := EB0.out.cell 0
   rw [HC0.out] at c0
   go_wp2
   go_ret
   exact ⟨rfl, HU.out⟩
  ·subst hk
   have d2 : ((4 : Int) != 0) = true := rfl
   go_wp2_with fail
   refine (lives_true _ (HE.out.below HU.out hbig)).mono ?_
   rintro e w4 ⟨rfl, hb⟩
   replace HN0 := hid (HN0.out.below hb)
   replace EB0 := bl EB0 hb
   replace HU := hid (HU.out.trans (hb.mono HU.out.size))
   clear hb
   have c0 := EB0.out.cell 0
   rw [HC0.out] at c0
   go_wp2
   go_ret
   exact ⟨rfl, HU.out⟩
end Go.Proofs.YtonjdlialejedaaGreatDoor
namespace Go.Proofs.YtonjdlialejedaaGreatDoor
open Go.Lib (hid)
open Go.RowKit
def laidList : List (String × DataW Unit) := [("math/bits.deBruijn32tab", Rows.laid_math_bits_deBruijn32tab), ("math/bits.deBruijn64tab", Rows.laid_math_bits_deBruijn64tab), ("internal/strconv.uint64pow10", Rows.laid_internal_strconv_uint64pow10), ("unicode.White_Space", Rows.laid_unicode_White_Space), ("strings.asciiSpace", Rows.laid_strings_asciiSpace)]
theorem gTypePow : (Tryz.prog.globals[3]?).map (·.type) = some 156 := by kernel_rfl
theorem tabCellsPow : Tryz.prog.cellsOf 156 = 20 := by kernel_rfl
theorem wordCellsPow : Tryz.prog.cellsOf 143 = 1 := by kernel_rfl
theorem pow_data : (Rows.laid_internal_strconv_uint64pow10 : DataW Unit) = Lib.tabData .u64 Lib.pow10Tab := by kernel_rfl
theorem gTypeSpace : (Tryz.prog.globals[0]?).map (·.type) = some 68 := by kernel_rfl
theorem tabCellsSpace : Tryz.prog.cellsOf 68 = 256 := by kernel_rfl
theorem byteCells1 : Tryz.prog.cellsOf 5 = 1 := by kernel_rfl
theorem space_data : (Rows.laid_strings_asciiSpace : DataW Unit) = Lib.tabData .u8 Lib.asciiSpaceTab := by kernel_rfl
theorem heap7 {W : World} (h : W.ShapedOpen Tryz.prog) : 7 ≤ W.heap.size := by
 have hs : (((begin Tryz.prog (fun _ _ => 0) default).world.heap[6]?).bind Obj.row?).isSome = true := by kernel_rfl
 obtain ⟨⟨z, t⟩, hz⟩ := Option.isSome_iff_exists.1 hs
 have hg : 6 < Tryz.prog.globals.size := of_decide_eq_true (by kernel_rfl)
 obtain ⟨cs, hc, _⟩ := h.1 6 z t hg hz
 have := (Array.getElem?_eq_some_iff.1 hc).1
 omega
theorem env_of {W : World} (h : laidMet Tryz.prog laidList W) (hs : W.ShapedOpen Tryz.prog) : EnvW W := by
 have h2 := h
 unfold laidList at h2
 rw [pow_data, space_data] at h2
 refine ⟨?_, ?_, ?_, heap7 hs⟩
 ·exact Lib.tabIs_of_head (rest := []) Jl.gSpace gTypeSpace Tryz.underlying68 Tryz.underlying5 byteCells1 tabCellsSpace h2.tail.tail.tail.tail
 ·exact Lib.tabIs_of_head gPow gTypePow Tryz.underlying156 Tryz.underlying143 wordCellsPow tabCellsPow h2.tail.tail
 ·exact cell_of_shapedOpen_int (zero := #[.int .i64 0]) (t := 3) hs (of_decide_eq_true (by kernel_rfl)) (by kernel_rfl) rfl (by kernel_rfl) (by kernel_rfl) Tryz.underlying3
end Go.Proofs.YtonjdlialejedaaGreatDoor
