/-
  Texts that the law leans on: LexP, PlM, PlN, PxH, PxN. Conditions: as each says.
-/
import Derived.Test.YtonjdlialejedaaGreatDoorFAa
import Derived.Test.YtonjdlialejedaaGreatDoorFAs
import Derived.Test.YtonjdlialejedaaGreatDoorFAr
import Derived.Test.YtonjdlialejedaaGreatDoorFAf
import Derived.Deep.MidRow
import Derived.Test.YtonjdlialejedaaGreatDoorFAk
import Derived.Test.YtonjdlialejedaaGreatDoorRows
import Derived.LaidMore
import Derived.Lib.LaidTab
import Derived.Stop.LaidErr
import Derived.Deep.DeepHandedRow
import Derived.Deep.DeepWitnessRowRef
set_option linter.unusedSimpArgs false
set_option linter.unusedVariables false
namespace Lexy
theorem skp_zero_take {l : Bs} (h : skp false l = 0) (n : Nat) : skp false (l.take n) = 0 := by
 cases l with
 | nil => simp [skp]
 | cons c r =>
  cases n with
  | zero => simp [skp]
  | succ n =>
   rw [List.take_succ_cons]
   simp only [skp] at h ⊢
   by_cases h1 : isBlank c = true
   ·rw [if_pos h1] at h; omega
   ·rw [if_neg h1] at h ⊢
    by_cases h2 : (c == 47 && r.head? == some 47) = true
    ·rw [if_pos h2] at h; omega
    ·rw [if_neg]
     intro h3
     apply h2
     simp only [Bool.and_eq_true] at h3 ⊢
     refine ⟨h3.1, ?_⟩
     cases n with
     | zero => simp at h3
     | succ n =>
      cases r with
      | nil => simp at h3
      | cons d q => simpa using h3.2
theorem own_toks {l : Bs} {t : Tk} {n : Nat} (hz : skp false l = 0) (hn : next l = .ok (t, n)) (h : l.length ≤ 2000) : toks (l.take n) = .ok [⟨t, 0, n⟩] := by
 obtain ⟨_, hl, h0, hs⟩ := next_split hn
 have h1 := hs [] (.inr (by simp))
 rw [List.append_nil] at h1
 have h2 := skp_zero_take hz n
 unfold toks
 rw [if_neg (by simp; omega), toksR_eq, h2, List.drop_zero]
 have hlen := next_len hn
 cases ht : l.take n with
 | nil => rw [ht] at hl; simp at hl; omega
 | cons c r =>
  rw [ht] at h1 hl
  simp only [h1]
  have hd : (c :: r).drop n = [] := List.drop_eq_nil_of_le (by omega)
  rw [hd, toksR_eq]
  simp
end Lexy
namespace Wri
open Pars
open Lexy (Tk sg kw nm LexT Lex)
theorem numF_le : ∀ (l : Bs) (m n : Nat), m ≤ 9007199254740992 → Lexy.numF m l = some n → n ≤ 9007199254740992
 | [], m, n, hm, h => by simp only [Lexy.numF, Option.some.injEq] at h; omega
 | c :: r, m, n, hm, h => by
  simp only [Lexy.numF] at h
  split at h
  ·cases h
  ·exact numF_le r _ n (by omega) h
theorem next_tg {l : Bs} {t : Tk} {n : Nat} (hz : Lexy.skp false l = 0) (hn : Lexy.next l = .ok (t, n)) (hl : l.length ≤ 2000) : TG t := by
 have hown := Lexy.own_toks hz hn hl
 cases l with
 | nil => simp [Lexy.next] at hn
 | cons c r =>
  simp only [Lexy.next] at hn
  by_cases h1 : Lexy.isLetter c = true
  ·rw [if_pos h1] at hn
   simp only [Lexy.Res.ok.injEq, Prod.mk.injEq] at hn
   obtain ⟨rfl, rfl⟩ := hn
   refine ⟨fun hk => ?_, fun hk => ?_, fun hk => ?_⟩
   ·unfold name
    simp only at hk ⊢
    rw [hown]
    simp only [hk]
    simp
   ·simp only at hk; split at hk <;> cases hk
   ·simp only at hk ⊢
    split at hk
    ·assumption
    ·cases hk
  rw [if_neg h1] at hn
  by_cases h2 : Lexy.isDigit c = true
  ·rw [if_pos h2] at hn
   split at hn
   ·cases hn
   ·rename_i m hm
    split at hn
    ·cases hn
    ·simp only [Lexy.Res.ok.injEq, Prod.mk.injEq] at hn
     obtain ⟨rfl, rfl⟩ := hn
     exact ⟨fun hk => (by cases hk), fun _ => numF_le _ 0 m (by omega) hm, fun hk => (by cases hk)⟩
  rw [if_neg h2] at hn
  split at hn
  ·split at hn
   ·cases hn
   ·simp only [Lexy.Res.ok.injEq, Prod.mk.injEq] at hn
    obtain ⟨rfl, rfl⟩ := hn
    exact ⟨fun hk => (by cases hk), fun hk => (by cases hk), fun hk => (by cases hk)⟩
  ·unfold Lexy.sign at hn
   split at hn
   ·simp only [Lexy.Res.ok.injEq, Prod.mk.injEq] at hn
    obtain ⟨rfl, rfl⟩ := hn
    exact ⟨fun hk => (by cases hk), fun hk => (by cases hk), fun hk => (by cases hk)⟩
   ·split at hn
    ·simp only [Lexy.Res.ok.injEq, Prod.mk.injEq] at hn
     obtain ⟨rfl, rfl⟩ := hn
     exact ⟨fun hk => (by cases hk), fun hk => (by cases hk), fun hk => (by cases hk)⟩
    ·cases hn
theorem lex_tg {p : Nat} {l : Bs} {ts : List Lexy.Tok} (h : Lex p l ts) : l.length ≤ 2000 → TGs (ts.map (·.toTk)) := by
 induction h with
 | done p l hd => intro _ t ht; cases ht
 | more p l t n ts hne hn _ ih =>
  intro hl x hx
  rw [List.map_cons, List.mem_cons] at hx
  rcases hx with rfl | hx
  ·exact next_tg (Lexy.skp_idem false l) hn (by rw [List.length_drop]; omega)
  ·exact ih (by rw [List.length_drop, List.length_drop]; omega) x hx
theorem top_cw : ∀ (n : Nat) (acc : List Node) (l : List Tk) (k : List Node), TGs l → (∀ y ∈ acc, (20 ≤ y.kind ∧ y.kind ≤ 31) ∧ Rt false false y) → top n acc l = some k →
  (∀ y ∈ k, (20 ≤ y.kind ∧ y.kind ≤ 31) ∧ Rt false false y) ∧ (k.flatMap fun x => tw x .stmt).length ≤ (acc.flatMap fun x => tw x .stmt).length + l.length
 | n, acc, [], k, _, ha, h => by
  have : k = acc := by cases n <;> simp [top] at h <;> exact h.symm
  subst this
  exact ⟨ha, by omega⟩
 | 0, acc, t :: l, k, _, _, h => by simp [top] at h
 | n + 1, acc, t :: l, k, hg, ha, h => by
  simp only [top] at h
  cases hr : run (fuel (t :: l)) .statement false false (t :: l) with
  | none => rw [hr] at h; cases h
  | some y =>
   obtain ⟨x, r⟩ := y
   rw [hr] at h
   obtain ⟨h1, h2, h3⟩ := run_cw _ .statement false false true trivial (t :: l) x r hg trivial hr
   have := top_cw n (acc ++ [x]) r k h3 (fun y hy => by
    rcases List.mem_append.1 hy with hy | hy
    ·exact ha y hy
    ·rw [List.mem_singleton.1 hy]; exact h1) h
   refine ⟨this.1, ?_⟩
   have h4 := this.2
   simp only [fc, ow] at h2
   simp only [List.flatMap_append, List.flatMap_cons, List.flatMap_nil, List.append_nil, List.length_append] at h4
   omega
theorem tree_cw {l : List Tk} {n : Node} (hg : TGs l) (h : tree l = some n) : n.kind = 30 ∧ Rt false false n ∧ (ttext n).length ≤ l.length := by
 unfold tree at h
 cases ht : top l.length [] l with
 | none => rw [ht] at h; cases h
 | some k =>
  rw [ht] at h
  injection h with h
  subst h
  obtain ⟨h1, h2⟩ := top_cw _ [] l k hg (fun y hy => by cases hy) ht
  exact ⟨rfl, .block false false k (fun x hx => (h1 x hx).1) fun x hx => (h1 x hx).2, Nat.le_trans h2 (by simp)⟩
theorem parse_right {s : Bs} {n : Node} (h : parse s = .ok n) : ∃ full, Lexy.toks s = .ok full ∧ Lex 0 s full ∧ full.length ≤ 1000 ∧ n.kind = 30 ∧ Rt false false n ∧ Pars.deep n ≤ 40 ∧ (ttext n).length ≤ full.length := by
 unfold parse at h
 cases ht : Lexy.toks s with
 | err e => rw [ht] at h; cases h
 | ok l =>
  rw [ht] at h
  simp only at h
  unfold Lexy.toks at ht
  split at ht
  ·cases ht
  ·rename_i hl
   obtain ⟨h1, h2⟩ := Lexy.lex_of _ _ _ _ ht
   cases hr : tree (l.map (·.toTk)) with
   | none => rw [hr] at h; cases h
   | some m =>
    rw [hr] at h
    simp only at h
    split at h
    ·cases h
    ·rename_i hd
     injection h with h
     subst h
     obtain ⟨e1, e2, e3⟩ := tree_cw (lex_tg h1 (Nat.not_lt.1 hl)) hr
     exact ⟨l, rfl, h1, h2, e1, e2, by omega, by simpa using e3⟩
theorem back {s : Bs} {n : Node} (h : parse s = .ok n) : check n = 0 ∧ (write n = .error 2 ∨ ∃ t, write n = .ok t ∧ parse t = .ok n ∧ t.length ≤ 2000) := by
 obtain ⟨full, h1, h2, h3, h4, h5, h6, h7⟩ := parse_right h
 have hc : check n = 0 := by
  unfold check
  rw [if_neg, if_neg (by omega)]
  rintro (h | h)
  ·exact h h4
  ·rw [of_rt h5] at h; cases h
 refine ⟨hc, ?_⟩
 unfold write
 rw [if_neg (by simp [hc])]
 by_cases hl : 2000 < (text n).length
 ·rw [if_pos hl]; exact .inl rfl
 ·rw [if_neg hl]
  refine .inr ⟨_, rfl, ?_, Nat.not_lt.1 hl⟩
  have hw : write n = .ok (text n) := by unfold write; rw [if_neg (by simp [hc]), if_neg hl]
  rcases written hw with ⟨_, h8⟩ | h8
  ·exact absurd (by omega) h8
  ·exact h8
theorem lex_erase {p : Nat} {l : Bs} {ts : List Lexy.Tok} (h : Lex p l ts) : ∀ (k : Nat) (x : Lexy.Tok), ts[k]? = some x → p ≤ x.lo ∧ x.lo ≤ x.hi ∧ x.hi ≤ p + l.length ∧ (∀ (i : Nat) (y : Lexy.Tok), i < k → ts[i]? = some y → y.lo ≤ y.hi ∧ y.hi ≤ x.lo) ∧ ∃ ts', Lex p (l.take (x.lo - p) ++ 32 :: l.drop (x.hi - p)) ts' ∧ ts'.map (·.toTk) = (ts.eraseIdx k).map (·.toTk) ∧ ts'.take k = ts.take k := by
 induction h with
 | done p l hd => intro k x hk; simp at hk
 | more p l tk n ts hne hn hrest ih =>
  intro k x hk
  have h1 := Lexy.skp_le false l
  obtain ⟨e1, e2, e3, e4⟩ := Lexy.next_split hn
  have hnl := Lexy.next_len hn
  rw [List.length_drop] at hnl
  have hgl : (l.take (Lexy.skp false l)).length = Lexy.skp false l := by rw [List.length_take]; omega
  have hg : ∀ y, Lexy.skp false (l.take (Lexy.skp false l) ++ y) = Lexy.skp false l + Lexy.skp false y := by
   intro y
   have := Lexy.skp_gap false (l.take (Lexy.skp false l)) (l.drop (Lexy.skp false l)) hne (by rw [List.take_append_drop, hgl]) (by simp) y
   rwa [hgl] at this
  cases k with
  | zero =>
   simp only [List.getElem?_cons_zero, Option.some.injEq] at hk
   subst hk
   refine ⟨by simp, by simp, by simp; omega, fun i y hi => by omega, ?_⟩
   simp only [Nat.add_sub_cancel_left, List.eraseIdx_zero, List.tail_cons]
   rw [show p + Lexy.skp false l + n - p = Lexy.skp false l + n by omega]
   rw [List.drop_drop] at hrest
   have hs := Lexy.lex_shift hrest (0)
   have hr2 : LexT (l.drop (Lexy.skp false l + n)) (ts.map (·.toTk)) := by
    obtain ⟨q, hq1, hq2⟩ : ∃ full, Lex 0 (l.drop (Lexy.skp false l + n)) full ∧ full.map (·.toTk) = ts.map (·.toTk) := by
     have : ∀ {a : Nat} {b : Bs} {c : List Lexy.Tok}, Lex a b c → ∃ full, Lex 0 b full ∧ full.map (·.toTk) = c.map (·.toTk) := by
      intro a b c hc
      have key : ∀ {a : Nat} {b : Bs} {c : List Lexy.Tok}, Lex a b c → ∀ q, ∃ full, Lex q b full ∧ full.map (·.toTk) = c.map (·.toTk) := by
       intro a b c hc
       induction hc with
       | done a b hd => intro q; exact ⟨[], .done _ _ hd, rfl⟩
       | more a b t n c hne hn _ ih =>
        intro q
        obtain ⟨full, g1, g2⟩ := ih (q + Lexy.skp false b + n)
        exact ⟨_, .more q b t n full hne hn g1, by simp [g2]⟩
      exact key hc 0
     exact this hrest
    exact ⟨q, hq1, hq2⟩
   obtain ⟨full, g1, g2⟩ := hr2.at_ (p + (Lexy.skp false l + 1))
   refine ⟨full, Lexy.lex_gap (p := p) (k := Lexy.skp false l + 1) (l := l.drop (Lexy.skp false l + n)) ?_ ?_ g1, g2, rfl⟩
   ·rw [hg]; simp [Lexy.skp, Lexy.isBlank]; omega
   ·rw [show Lexy.skp false l + 1 + Lexy.skp false (l.drop (Lexy.skp false l + n)) = Lexy.skp false l + (1 + Lexy.skp false (l.drop (Lexy.skp false l + n))) by omega, ← List.drop_drop, List.drop_left' hgl, Nat.add_comm 1, List.drop_succ_cons]
  | succ k =>
   simp only [List.getElem?_cons_succ] at hk
   obtain ⟨i1, i2, i3, i5, i4⟩ := ih k x hk
   rw [List.length_drop, List.length_drop] at i3
   refine ⟨by omega, i2, by omega, fun i y hi hy => ?_, ?_⟩
   ·cases i with
    | zero =>
     simp only [List.getElem?_cons_zero, Option.some.injEq] at hy
     subst hy
     exact ⟨by simp, i1⟩
    | succ i =>
     simp only [List.getElem?_cons_succ] at hy
     exact i5 i y (by omega) hy
   have et : l.take (x.lo - p) = l.take (Lexy.skp false l) ++ ((l.drop (Lexy.skp false l)).take n ++ ((l.drop (Lexy.skp false l)).drop n).take (x.lo - (p + Lexy.skp false l + n))) := by
    rw [List.drop_drop]
    have a1 : x.lo - p = Lexy.skp false l + (n + (x.lo - (p + Lexy.skp false l + n))) := by omega
    rw [a1, List.take_add, List.take_add, List.drop_drop]
   have ed : l.drop (x.hi - p) = ((l.drop (Lexy.skp false l)).drop n).drop (x.hi - (p + Lexy.skp false l + n)) := by
    rw [List.drop_drop, List.drop_drop]; congr 1; omega
   rw [et, ed]
   obtain ⟨r', hr'⟩ : ∃ r', ((l.drop (Lexy.skp false l)).drop n).take (x.lo - (p + Lexy.skp false l + n)) ++ 32 :: ((l.drop (Lexy.skp false l)).drop n).drop (x.hi - (p + Lexy.skp false l + n)) = r' := ⟨_, rfl⟩
   have hW : Lexy.Soft r' ((l.drop (Lexy.skp false l)).drop n) := by
    rw [← hr']
    cases hq : (l.drop (Lexy.skp false l)).drop n with
    | nil => exact .inr (fun c hc => by simp at hc; exact .inr hc.symm)
    | cons d q =>
     cases hz : x.lo - (p + Lexy.skp false l + n) with
     | zero => exact .inr (fun c hc => by simp at hc; exact .inr hc.symm)
     | succ z => exact .inl rfl
   have hnx := e4 _ hW
   have htn : (l.drop (Lexy.skp false l)).take n ≠ [] := by intro e; rw [e] at e2; simp at e2; omega
   have hz2 : Lexy.skp false ((l.drop (Lexy.skp false l)).take n ++ r') = 0 := by
    have hz := Lexy.skp_idem false l
    rw [e1] at hz
    exact Lexy.skp_zero_soft hz htn hW
   obtain ⟨ts', g1, g2, g3⟩ := i4
   rw [hr'] at g1
   have hs : Lexy.skp false (l.take (Lexy.skp false l) ++ ((l.drop (Lexy.skp false l)).take n ++ r')) = Lexy.skp false l := by rw [hg, hz2]; omega
   have hd := List.drop_left' (l₁ := l.take (Lexy.skp false l)) (l₂ := (l.drop (Lexy.skp false l)).take n ++ r') hgl
   rw [List.append_assoc, List.append_assoc, hr']
   have hm := Lex.more p (l.take (Lexy.skp false l) ++ ((l.drop (Lexy.skp false l)).take n ++ r')) tk n ts' (by rw [hs, hd]; intro e; exact htn (List.append_eq_nil_iff.1 e).1) (by rw [hs, hd]; exact hnx) (by rw [hs, hd, List.drop_left' e2]; exact g1)
   rw [hs] at hm
   exact ⟨_, hm, by simp [g2], by simp [g3]⟩
theorem lex_uniq {p : Nat} {l : Bs} {a b : List Lexy.Tok} (h1 : Lex p l a) (h2 : Lex p l b) : a = b := by
 have e1 := Lexy.of_lex h1 (max a.length b.length)
 have e2 := Lexy.of_lex h2 (max a.length b.length)
 rw [if_pos (by omega)] at e1 e2
 rw [e1] at e2
 injection e2
theorem few {t : Bs} {n : Node} {full : List Lexy.Tok} (hl : Lex 0 t full) (ht : full.map (·.toTk) = ttext n) {i j : Nat} {x y : Lexy.Tok} (hij : i < j) (hx : full[i]? = some x) (hy : full[j]? = some y) :
  x.lo ≤ x.hi ∧ x.hi ≤ y.lo ∧ y.lo ≤ y.hi ∧ y.hi ≤ t.length ∧ parse (t.take x.lo ++ [32] ++ (t.take y.lo).drop x.hi ++ [32] ++ t.drop y.hi) ≠ .ok n := by
 obtain ⟨_, a2, a3, a4, ts', b1, b2, b3⟩ := lex_erase hl j y hy
 obtain ⟨c1, c2⟩ := a4 i x hij hx
 refine ⟨c1, c2, a2, by omega, fun hp => ?_⟩
 have hx' : ts'[i]? = some x := by
  have : (ts'.take j)[i]? = (full.take j)[i]? := by rw [b3]
  rw [List.getElem?_take_of_lt hij, List.getElem?_take_of_lt hij, hx] at this
  exact this
 obtain ⟨_, d2, d3, d4, ts2, f1, f2, f3⟩ := lex_erase b1 i x hx'
 obtain ⟨full2, g1, g2, g3, g4, g5, g6, g7⟩ := parse_right hp
 have hlen : (t.take y.lo).length = y.lo := by rw [List.length_take]; omega
 simp only [Nat.sub_zero] at f1 b1
 have e : (t.take y.lo ++ 32 :: t.drop y.hi).take x.lo ++ 32 :: (t.take y.lo ++ 32 :: t.drop y.hi).drop x.hi = t.take x.lo ++ [32] ++ (t.take y.lo).drop x.hi ++ [32] ++ t.drop y.hi := by
  rw [List.take_append_of_le_length (by omega), List.drop_append_of_le_length (by omega), List.take_take, Nat.min_eq_left (by omega)]
  simp
 rw [e] at f1
 have h2 := lex_uniq g2 f1
 have l1 : ts2.length = (ts'.eraseIdx i).length := by have := congrArg List.length f2; simpa using this
 have l2 : ts'.length = (full.eraseIdx j).length := by have := congrArg List.length b2; simpa using this
 have l3 : full.length = (ttext n).length := by have := congrArg List.length ht; simpa using this
 have hj := (List.getElem?_eq_some_iff.1 hy).1
 have hi := (List.getElem?_eq_some_iff.1 hx').1
 rw [List.length_eraseIdx_of_lt hi] at l1
 rw [List.length_eraseIdx_of_lt hj] at l2
 rw [h2] at g7
 omega
end Wri
namespace Wri
open Pars
open Lexy (Tk sg kw nm)
def isOpen (t : Tk) : Bool := decide (t.kind = 4) && decide (t.text = [40])
def isShut (t : Tk) : Bool := decide (t.kind = 4) && decide (t.text = [41])
def scan : Nat → List Tk → Option Nat
 | d, [] => some d
 | d, t :: l => if isOpen t then scan (d + 1) l else if isShut t then (match d with
  | 0 => none
  | d + 1 => scan d l) else scan d l
theorem scan_app : ∀ (a b : List Tk) (d : Nat), scan d (a ++ b) = (scan d a).bind fun e => scan e b
 | [], b, d => rfl
 | t :: a, b, d => by
  simp only [List.cons_append, scan]
  split
  ·exact scan_app a b _
  ·split
   ·cases d with
    | zero => rfl
    | succ d => exact scan_app a b d
   ·exact scan_app a b d
def Bal (l : List Tk) : Prop := ∀ d, scan d l = some d
theorem bal_nil : Bal [] := fun _ => rfl
theorem Bal.app {a b : List Tk} (ha : Bal a) (hb : Bal b) : Bal (a ++ b) := fun d => by rw [scan_app, ha d]; exact hb d
theorem bal_one {t : Tk} (h1 : isOpen t = false) (h2 : isShut t = false) : Bal [t] := fun d => by simp [scan, h1, h2]
theorem bal_cons {t : Tk} {l : List Tk} (h1 : isOpen t = false) (h2 : isShut t = false) (h : Bal l) : Bal (t :: l) := (bal_one h1 h2).app h
theorem bal_par {a : List Tk} (h : Bal a) : Bal ([sg [40]] ++ a ++ [sg [41]]) := fun d => by
 rw [scan_app, scan_app]
 have e1 : scan d [sg [40]] = some (d + 1) := rfl
 have e2 : scan (d + 1) [sg [41]] = some d := rfl
 rw [e1]
 simp only [Option.bind_some]
 rw [h (d + 1)]
 exact e2
theorem bal_kw (s : Bs) : Bal [kw s] := bal_one rfl rfl
theorem bal_nm (s : Bs) : Bal [nm s] := bal_one rfl rfl
theorem bal_sg {s : Bs} (h1 : s ≠ [40]) (h2 : s ≠ [41]) : Bal [sg s] := bal_one (by simp [isOpen, sg, h1]) (by simp [isShut, sg, h2])
theorem bal_join : ∀ l : List (List Tk), (∀ x ∈ l, Bal x) → Bal (tjoin l)
 | [], _ => bal_nil
 | [a], h => h a (by simp)
 | a :: b :: l, h => ((h a (by simp)).app (bal_sg (by decide) (by decide))).app (bal_join (b :: l) fun x hx => h x (by simp only [List.mem_cons] at hx ⊢; exact .inr hx))
theorem bal_at {n : Node} (h : Bal (tw n .ex)) (q : Int) : Bal (tw n (.at q)) := by
 rw [tw_at]; split
 ·exact h
 ·exact bal_par h
theorem bal_flat : ∀ l : List Node, (∀ x ∈ l, Bal (tw x .stmt)) → Bal (l.flatMap fun x => tw x .stmt)
 | [], _ => bal_nil
 | n :: l, h => by rw [List.flatMap_cons]; exact (h n (by simp)).app (bal_flat l fun x hx => h x (by simp [hx]))
structure BX (n : Node) : Prop where
 ex : isE n → Bal (tw n .ex)
 stmt : 20 ≤ n.kind → Bal (tw n .stmt)
 fn : n.kind = 9 → Bal (tw n .fn)
 block : n.kind = 30 → Bal (tw n .block)
 ifs : n.kind = 22 → Bal (tw n .ifs)
 pair : n.kind = 8 → Bal (tw n .pair)
theorem BX.e {n : Node} (h : Bal (tw n .ex)) (hk : n.kind ≤ 19 := by simp [Node.kind]) (h8 : n.kind ≠ 8 := by simp [Node.kind]) (h9 : n.kind ≠ 9 := by simp [Node.kind]) : BX n :=
 ⟨fun _ => h, fun e => by omega, fun e => absurd e h9, fun e => by omega, fun e => by omega, fun e => absurd e h8⟩
theorem BX.s {n : Node} (h : Bal (tw n .stmt)) (hk : 20 ≤ n.kind := by simp [Node.kind]) (h2 : n.kind ≠ 22 := by simp [Node.kind]) (h3 : n.kind ≠ 30 := by simp [Node.kind]) : BX n :=
 ⟨fun e => by unfold isE at e; omega, fun _ => h, fun e => by omega, fun e => absurd e h3, fun e => absurd e h2, fun e => by omega⟩
theorem BX.at_ {n : Node} (h : BX n) (he : isE n) (q : Int) : Bal (tw n (.at q)) := bal_at (h.ex he) q
theorem bal_map (m : M) (l : List Node) (h : ∀ x ∈ l, Bal (tw x m)) : Bal (tjoin ((tws l).map (· m))) := by
 rw [tws_map, List.map_map]
 refine bal_join _ fun x hx => ?_
 obtain ⟨y, hy, rfl⟩ := List.mem_map.1 hx
 exact h y hy
theorem bal_sgn {t : Bs} (h : t ∈ binS) : Bal [sg t] := by
 have : ∀ t ∈ binS, t ≠ [40] ∧ t ≠ [41] := by decide
 exact bal_sg (this t h).1 (this t h).2
theorem bx {n : Node} {fn lp : Bool} (h : Rt fn lp n) : BX n := by
 induction h with
 | num fn lp nu h1 h2 => exact .e (bal_one rfl rfl)
 | str fn lp t => exact .e (bal_one rfl rfl)
 | bool fn lp nu h =>
  refine .e ?_
  rcases h with rfl | rfl
  ·exact bal_kw _
  ·exact bal_kw _
 | null => exact .e (bal_kw _)
 | var fn lp t h => exact .e (bal_nm _)
 | list fn lp l h1 h2 ih =>
  refine .e ?_
  exact ((bal_sg (by decide) (by decide)).app (bal_map (.at (-2)) l fun x hx => (ih x hx).at_ (h1 x hx) _)).app (bal_sg (by decide) (by decide))
 | recd fn lp l h1 h2 ih =>
  refine .e ?_
  exact ((bal_sg (by decide) (by decide)).app (bal_map .pair l fun x hx => (ih x hx).pair (h1 x hx))).app (bal_sg (by decide) (by decide))
 | pair fn lp t a h1 h2 h3 ih =>
  refine ⟨fun e => by simp [isE, Node.kind] at e, fun e => by simp [Node.kind] at e, fun e => by simp [Node.kind] at e, fun e => by simp [Node.kind] at e, fun e => by simp [Node.kind] at e, fun _ => ?_⟩
  exact (bal_cons rfl rfl (bal_sg (by decide) (by decide))).app (ih.at_ h2 (-2))
 | func fn lp t ps b h1 h2 h3 h4 ih =>
  have hw : Bal (tw (.mk 9 0 t (ps.map (fun p => .mk 10 0 p []) ++ [b])) .fn) := by
   rw [tw_func]
   refine (((bal_kw _).app ?_).app (bal_par (bal_join _ fun x hx => ?_))).app (ih.block h3)
   ·split
    ·exact bal_nil
    ·exact bal_nm _
   ·obtain ⟨p, _, rfl⟩ := List.mem_map.1 hx
    exact bal_nm _
  exact ⟨fun _ => hw, fun e => by simp [Node.kind] at e, fun _ => hw, fun e => by simp [Node.kind] at e, fun e => by simp [Node.kind] at e, fun e => by simp [Node.kind] at e⟩
 | param fn lp t h => exact ⟨fun e => by simp [isE, Node.kind] at e, fun e => by simp [Node.kind] at e, fun e => by simp [Node.kind] at e, fun e => by simp [Node.kind] at e, fun e => by simp [Node.kind] at e, fun e => by simp [Node.kind] at e⟩
 | call fn lp a l h1 h2 h3 h4 ih1 ih2 =>
  refine .e ?_
  exact (ih1.at_ h1 7).app (bal_par (bal_map (.at (-2)) l fun x hx => (ih2 x hx).at_ (h3 x hx) _))
 | index fn lp a b h1 h2 h3 h4 ih1 ih2 =>
  refine .e ?_
  exact (((ih1.at_ h1 7).app (bal_sg (by decide) (by decide))).app (ih2.at_ h3 (-2))).app (bal_sg (by decide) (by decide))
 | dot fn lp t a h1 h2 h3 ih =>
  refine .e ?_
  exact (ih.at_ h2 7).app (bal_cons rfl rfl (bal_nm _))
 | unary fn lp t a h1 h2 h3 ih =>
  refine .e ?_
  rcases h1 with rfl | rfl
  ·exact (bal_sg (by decide) (by decide)).app (ih.at_ h2 6)
  ·exact (bal_sg (by decide) (by decide)).app (ih.at_ h2 6)
 | binary fn lp t a b h1 h2 h3 h4 h5 ih1 ih2 =>
  refine .e ?_
  exact ((ih1.at_ h2 (rank (.mk 15 0 t []))).app (bal_sgn h1)).app (ih2.at_ h4 (rank (.mk 15 0 t []) + 1))
 | and_ fn lp a b h1 h2 h3 h4 ih1 ih2 =>
  refine .e ?_
  exact ((ih1.at_ h1 (rank (.mk 16 0 [] []))).app (bal_sg (by decide) (by decide))).app (ih2.at_ h3 (rank (.mk 16 0 [] []) + 1))
 | or_ fn lp a b h1 h2 h3 h4 ih1 ih2 =>
  refine .e ?_
  exact ((ih1.at_ h1 (rank (.mk 17 0 [] []))).app (bal_sg (by decide) (by decide))).app (ih2.at_ h3 (rank (.mk 17 0 [] []) + 1))
 | cond fn lp a b c h1 h2 h3 h4 h5 h6 ih1 ih2 ih3 =>
  refine .e ?_
  exact ((((ih1.at_ h1 0).app (bal_sg (by decide) (by decide))).app (ih2.at_ h3 (-2))).app (bal_sg (by decide) (by decide))).app (ih3.at_ h5 (-2))
 | assign fn lp a b h1 h2 h3 h4 ih1 ih2 =>
  refine .e ?_
  have ha : isE a := by unfold isT at h1; unfold isE; omega
  exact ((ih1.at_ ha 7).app (bal_sg (by decide) (by decide))).app (ih2.at_ h3 (-2))
 | let_ fn lp t a h1 h2 h3 ih =>
  refine .s ?_
  exact ((bal_cons rfl rfl (bal_cons rfl rfl (bal_sg (by decide) (by decide)))).app (ih.at_ h2 (-2))).app (bal_sg (by decide) (by decide))
 | def_ fn lp f h1 h2 h3 ih => exact .s (ih.fn h1)
 | if2 fn lp c b h1 h2 h3 h4 ih1 ih2 =>
  have hw : Bal (tw (.mk 22 0 [] [c, b]) .ifs) := by
   have e2 : tw (.mk 22 0 [] [c, b]) .ifs = [kw Pars.wIf] ++ ([sg [40]] ++ tw c (.at (-2)) ++ [sg [41]]) ++ tw b .block := by show [kw Pars.wIf, sg [40]] ++ tw c (.at (-2)) ++ [sg [41]] ++ tw b .block ++ [] = _; simp
   rw [e2]
   exact ((bal_kw _).app (bal_par (ih1.at_ h1 (-2)))).app (ih2.block h3)
  exact ⟨fun e => by simp [isE, Node.kind] at e, fun _ => hw, fun e => by simp [Node.kind] at e, fun e => by simp [Node.kind] at e, fun _ => hw, fun e => by simp [Node.kind] at e⟩
 | if3 fn lp c b e h1 h2 h3 h4 h5 h6 ih1 ih2 ih3 =>
  have hw : Bal (tw (.mk 22 0 [] [c, b, e]) .ifs) := by
   have e2 : tw (.mk 22 0 [] [c, b, e]) .ifs = [kw Pars.wIf] ++ ([sg [40]] ++ tw c (.at (-2)) ++ [sg [41]]) ++ tw b .block ++ ([kw Pars.wElse] ++ (if e.kind = 22 then tw e .ifs else tw e .block)) := by
    show [kw Pars.wIf, sg [40]] ++ tw c (.at (-2)) ++ [sg [41]] ++ tw b .block ++ ([kw Pars.wElse] ++ (if e.kind = 22 then tw e .ifs else tw e .block)) = _; simp
   rw [e2]
   refine (((bal_kw _).app (bal_par (ih1.at_ h1 (-2)))).app (ih2.block h3)).app ((bal_kw _).app ?_)
   by_cases hk : e.kind = 22
   ·rw [if_pos hk]; exact ih3.ifs hk
   ·rw [if_neg hk]; exact ih3.block (by omega)
  exact ⟨fun e => by simp [isE, Node.kind] at e, fun _ => hw, fun e => by simp [Node.kind] at e, fun e => by simp [Node.kind] at e, fun _ => hw, fun e => by simp [Node.kind] at e⟩
 | while_ fn lp c b h1 h2 h3 h4 ih1 ih2 =>
  refine .s ?_
  have e2 : tw (.mk 23 0 [] [c, b]) .stmt = [kw Pars.wWhile] ++ ([sg [40]] ++ tw c (.at (-2)) ++ [sg [41]]) ++ tw b .block := by show [kw Pars.wWhile, sg [40]] ++ tw c (.at (-2)) ++ [sg [41]] ++ tw b .block = _; simp
  rw [e2]
  exact ((bal_kw _).app (bal_par (ih1.at_ h1 (-2)))).app (ih2.block h3)
 | for_ fn lp t c b h0 h1 h2 h3 h4 ih1 ih2 =>
  refine .s ?_
  have e2 : tw (.mk 24 0 t [c, b]) .stmt = [kw Pars.wFor] ++ ([sg [40]] ++ ([kw Pars.wLet, nm t, kw Pars.wOf] ++ tw c (.at (-2))) ++ [sg [41]]) ++ tw b .block := by show [kw Pars.wFor, sg [40], kw Pars.wLet, nm t, kw Pars.wOf] ++ tw c (.at (-2)) ++ [sg [41]] ++ tw b .block = _; simp
  rw [e2]
  exact ((bal_kw _).app (bal_par ((bal_cons rfl rfl (bal_cons rfl rfl (bal_kw _))).app (ih1.at_ h1 (-2))))).app (ih2.block h3)
 | ret0 lp => exact .s ((bal_kw _).app (bal_sg (by decide) (by decide)))
 | ret1 lp a h1 h2 ih =>
  refine .s ?_
  exact ((bal_kw _).app (ih.at_ h1 (-2))).app (bal_sg (by decide) (by decide))
 | brk fn => exact .s ((bal_kw _).app (bal_sg (by decide) (by decide)))
 | cont fn => exact .s ((bal_kw _).app (bal_sg (by decide) (by decide)))
 | throw fn lp a h1 h2 ih =>
  refine .s ?_
  exact ((bal_kw _).app (ih.at_ h1 (-2))).app (bal_sg (by decide) (by decide))
 | try1 fn lp t b c h0 h1 h2 h3 h4 ih1 ih2 =>
  refine .s ?_
  exact (((bal_kw _).app (ih1.block h1)).app (((bal_kw Pars.wCatch).app (bal_par (bal_nm t))).app (ih2.block h3))).app bal_nil
 | try2 fn lp b d h1 h2 h3 h4 ih1 ih2 =>
  refine .s ?_
  exact (((bal_kw _).app (ih1.block h1)).app bal_nil).app ((bal_kw _).app (ih2.block h3))
 | try3 fn lp t b c d h0 h1 h2 h3 h4 h5 h6 ih1 ih2 ih3 =>
  refine .s ?_
  exact (((bal_kw _).app (ih1.block h1)).app (((bal_kw Pars.wCatch).app (bal_par (bal_nm t))).app (ih2.block h3))).app ((bal_kw _).app (ih3.block h5))
 | block fn lp l h1 h2 ih =>
  have hw : Bal (tw (.mk 30 0 [] l) .block) := by
   rw [tw_blk]
   exact ((bal_sg (by decide) (by decide)).app (bal_flat l fun x hx => (ih x hx).stmt (h1 x hx).1)).app (bal_sg (by decide) (by decide))
  exact ⟨fun e => by simp [isE, Node.kind] at e, fun _ => hw, fun e => by simp [Node.kind] at e, fun _ => hw, fun e => by simp [Node.kind] at e, fun e => by simp [Node.kind] at e⟩
 | expr fn lp a h1 h2 ih =>
  refine .s ?_
  have e2 : tw (.mk 31 0 [] [a]) .stmt = (if front a = 7 ∨ front a = 9 then [sg [40]] ++ tw a (.at (-2)) ++ [sg [41]] else tw a (.at (-2))) ++ [sg [59]] := rfl
  rw [e2]
  refine Bal.app ?_ (bal_sg (by decide) (by decide))
  split
  ·exact bal_par (ih.at_ h1 (-2))
  ·exact ih.at_ h1 (-2)
theorem bal_text {n : Node} (h : Rt false false n) (hk : n.kind = 30) : scan 0 (ttext n) = some 0 := by
 cases h with
 | block _ _ l h1 h2 => exact bal_flat l (fun x hx => (bx (h2 x hx)).stmt (h1 x hx).1) 0
 | _ => simp [Node.kind] at hk
theorem scan_take {l : List Tk} {d e : Nat} (h : scan d l = some e) (j : Nat) : ∃ c, scan d (l.take j) = some c := by
 have : scan d (l.take j ++ l.drop j) = some e := by rw [List.take_append_drop]; exact h
 rw [scan_app] at this
 cases hc : scan d (l.take j) with
 | none => rw [hc] at this; cases this
 | some c => exact ⟨c, rfl⟩
theorem scan_step {l : List Tk} {d c : Nat} {j : Nat} {t : Tk} (hc : scan d (l.take j) = some c) (ht : l[j]? = some t) : scan d (l.take (j + 1)) = scan c [t] := by
 rw [List.take_add_one, ht, scan_app, hc]; rfl
end Wri
namespace Go.Proofs.YtonjdlialejedaaGreatDoor
open Go.Lib (hid)
open Go.RowKit
theorem Wri.few_toks {s t : List UInt8} {n : Pars.Node} (hp : Pars.parse s = .ok n) (hw : Wri.write n = .ok t) : ∃ full, Lexy.toks t = .ok full ∧ Lexy.Lex 0 t full ∧ full.map (·.toTk) = Wri.ttext n ∧ Wri.scan 0 (Wri.ttext n) = some 0 := by
 obtain ⟨_, _, _, _, h4, h5, _, _⟩ := Wri.parse_right hp
 have hb := Wri.bal_text h5 h4
 obtain ⟨_, hq⟩ := Wri.back hp
 have hpt : Pars.parse t = .ok n := by
  rcases hq with e | ⟨t2, e, h, _⟩
  ·rw [hw] at e; cases e
  ·rw [hw] at e; injection e with e; rw [e]; exact h
 have ht : t = Wri.text n ∧ (Wri.text n).length ≤ 2000 := by
  unfold Wri.write at hw
  split at hw
  ·cases hw
  ·split at hw
   ·cases hw
   ·rename_i h; injection hw with hw; exact ⟨hw.symm, by omega⟩
 obtain ⟨full, g1, g2, _⟩ := Wri.parse_right hpt
 have := Wri.toks_text h5 h4 ht.2
 rw [← ht.1, g1] at this
 split at this
 ·obtain ⟨f2, e1, e2, _⟩ := this
  injection e1 with e1
  exact ⟨full, g1, g2, by rw [e1]; exact e2, hb⟩
 ·cases this
def ints (l : List Nat) : List Value := l.map fun (i : Nat) => Value.int .i64 (i : Int)
theorem ints_snoc (l : List Nat) (i : Nat) : ints (l ++ [i]) = ints l ++ [.int .i64 (i : Int)] := by simp [ints]
theorem own_pop {w : World} {B g m cap : Nat} {e : TypeId} {xs : List Value} {y : Value} (h : w.ownsRow B e 1 (.slice (some ⟨g, 0, none⟩) (m + 1) cap) (m + 1) (xs ++ [y])) : w.ownsRow B e 1 (.slice (some ⟨g, 0, none⟩) m cap) m xs ∧ w.cell? ⟨g, m, none⟩ = some y ∧ m + 1 ≤ cap ∧ B ≤ g := by
 have hl := h.1
 have hxl : xs.length = m := by simpa using hl
 obtain ⟨g', cap', R, e1, hB, hbx, hc1, hc2, hc3⟩ := own_box h (by omega)
 injection e1 with e1 e2 e3
 injection e1 with e1
 injection e1 with e1
 subst e1 e3
 refine ⟨box_own hB hbx (by omega) hc2 hc3 ?_ (by omega), ?_, hc1, hB⟩
 ·rw [Nat.mul_one, List.append_assoc, List.take_append_of_le_length (by omega), List.take_of_length_le (by omega)]
 ·rw [hbx.cell m]
  simp [hxl]
theorem int_parts : (Tryz.prog.info? 3).map (fun i => (i.zero, i.size, i.bytes)) = some (some (.int .i64 0), 1, 8) := by kernel_rfl
structure FewAt (n : Pars.Node) (k : Nat) (sk : List Nat) : Prop where
 lt : ∀ i ∈ sk, i < k
 sc : Wri.scan 0 ((Wri.ttext n).take k) = some sk.length
 le : sk.length ≤ k
theorem FewAt.start (n : Pars.Node) : FewAt n 0 [] := ⟨fun _ h => (by cases h), rfl, Nat.le_refl _⟩
theorem FewAt.other {n : Pars.Node} {k : Nat} {sk : List Nat} {t : Lexy.Tk} (h : FewAt n k sk) (ht : (Wri.ttext n)[k]? = some t) (h1 : Wri.isOpen t = false) (h2 : Wri.isShut t = false) : FewAt n (k + 1) sk :=
 ⟨fun i hi => Nat.lt_succ_of_lt (h.lt i hi), by rw [Wri.scan_step h.sc ht]; simp [Wri.scan, h1, h2], Nat.le_succ_of_le h.le⟩
theorem FewAt.push {n : Pars.Node} {k : Nat} {sk : List Nat} {t : Lexy.Tk} (h : FewAt n k sk) (ht : (Wri.ttext n)[k]? = some t) (h1 : Wri.isOpen t = true) : FewAt n (k + 1) (sk ++ [k]) := by
 refine ⟨fun i hi => ?_, by rw [Wri.scan_step h.sc ht]; simp [Wri.scan, h1], by have := h.le; simp; omega⟩
 rcases List.mem_append.1 hi with hi | hi
 ·exact Nat.lt_succ_of_lt (h.lt i hi)
 ·simp at hi; omega
theorem FewAt.pop {n : Pars.Node} {k : Nat} {sk : List Nat} {t : Lexy.Tk} (h : FewAt n k sk) (ht : (Wri.ttext n)[k]? = some t) (h1 : Wri.isOpen t = false) (h2 : Wri.isShut t = true) (hb : Wri.scan 0 (Wri.ttext n) = some 0) : ∃ s2 j, sk = s2 ++ [j] ∧ j < k ∧ FewAt n (k + 1) s2 := by
 obtain ⟨c, hc⟩ := Wri.scan_take hb (k + 1)
 have hs := Wri.scan_step h.sc ht
 rw [hc] at hs
 rcases List.eq_nil_or_concat sk with rfl | ⟨s2, j, rfl⟩
 ·simp [Wri.scan, h1, h2] at hs
 ·rw [List.concat_eq_append] at h hs ⊢
  refine ⟨s2, j, rfl, h.lt j (by simp), fun i hi => Nat.lt_succ_of_lt (h.lt i (by simp [hi])), ?_, by have := h.le; simp at this; omega⟩
  rw [hc, hs]
  simp [Wri.scan, h1, h2]
theorem few_same {t : List UInt8} {n m : Pars.Node} {k : Int} (hne : Pars.parse t ≠ .ok n) (h : PC t m k) (hk : k = 0) : Pars.same n m = false := by
 cases hs : Pars.same n m with
 | false => rfl
 | true =>
  have := Pars.same_eq n m hs
  subst this
  rcases h with ⟨h, _⟩ | ⟨_, ⟨h, _⟩ | ⟨h, _⟩⟩
  ·exact absurd h hne
  ·omega
  ·omega
theorem ext_to (s : List UInt8) (n : Nat) : (byt s).extract 0 n = byt (s.take n) := by
 unfold byt
 apply ByteArray.ext
 apply Array.ext'
 simp
theorem ext_mid (s : List UInt8) (a b : Nat) : (byt s).extract a b = byt ((s.take b).drop a) := by
 unfold byt
 apply ByteArray.ext
 apply Array.ext'
 simp [List.drop_take]
theorem ext_tail (s : List UInt8) (a : Nat) : (byt s).extract a (byt s).size = byt (s.drop a) := by
 rw [ext_mid, byt_size, List.take_length]
theorem parse_d (s : List UInt8) (w : World) (he : EnvW w) (hm : s.length ≤ 9223372036854775807) :
  Calls Tryz.prog 9 #[.string (byt s)] w fun e w' => ∃ n cs k, e = .returned (.tuple #[.agg cs, .int .i64 k]) ∧ NodeAt w' (fun g => w.heap.size ≤ g) n cs ∧ Below w.heap.size w w' ∧ PC s n k :=
 (parse_any s w he.sp (by have := he.big; omega) hm).mono (by
  rintro e w' (⟨n, cs, hp, rfl, hn, hb⟩ | ⟨k, hp, hk, rfl, hb⟩)
  ·exact ⟨n, cs, 0, rfl, hn, hb, .inl ⟨hp, rfl⟩⟩
  ·refine ⟨.mk 0 0 [] [], _, k, rfl, NodeAt.leaf _ _ 0 0 [], hb, .inr ⟨rfl, ?_⟩⟩
   rcases hk with rfl | rfl
   ·exact .inl ⟨rfl, hp⟩
   ·exact .inr ⟨rfl, hp⟩)
set_option maxRecDepth 100000 in
set_option maxHeartbeats 4000000 in
theorem few_true (s : List UInt8) (w : World) (he : EnvW w) (hs : s.length ≤ 9223372036854775807) : Calls Tryz.prog 6 #[.string (byt s)] w (TruthOut w) := by
 have HE := hid he
 have hbig := he.big
 have HU := hid (Below.refl w.heap.size w)
 clear he
 go_enter Tryz.func6, Tryz.ntmps6
 go_wp2_with fail
 refine (parse_c s _ (HE.out.below HU.out hbig) hs).mono ?_
 rintro e w1 ⟨n0, cs0, k0, rfl, hn, hb, hpc⟩
 replace HU := hid (HU.out.trans (hb.mono HU.out.size))
 have HN0 := hid hn
 have HPC0 := hid hpc
 have HINF0 : Hid ((Tryz.prog.info? 24).map (·.size) = some cs0.size) := hid (by rw [NodeAt.size hn]; exact info_nod)
 have H40 : Hid ((4 : Nat) = cs0.size) := hid (NodeAt.size hn).symm
 have HONE0 := hid (NodeAt.one hn)
 clear hn hb hpc
 go_upto_region 2 with (refine wpList_store_box rfl 24 (.tmp 3) (.tmp 18) rfl w1.heap.size cs0 rfl rfl 24 _ (Box.new w1 _ _) HINF0.out H40.out HONE0.out ?_; intro w2 hx hu hz; have HZ := hid hz; clear hz)
 have hb : Below w1.heap.size w1 w2 := (below1 w1 _).trans (hu.own (Nat.le_refl _) (by simp))
 have EB0 := hid hx
 replace HN0 := hid (HN0.out.below hb)
 replace HU := hid (HU.out.trans (hb.mono HU.out.size))
 clear hx hu hb
 go_wp2_with fail
 refine (lives_true _ (HE.out.below HU.out hbig)).mono ?_
 rintro e w3 ⟨rfl, hb⟩
 replace HN0 := hid (HN0.out.below hb)
 replace EB0 := bl EB0 hb
 replace HU := hid (HU.out.trans (hb.mono HU.out.size))
 clear hb
 rcases HPC0.out with ⟨hps, hk⟩ | ⟨hn0, hk⟩
 ·subst hk
  have d2 : ((0 : Int) != 0) = false := rfl
  have HPS := hid hps
  have HBK := hid (Wri.back hps).2
  clear hps
  have eb0 := EB0.out
  go_wp2_with (refine wpList_load_row rfl 24 (.tmp 3) rfl w1.heap.size rfl _ cs0 (0, 0) _ eb0 Tryz.underlying24 rfl HINF0.out ?_)
  refine (write_c (by have := pc_wg HPC0.out; omega) HN0.out (HE.out.below HU.out hbig)).mono ?_
  rintro e w4 ⟨t1, k1, rfl, hb, hwq⟩
  clear eb0
  replace HN0 := hid (HN0.out.below hb)
  replace EB0 := bl EB0 hb
  replace HU := hid (HU.out.trans (hb.mono HU.out.size))
  have HWQ1 := hid hwq
  clear hb hwq
  rcases HWQ1.out with ⟨hw, hk⟩ | ⟨rfl, ⟨hk, hw⟩ | ⟨hk, hw⟩⟩
  ·subst hk
   have HWR := hid hw
   have HFT := hid (Wri.few_toks HPS.out hw)
   clear hw
   have hsz : (byt t1).size = t1.length := byt_size t1
   by_cases hl : 300 < t1.length
   ·have l1 : decide ((t1.length : Int) > 300) = true := decide_eq_true (by omega)
    have l2 : (t1.length : Int) > 300 := by omega
    go_wp2
    go_ret
    exact ⟨rfl, HU.out⟩
   ·have l1 : decide ((t1.length : Int) > 300) = false := decide_eq_false (by omega)
    have l2 : ¬ (t1.length : Int) > 300 := by omega
    go_wp2_with fail
    clear l1 l2
    refine (Jl.tokens_any (byt t1) _ (HE.out.below HU.out hbig).sp (by have := HU.out.size; omega) (by omega)).mono ?_
    intro e w6 ht
    rw [byt_data] at ht
    obtain ⟨full, f1, f2, f3, f4⟩ := HFT.out
    rw [f1] at ht
    obtain ⟨A, cap, rfl, hown, hb⟩ := ht
    replace HN0 := hid (HN0.out.below hb)
    replace EB0 := bl EB0 hb
    replace HU := hid (HU.out.trans (hb.mono HU.out.size))
    have HLX := hid f2
    have HMP := hid f3
    have HBL := hid f4
    have hfl : full.length ≤ 1000 := (toks_le f1).1
    have hks : KRd w6 (kts full) (.slice A (kts full).length cap) := by
     have := Rd.own hown
     unfold KRd
     rw [kts_cells, kts_len]
     exact this
    rw [kts_len] at hks
    have HKS := hid hks
    clear f1 f2 f3 f4 hown hb hks
    obtain ⟨W0, hW0⟩ : ∃ W0, w6 = W0 := ⟨_, rfl⟩
    rw [hW0] at HU HN0 EB0 HKS
    have HHS := hid hsz
    clear hsz
    rw [hW0]
    clear hW0
    go_wp2_with fail
    go_loopg [9, 54] (full.length - 0) (fun g u v wr => ∃ (k : Nat) (sk : List Nat), k ≤ full.length ∧ g = full.length - k ∧ v = .int .i64 (k : Int) ∧ Hid (FewAt n0 k sk) ∧ Hid (wr.ownsRow W0.heap.size 3 1 u sk.length (ints sk)) ∧ Hid (Below W0.heap.size W0 wr))
    case atStart => exact ⟨0, [], Nat.zero_le _, rfl, rfl, FewAt.start _, ⟨rfl, .inl ⟨rfl, rfl⟩⟩, Below.refl _ _⟩
    case round =>
     obtain ⟨k, sk, hk, hg, rfl, HF, HO, HB⟩ := hrel
     have HG := hid hg
     clear hg
     have hzr := HB.out.size
     by_cases hlt : k < full.length
     ·have hl1 : decide ((k : Int) < (full.length : Int)) = true := decide_eq_true (by omega)
      have hl2 : (k : Int) < (full.length : Int) := by omega
      obtain ⟨x, hx⟩ : ∃ x, full[k]? = some x := ⟨_, List.getElem?_eq_getElem hlt⟩
      have hxt : (Wri.ttext n0)[k]? = some x.toTk := by rw [← HMP.out]; simp [hx]
      have hxk : (kts full)[k]? = some (x.toTk, (x.lo : Int), (x.hi : Int)) := by simp [kts, hx]
      obtain ⟨A', cap', e9, _, _, hrow⟩ := HKS.out
      injection e9 with e9 e11 e10
      subst e9 e10
      clear e11
      obtain ⟨g0, o0, rfl, hg0, hrg⟩ := hrow (by rw [kts_len]; omega)
      have HRG := hid hrg
      clear hrow hrg
      have hrange : Hid (wr.rangeAt g0 (o0 + k * 5) (kc (x.toTk, (x.lo : Int), (x.hi : Int))).toList) := hid (fun j u hu => by
       rw [HB.out.cell (p := ⟨g0, o0 + k * 5 + j, none⟩) hg0]
       exact RdL.elem (k := 5) (f := kc) (fun _ => rfl) HRG.out hxk j u hu)
      have HX := hid hx
      have HXT := hid hxt
      clear hx hxt hxk
      go_upto_region 14 with (first | (refine wpList_load_mid rfl 40 (.tmp 57) rfl g0 (o0 + k * 5) rfl (kc (x.toTk, (x.lo : Int), (x.hi : Int))).toList _ hrange.out Tryz.underlying40 rfl info_tok ?_) | (refine wpList_store_box rfl 40 (.tmp 11) (.tmp 58) rfl wr.heap.size (kc (x.toTk, (x.lo : Int), (x.hi : Int))) rfl rfl 40 _ (Box.new wr _ _) info_tok rfl (kc_one _) ?_; intro w2 hx2 hu2 hz2; have HZ2 := hid hz2; clear hz2))
      have hb2 : Below wr.heap.size wr w2 := (below1 wr _).trans (hu2.own (Nat.le_refl _) (by simp))
      have XB := hid hx2
      replace HO := hid (own_below HO.out hb2)
      replace HB := hid (HB.out.trans (hb2.mono hzr))
      have hxw := hzr
      replace hzr := HB.out.size
      clear hx2 hu2 hb2 hrange
      have c0 := XB.out.cell 0
      have c3 := XB.out.cell 3
      simp [kc] at c0 c3
      obtain ⟨xk, hxkd⟩ : ∃ q, x.kind = q := ⟨_, rfl⟩
      rw [hxkd] at c0
      obtain ⟨TX, hTX⟩ : ∃ q, byt x.text = q := ⟨_, rfl⟩
      rw [hTX] at c3
      have HTX := hid hTX
      have HXD := hid hxkd
      clear hTX hxkd
      obtain ⟨AU, cu, rfl⟩ := own_slice HO.out
      obtain ⟨i0, hi, hi0, hi1, hi2⟩ := info_parts int_parts
      by_cases y4 : xk = 4
      ·subst y4
       by_cases y1 : TX = ⟨#[40]⟩
       ·have p1 : (TX.toList == [40]) = true := by
         have e : (⟨#[40]⟩ : ByteArray).toList = [40] := by simp [ByteArray.toList_eq]
         rw [y1, e]; rfl
        have hxo : x.text = [40] := byt_inj (HTX.out.trans (y1.trans (show (⟨#[40]⟩ : ByteArray) = byt [40] from rfl)))
        have HP : Hid (FewAt n0 (k + 1) (sk ++ [k])) := hid (HF.out.push HXT.out (by simp [Wri.isOpen, HXD.out, hxo]))
        clear y1 hxo
        have hskl := HF.out.le
        go_wp2_with (at_builtin; refine wpList_append_own _ rfl (.tmp 66) (.tmp 68) 38 rfl W0.heap.size 3 i0 (.int .i64 0) 1 8 Tryz.underlying38 hi hi0 hi1 hi2 rfl (by decide) (.slice AU sk.length cu) sk.length (ints sk) rfl (HO.out.alloc _) ⟨w2.heap.size, 0, none⟩ 1 1 [.int .i64 (k : Int)] rfl rfl (Jl.one_new _ _ _ _ rfl) (by simp [Value.oneCell']) ?c3 ?c4 ?c5 ?_)
        case c3 => unfold maxLen; omega
        case c4 => omega
        case c5 => (try simp); omega
        intro v3 w3 hown hgr _
        have HB3 := hid ((HB.out.alloc hzr _).trans (below_grown hgr (by (try simp); omega) (fun q hq => (HO.out.lt q hq).1)))
        have HO3 : Hid (w3.ownsRow W0.heap.size 3 1 v3 (sk ++ [k]).length (ints (sk ++ [k]))) := hid (by rw [ints_snoc, List.length_append]; exact hown)
        clear hown hgr
        go_wp2
        go_roundg (full.length - (k + 1))
        case measure => rw [HG.out]; omega
        case rel => exact ⟨k + 1, sk ++ [k], by omega, rfl, by go_num, HP, HO3, HB3⟩
       ·obtain ⟨q1, _, _⟩ := same_no y1
        have p1 : (TX.toList == [40]) = false := by
         have e : (⟨#[40]⟩ : ByteArray).toList = [40] := by simp [ByteArray.toList_eq]
         rw [e] at q1
         exact q1
        clear q1
        by_cases y2 : TX = ⟨#[41]⟩
        ·have p2 : (TX.toList == [41]) = true := by
          have e : (⟨#[41]⟩ : ByteArray).toList = [41] := by simp [ByteArray.toList_eq]
          rw [y2, e]; rfl
         have hxn : ¬ x.text = [40] := fun e => y1 (HTX.out.symm.trans (by rw [e]; rfl))
         have hxo : x.text = [41] := byt_inj (HTX.out.trans (y2.trans (show (⟨#[41]⟩ : ByteArray) = byt [41] from rfl)))
         obtain ⟨s2, j, rfl, hj, hF2⟩ := HF.out.pop HXT.out (by simp [Wri.isOpen, HXD.out, hxn]) (by simp [Wri.isShut, HXD.out, hxo]) HBL.out
         have HF2 := hid hF2
         clear hF2 hxn hxo y1 y2
         obtain ⟨m, hm⟩ : ∃ m, s2.length = m := ⟨_, rfl⟩
         have hm1 : (s2 ++ [j]).length = m + 1 := by simp [hm]
         have hml := HF.out.le
         rw [hm1] at hml
         rw [hm1] at HO ⊢
         have HM := hid hm
         obtain ⟨g1, cap1, e1, hg1, hg2⟩ := HO.out.form (by omega)
         injection e1 with e1 _ e3
         subst e1 e3
         have hO := HO.out
         rw [ints_snoc] at hO
         obtain ⟨hO2, hc1, hc2, _⟩ := own_pop hO
         have HO2 := hid hO2
         clear hO hO2 HO hm hm1 HF
         obtain ⟨y, hy⟩ : ∃ y, full[j]? = some y := ⟨_, List.getElem?_eq_getElem (by omega)⟩
         have hyk : (kts full)[j]? = some (y.toTk, (y.lo : Int), (y.hi : Int)) := by simp [kts, hy]
         have hrange : Hid (w2.rangeAt g0 (o0 + j * 5) (kc (y.toTk, (y.lo : Int), (y.hi : Int))).toList) := hid (fun i u hu => by
          rw [HB.out.cell (p := ⟨g0, o0 + j * 5 + i, none⟩) hg0]
          exact RdL.elem (k := 5) (f := kc) (fun _ => rfl) HRG.out hyk i u hu)
         obtain ⟨r1, r2, r3, r4, hfew⟩ := Wri.few HLX.out HMP.out hj hy HX.out
         have HFEW := hid hfew
         clear hy hyk hfew
         have z1 : (((m : Int) + 1) == 0) = false := by rw [beq_eq_false_iff_ne]; omega
         have z2 : ¬ ((m : Int) + 1) = 0 := by omega
         have hjf : j < full.length := by omega
         have hwr : IntKind.i64.wrap ((m : Int) + 1 - 1) = (m : Int) := by rw [IntKind.wrap_i64]; omega
         go_upto_region 23 with (first | (refine wpList_load_mid rfl 40 (.tmp 82) rfl g0 (o0 + j * 5) rfl (kc (y.toTk, (y.lo : Int), (y.hi : Int))).toList _ hrange.out Tryz.underlying40 rfl info_tok ?_) | (refine wpList_store_box rfl 40 (.tmp 12) (.tmp 83) rfl w2.heap.size (kc (y.toTk, (y.lo : Int), (y.hi : Int))) rfl rfl 40 _ (Box.new w2 _ _) info_tok rfl (kc_one _) ?_; intro w3 hx3 hu3 hz3; have HZ3 := hid hz3; clear hz3))
         have hb3 : Below w2.heap.size w2 w3 := (below1 w2 _).trans (hu3.own (Nat.le_refl _) (by simp))
         have hzs := hb3.size
         have YB := hid hx3
         replace XB := bl XB hb3
         replace HO2 := hid (own_below HO2.out hb3)
         replace HB := hid (HB.out.trans (hb3.mono hzr))
         have hzw := hzr
         replace hzr := HB.out.size
         clear hx3 hu3 hb3 hrange c0 c3 hc1 z1 z2 hwr p1 p2
         have hE1 := ext_to t1 y.lo
         have hE2 := ext_mid t1 y.hi x.lo
         have hE3 := ext_tail t1 x.hi
         rw [HHS.out] at hE3
         have hPT : byt (t1.take y.lo) ++ (⟨#[32]⟩ : ByteArray) ++ byt ((t1.take x.lo).drop y.hi) ++ (⟨#[32]⟩ : ByteArray) ++ byt (t1.drop x.hi) = byt (t1.take y.lo ++ [32] ++ (t1.take x.lo).drop y.hi ++ [32] ++ t1.drop x.hi) := by rw [← byt_append, ← byt_append, ← byt_append, ← byt_append]; rfl
         have hPL : (t1.take y.lo ++ [32] ++ (t1.take x.lo).drop y.hi ++ [32] ++ t1.drop x.hi).length ≤ 9223372036854775807 := by simp only [List.length_append, List.length_take, List.length_drop, List.length_cons, List.length_nil]; omega
         have s1 : (byt (t1.take y.lo)).size ≤ 300 := by rw [byt_size, List.length_take]; omega
         have s2z : (byt ((t1.take x.lo).drop y.hi)).size ≤ 300 := by rw [byt_size, List.length_drop, List.length_take]; omega
         have s3 : (byt (t1.drop x.hi)).size ≤ 300 := by rw [byt_size, List.length_drop]; omega
         obtain ⟨PT, hPTT⟩ : ∃ q, (t1.take y.lo ++ [32] ++ (t1.take x.lo).drop y.hi ++ [32] ++ t1.drop x.hi) = q := ⟨_, rfl⟩
         rw [hPTT] at HFEW hPT hPL
         clear hPTT
         have hts := HHS.out
         obtain ⟨T, hT⟩ : ∃ q, byt t1 = q := ⟨_, rfl⟩
         rw [hT] at hE1 hE2 hE3 hts ⊢
         have HTT := hid hT
         clear hT
         obtain ⟨G1, hG1⟩ : ∃ q, byt (t1.take y.lo) = q := ⟨_, rfl⟩
         obtain ⟨G2, hG2⟩ : ∃ q, byt ((t1.take x.lo).drop y.hi) = q := ⟨_, rfl⟩
         obtain ⟨G3, hG3⟩ : ∃ q, byt (t1.drop x.hi) = q := ⟨_, rfl⟩
         rw [hG1] at hE1 hPT s1
         rw [hG2] at hE2 hPT s2z
         rw [hG3] at hE3 hPT s3
         clear hG1 hG2 hG3
         have sp : (⟨#[32]⟩ : ByteArray).size = 1 := rfl
         obtain ⟨P1, hP1⟩ : ∃ q, G1 ++ (⟨#[32]⟩ : ByteArray) = q := ⟨_, rfl⟩
         have u1 : P1.size = G1.size + 1 := by rw [← hP1, ByteArray.size_append, sp]
         obtain ⟨P2, hP2⟩ : ∃ q, P1 ++ G2 = q := ⟨_, rfl⟩
         have u2z : P2.size = P1.size + G2.size := by rw [← hP2, ByteArray.size_append]
         obtain ⟨P3, hP3⟩ : ∃ q, P2 ++ (⟨#[32]⟩ : ByteArray) = q := ⟨_, rfl⟩
         have u3 : P3.size = P2.size + 1 := by rw [← hP3, ByteArray.size_append, sp]
         rw [hP1, hP2, hP3] at hPT
         refine wp_region_until 23 (fun w' => Box w' w2.heap.size 40 (kc (y.toTk, (y.lo : Int), (y.hi : Int))) ∧ Box w' wr.heap.size 40 (kc (x.toTk, (x.lo : Int), (x.hi : Int)))) (by kernel_rfl) ⟨YB.out.drew, XB.out.drew⟩ (fun hHeld => ?_)
         obtain ⟨wd, hwd⟩ : ∃ wd, w3.drew = wd := ⟨_, rfl⟩
         have hb : Below w3.heap.size w3 wd := hwd ▸ (Below.refl _ w3).drew
         (try rw [hwd] at hHeld)
         (try rw [hwd])
         clear hwd hHeld
         have hzd := hb.size
         replace YB := bl YB hb
         replace XB := bl XB hb
         replace HO2 := hid (own_below HO2.out hb)
         replace HB := hid (HB.out.trans (hb.mono hzr))
         replace hzr := HB.out.size
         clear hb
         refine tU (i := 0) (v := ?_) rfl ?_ (.inr ⟨YB.out, XB.out⟩) ?_
         rotate_left
         ·intro w hSw
          go_simp
          try (with_reducible rfl)
         (try simp only [Act.put, sq])
         refine tU (i := 1) (v := ?_) rfl ?_ (.inr ⟨YB.out, XB.out⟩) ?_
         rotate_left
         ·intro w hSw
          go_simp
          try (with_reducible rfl)
         (try simp only [Act.put, sq])
         refine tV (i := 2) (v := (.int .i64 (y.lo : Int))) rfl ?_ ⟨YB.out, XB.out⟩ ?_
         ·intro w hSw
          have c := hSw.1.cell 1
          simp [kc] at c
          go_simp
         (try simp only [Act.put, sq])
         refine tU (i := 3) (v := (.string G1)) rfl ?_ (.inr ⟨YB.out, XB.out⟩) ?_
         ·intro w hSw
          go_simp
          try rw [hE1]
          try rfl
          try (first | omega | (intro h; exfalso; omega))
         (try simp only [Act.put, sq])
         refine tU (i := 4) (v := (.string P1)) rfl ?_ (.inr ⟨YB.out, XB.out⟩) ?_
         ·intro w hSw
          go_simp
          try rw [hP1]
          try rfl
          try omega
         (try simp only [Act.put, sq])
         refine tU (i := 5) (v := ?_) rfl ?_ (.inr ⟨YB.out, XB.out⟩) ?_
         rotate_left
         ·intro w hSw
          go_simp
          try (with_reducible rfl)
         (try simp only [Act.put, sq])
         refine tU (i := 6) (v := ?_) rfl ?_ (.inr ⟨YB.out, XB.out⟩) ?_
         rotate_left
         ·intro w hSw
          go_simp
          try (with_reducible rfl)
         (try simp only [Act.put, sq])
         refine tV (i := 7) (v := (.int .i64 (y.hi : Int))) rfl ?_ ⟨YB.out, XB.out⟩ ?_
         ·intro w hSw
          have c := hSw.1.cell 2
          simp [kc] at c
          go_simp
         (try simp only [Act.put, sq])
         refine tU (i := 8) (v := ?_) rfl ?_ (.inr ⟨YB.out, XB.out⟩) ?_
         rotate_left
         ·intro w hSw
          go_simp
          try (with_reducible rfl)
         (try simp only [Act.put, sq])
         refine tV (i := 9) (v := (.int .i64 (x.lo : Int))) rfl ?_ ⟨YB.out, XB.out⟩ ?_
         ·intro w hSw
          have c := hSw.2.cell 1
          simp [kc] at c
          go_simp
         (try simp only [Act.put, sq])
         refine tU (i := 10) (v := (.string G2)) rfl ?_ (.inr ⟨YB.out, XB.out⟩) ?_
         ·intro w hSw
          go_simp
          try rw [hE2]
          try rfl
          try (first | omega | (intro h; exfalso; omega))
         (try simp only [Act.put, sq])
         refine tU (i := 11) (v := (.string P2)) rfl ?_ (.inr ⟨YB.out, XB.out⟩) ?_
         ·intro w hSw
          go_simp
          try rw [hP2]
          try rfl
          try omega
         (try simp only [Act.put, sq])
         refine tU (i := 12) (v := (.string P3)) rfl ?_ (.inr ⟨YB.out, XB.out⟩) ?_
         ·intro w hSw
          go_simp
          try rw [hP3]
          try rfl
          try omega
         (try simp only [Act.put, sq])
         refine tU (i := 13) (v := ?_) rfl ?_ (.inr ⟨YB.out, XB.out⟩) ?_
         rotate_left
         ·intro w hSw
          go_simp
          try (with_reducible rfl)
         (try simp only [Act.put, sq])
         refine tU (i := 14) (v := ?_) rfl ?_ (.inr ⟨YB.out, XB.out⟩) ?_
         rotate_left
         ·intro w hSw
          go_simp
          try (with_reducible rfl)
         (try simp only [Act.put, sq])
         refine tV (i := 15) (v := (.int .i64 (x.hi : Int))) rfl ?_ ⟨YB.out, XB.out⟩ ?_
         ·intro w hSw
          have c := hSw.2.cell 2
          simp [kc] at c
          go_simp
         (try simp only [Act.put, sq])
         refine tU (i := 16) (v := (.string G3)) rfl ?_ (.inr ⟨YB.out, XB.out⟩) ?_
         ·intro w hSw
          go_simp
          try rw [hE3]
          try rfl
          try (first | omega | (intro h; exfalso; omega))
         (try simp only [Act.put, sq])
         refine tU (i := 17) (v := (.string (byt PT))) rfl ?_ (.inr ⟨YB.out, XB.out⟩) ?_
         ·intro w hSw
          go_simp
          try rw [hPT]
          try rfl
          try omega
         (try simp only [Act.put, sq])
         clear hE1 hE2 hE3 hPT s1 s2z s3 hP1 hP2 hP3 u1 u2z u3 sp hts
         refine wpAnyU_ready (rs := [18, 22]) (by kernel_rfl) (by simp) ?_
         refine AllReadyU.cons rfl (fun K hK => ?_) (AllReadyU.cons rfl (fun K hK => ?_) AllReadyU.nil)
         focus
          go_simp
          refine (parse_d PT _ (HE.out.below (HU.out.trans (HB.out.mono HU.out.size)) hbig) hPL).mono ?_
          rintro e w5 ⟨n2, cs2, k2, rfl, hn, hb, hpc⟩
          have HPC2 := hid hpc
          have hz5 := hb.size
          replace YB := bl YB hb
          replace XB := bl XB hb
          replace HO2 := hid (own_below HO2.out hb)
          replace HB := hid (HB.out.trans (hb.mono hzr))
          replace hzr := HB.out.size
          clear hb hpc
          go_wp2_with fail
          refine hK.out _ _ (.inr ⟨YB.out, XB.out⟩) (fun hHeld => ?_)
          clear hK hHeld K
          (try simp only [Act.put, sq])
          refine tU (i := 19) (v := ?_) rfl ?_ (.inr ⟨YB.out, XB.out⟩) ?_
          rotate_left
          ·intro w hSw
           go_simp
           try (with_reducible rfl)
          (try simp only [Act.put, sq])
          refine tU (i := 20) (v := ?_) rfl ?_ (.inr ⟨YB.out, XB.out⟩) ?_
          rotate_left
          ·intro w hSw
           go_simp
           try (with_reducible rfl)
          (try simp only [Act.put, sq])
          refine tU (i := 21) (v := ?_) rfl ?_ (.inr ⟨YB.out, XB.out⟩) ?_
          rotate_left
          ·intro w hSw
           go_simp
           try (with_reducible rfl)
          (try simp only [Act.put, sq])
          refine rdU 22 rfl fun K hK => ?_
          go_simp
          have bxB := Box.new w5 24 #[.int .i64 0, .int .i64 0, .string ⟨#[]⟩, .slice none 0 0]
          have hb : Below w5.heap.size w5 (w5.alloc (.cells #[.int .i64 0, .int .i64 0, .string ⟨#[]⟩, .slice none 0 0] 24)) := below1 w5 _
          obtain ⟨w6, hwb⟩ : ∃ q, (w5.alloc (.cells #[.int .i64 0, .int .i64 0, .string ⟨#[]⟩, .slice none 0 0] 24)) = q := ⟨_, rfl⟩
          rw [hwb] at bxB hb
          rw [hwb]
          clear hwb
          obtain ⟨nb, hnb⟩ : ∃ q, w5.heap.size = q := ⟨_, rfl⟩
          rw [hnb] at bxB ⊢
          have NB := hid bxB
          have hnb2 : g1 < nb ∧ W0.heap.size ≤ nb := by omega
          have HN2 : Hid (NodeAt w6 (fun g => g ≠ nb) n2 cs2) := hid ((NodeAt.keep (S1 := fun g => g ≠ nb) (fun g _ hl => by omega) (Nat.le_refl _) (fun _ _ _ => rfl) hn).below (hnb ▸ hb))
          replace YB := bl YB hb
          replace XB := bl XB hb
          replace HO2 := hid (own_below HO2.out hb)
          replace HB := hid (HB.out.trans (hb.mono hzr))
          replace hzr := HB.out.size
          clear hb bxB hn hnb hz5
          refine hK.out _ _ (.inr ⟨YB.out, XB.out⟩) (fun hHeld => ?_)
          clear hK hHeld K
          (try simp only [Act.put, sq])
         rotate_left
         focus
          go_simp
          have bxB := Box.new wd 24 #[.int .i64 0, .int .i64 0, .string ⟨#[]⟩, .slice none 0 0]
          have hb : Below wd.heap.size wd (wd.alloc (.cells #[.int .i64 0, .int .i64 0, .string ⟨#[]⟩, .slice none 0 0] 24)) := below1 wd _
          obtain ⟨w5, hwb⟩ : ∃ q, (wd.alloc (.cells #[.int .i64 0, .int .i64 0, .string ⟨#[]⟩, .slice none 0 0] 24)) = q := ⟨_, rfl⟩
          rw [hwb] at bxB hb
          rw [hwb]
          clear hwb
          obtain ⟨nb, hnb⟩ : ∃ q, wd.heap.size = q := ⟨_, rfl⟩
          rw [hnb] at bxB ⊢
          have NB := hid bxB
          have hnb2 : g1 < nb ∧ W0.heap.size ≤ nb := by omega
          replace YB := bl YB hb
          replace XB := bl XB hb
          replace HO2 := hid (own_below HO2.out hb)
          replace HB := hid (HB.out.trans (hb.mono hzr))
          replace hzr := HB.out.size
          clear hb bxB hnb
          refine hK.out _ _ (.inr ⟨YB.out, XB.out⟩) (fun hHeld => ?_)
          clear hK hHeld K
          (try simp only [Act.put, sq])
          refine rdU 18 rfl fun K hK => ?_
          go_simp
          refine (parse_d PT _ (HE.out.below (HU.out.trans (HB.out.mono HU.out.size)) hbig) hPL).mono ?_
          rintro e w6 ⟨n2, cs2, k2, rfl, hn, hb, hpc⟩
          have HPC2 := hid hpc
          have HN2 : Hid (NodeAt w6 (fun g => g ≠ nb) n2 cs2) := hid (hn.weak (fun g hg => by have := NB.out.lt; omega))
          replace NB := bl NB hb
          replace YB := bl YB hb
          replace XB := bl XB hb
          replace HO2 := hid (own_below HO2.out hb)
          replace HB := hid (HB.out.trans (hb.mono hzr))
          replace hzr := HB.out.size
          clear hn hb hpc
          go_wp2_with fail
          refine hK.out _ _ (.inr ⟨YB.out, XB.out⟩) (fun hHeld => ?_)
          clear hK hHeld K
          (try simp only [Act.put, sq])
          refine tU (i := 19) (v := ?_) rfl ?_ (.inr ⟨YB.out, XB.out⟩) ?_
          rotate_left
          ·intro w hSw
           go_simp
           try (with_reducible rfl)
          (try simp only [Act.put, sq])
          refine tU (i := 20) (v := ?_) rfl ?_ (.inr ⟨YB.out, XB.out⟩) ?_
          rotate_left
          ·intro w hSw
           go_simp
           try (with_reducible rfl)
          (try simp only [Act.put, sq])
          refine tU (i := 21) (v := ?_) rfl ?_ (.inr ⟨YB.out, XB.out⟩) ?_
          rotate_left
          ·intro w hSw
           go_simp
           try (with_reducible rfl)
          (try simp only [Act.put, sq])
         all_goals
          have HINF2 : Hid ((Tryz.prog.info? 24).map (·.size) = some cs2.size) := hid (by rw [NodeAt.size HN2.out]; exact info_nod)
          have H42 : Hid ((4 : Nat) = cs2.size) := hid (NodeAt.size HN2.out).symm
          have HONE2 := hid (NodeAt.one HN2.out)
          refine rdU 23 rfl fun K hK => ?_
          refine step_store_box rfl 24 (.tmp 13) (.tmp 109) rfl nb cs2 (by simp [Act.eval, Act.put]) (by simp [Act.eval, Act.put]) 24 _ NB.out HINF2.out H42.out HONE2.out ?_
          intro w7 hx hu hz
          have EB2 := hid hx
          replace HN2 := hid (HN2.out.upd hu (fun g hg => hg))
          replace HO2 := hid (own_grown HO2.out hu (.inr (by simp only [Value.ownBlock]; intro e; injection e with e; omega)))
          replace HB := hid (HB.out.trans (hu.own hnb2.2 hzr))
          replace hzr := HB.out.size
          clear hx hu hz YB XB NB
          refine hK.out _ _ (.inl rfl) (fun hHeld => ?_)
          clear hK hHeld K
          (try simp only [Act.put, sq])
          refine rdU 24 rfl fun K hK => ?_
          go_simp
          refine hK.out _ _ (.inl rfl) (fun hHeld => ?_)
          clear hK hHeld K
          (try simp only [Act.put, sq])
          refine wpAnyU_done (by kernel_rfl) ?_ _
          have eb0 := EB0.out.below HB.out EB0.out.lt
          have eb2 := EB2.out
          have hT := HTT.out
          subst hT
          by_cases hk2 : k2 = 0
          ·have HSM := hid (few_same HFEW.out HPC2.out hk2)
           subst hk2
           have e1 : ((0 : Int) == 0) = true := rfl
           go_wp2_with (first | (refine wpList_load_row_g (by kernel_rfl) 24 (.tmp 3) rfl w1.heap.size rfl _ cs0 _ eb0 Tryz.underlying24 rfl HINF0.out ?_) | (refine wpList_load_row_g (by kernel_rfl) 24 (.tmp 13) rfl nb rfl _ cs2 _ eb2 Tryz.underlying24 rfl HINF2.out ?_))
           refine (same_any (pc_size HPC0.out) (HN0.out.below HB.out) HN2.out).mono ?_
           rintro e w8 ⟨rfl, hb⟩
           rw [HSM.out]
           replace HO2 := hid (own_below HO2.out hb)
           replace HB := hid (HB.out.trans (hb.mono hzr))
           clear hb eb0 eb2
           go_wp2
           go_roundg (full.length - (k + 1))
           case measure => rw [HG.out]; omega
           case rel => exact ⟨k + 1, s2, by omega, rfl, by go_num, HF2, hid (by rw [HM.out]; exact HO2.out), HB⟩
          ·have e1 : (k2 == 0) = false := bn hk2
           clear eb0 eb2
           go_wp2
           go_roundg (full.length - (k + 1))
           case measure => rw [HG.out]; omega
           case rel => exact ⟨k + 1, s2, by omega, rfl, by go_num, HF2, hid (by rw [HM.out]; exact HO2.out), HB⟩
        ·obtain ⟨q1, _, _⟩ := same_no y2
         have p2 : (TX.toList == [41]) = false := by
          have e : (⟨#[41]⟩ : ByteArray).toList = [41] := by simp [ByteArray.toList_eq]
          rw [e] at q1
          exact q1
         clear q1
         have hxn : ¬ x.text = [40] := fun e => y1 (HTX.out.symm.trans (by rw [e]; rfl))
         have hxm : ¬ x.text = [41] := fun e => y2 (HTX.out.symm.trans (by rw [e]; rfl))
         have HQ : Hid (FewAt n0 (k + 1) sk) := hid (HF.out.other HXT.out (by simp [Wri.isOpen, HXD.out, hxn]) (by simp [Wri.isShut, HXD.out, hxm]))
         clear y1 y2 hxn hxm
         go_wp2
         go_roundg (full.length - (k + 1))
         case measure => rw [HG.out]; omega
         case rel => exact ⟨k + 1, sk, by omega, rfl, by go_num, hid (HQ.out), HO, HB⟩
      ·have e1 : ((xk : Int) == 4) = false := by rw [beq_eq_false_iff_ne]; omega
       have e2 : ((xk : Int) != 4) = true := by simp [bne, e1]
       have e3 : ¬ (xk : Int) = 4 := by omega
       go_wp2
       go_roundg (full.length - (k + 1))
       case measure => rw [HG.out]; omega
       case rel => exact ⟨k + 1, sk, by omega, rfl, by go_num, hid (HF.out.other HXT.out (by simp [Wri.isOpen, HXD.out, y4]) (by simp [Wri.isShut, HXD.out, y4])), HO, HB⟩
     ·have hl1 : decide ((k : Int) < (full.length : Int)) = false := decide_eq_false (by omega)
      have hl2 : ¬ (k : Int) < (full.length : Int) := by omega
      go_wp2
      go_ret
      exact ⟨rfl, HU.out.trans (HB.out.mono HU.out.size)⟩
  ·subst hk
   have e1 : ((2 : Int) == 0) = false := rfl
   have e2 : ((2 : Int) != 0) = true := rfl
   go_wp2
   go_ret
   exact ⟨rfl, HU.out⟩
  ·exfalso
   rcases HBK.out with e | ⟨t, e, _⟩
   ·rw [hw] at e; cases e
   ·rw [hw] at e; cases e
 ·have hk0 : k0 ≠ 0 := by rcases hk with ⟨rfl, _⟩ | ⟨rfl, _⟩ <;> decide
  have e1 : (k0 == 0) = false := bn hk0
  have e2 : (k0 != 0) = true := by simp [bne, e1]
  go_wp2_with fail
  refine (lives_true _ (HE.out.below HU.out hbig)).mono ?_
  rintro e w4 ⟨rfl, hb⟩
  replace HN0 := hid (HN0.out.below hb)
  replace EB0 := bl EB0 hb
  replace HU := hid (HU.out.trans (hb.mono HU.out.size))
  clear hb
  go_wp2
  go_ret
  exact ⟨rfl, HU.out⟩
end Go.Proofs.YtonjdlialejedaaGreatDoor
namespace Go.Proofs.YtonjdlialejedaaGreatDoor
open Go.Lib (hid)
open Go.RowKit
def laidList : List (String × DataW Unit) := [("math/bits.deBruijn32tab", Rows.laid_math_bits_deBruijn32tab), ("math/bits.deBruijn64tab", Rows.laid_math_bits_deBruijn64tab), ("internal/strconv.uint64pow10", Rows.laid_internal_strconv_uint64pow10), ("unicode.White_Space", Rows.laid_unicode_White_Space), ("strings.asciiSpace", Rows.laid_strings_asciiSpace)]
theorem gTypePow : (Tryz.prog.globals[3]?).map (·.type) = some 156 := by kernel_rfl
theorem tabCellsPow : Tryz.prog.cellsOf 156 = 20 := by kernel_rfl
theorem wordCellsPow : Tryz.prog.cellsOf 143 = 1 := by kernel_rfl
theorem pow_data : (Rows.laid_internal_strconv_uint64pow10 : DataW Unit) = Lib.tabData .u64 Lib.pow10Tab := by kernel_rfl
theorem gTypeSpace : (Tryz.prog.globals[0]?).map (·.type) = some 68 := by kernel_rfl
theorem tabCellsSpace : Tryz.prog.cellsOf 68 = 256 := by kernel_rfl
theorem byteCells1 : Tryz.prog.cellsOf 5 = 1 := by kernel_rfl
theorem space_data : (Rows.laid_strings_asciiSpace : DataW Unit) = Lib.tabData .u8 Lib.asciiSpaceTab := by kernel_rfl
theorem heap7 {W : World} (h : W.ShapedOpen Tryz.prog) : 7 ≤ W.heap.size := by
 have hs : (((begin Tryz.prog (fun _ _ => 0) default).world.heap[6]?).bind Obj.row?).isSome = true := by kernel_rfl
 obtain ⟨⟨z, t⟩, hz⟩ := Option.isSome_iff_exists.1 hs
 have hg : 6 < Tryz.prog.globals.size := of_decide_eq_true (by kernel_rfl)
 obtain ⟨cs, hc, _⟩ := h.1 6 z t hg hz
 have := (Array.getElem?_eq_some_iff.1 hc).1
 omega
theorem env_of {W : World} (h : laidMet Tryz.prog laidList W) (hs : W.ShapedOpen Tryz.prog) : EnvW W := by
 have h2 := h
 unfold laidList at h2
 rw [pow_data, space_data] at h2
 refine ⟨?_, ?_, ?_, heap7 hs⟩
 ·exact Lib.tabIs_of_head (rest := []) Jl.gSpace gTypeSpace Tryz.underlying68 Tryz.underlying5 byteCells1 tabCellsSpace h2.tail.tail.tail.tail
 ·exact Lib.tabIs_of_head gPow gTypePow Tryz.underlying156 Tryz.underlying143 wordCellsPow tabCellsPow h2.tail.tail
 ·exact cell_of_shapedOpen_int (zero := #[.int .i64 0]) (t := 3) hs (of_decide_eq_true (by kernel_rfl)) (by kernel_rfl) rfl (by kernel_rfl) (by kernel_rfl) Tryz.underlying3
end Go.Proofs.YtonjdlialejedaaGreatDoor
