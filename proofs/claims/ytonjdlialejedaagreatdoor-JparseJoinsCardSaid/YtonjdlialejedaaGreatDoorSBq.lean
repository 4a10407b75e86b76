/-
  Texts that the law leans on: Lex, PmA, ParJ, LexW, PxF. Conditions: as each says.
-/
import Derived.Test.YtonjdlialejedaaGreatDoorSAa
import Derived.Test.YtonjdlialejedaaGreatDoorSAb
import Derived.Test.YtonjdlialejedaaGreatDoorSAc
import Derived.Deep.RegionLaw
import Derived.Deep.AppendLies
import Derived.Test.YtonjdlialejedaaGreatDoorSAd
import Derived.Test.YtonjdlialejedaaGreatDoorSAt
import Derived.Test.YtonjdlialejedaaGreatDoorSBh
import Derived.Test.YtonjdlialejedaaGreatDoorSBk
import Derived.Test.YtonjdlialejedaaGreatDoorSAk
import Derived.Test.YtonjdlialejedaaGreatDoorSBm
import Derived.Maps.AppendAt
set_option linter.unusedSimpArgs false
set_option linter.unusedVariables false
namespace Lexy
theorem skp_nl : ∀ (b : Bool) (l r : Bs), skp b (l ++ 10 :: r) = if skp b l < l.length then skp b l else l.length + 1 + skp false r
 | b, [], r => by cases b <;> simp [skp, isBlank]
 | true, c :: l, r => by
  simp only [List.cons_append, skp, List.length_cons]
  have h1 := skp_nl false l r
  have h2 := skp_nl true l r
  split
  ·rw [h1]; split <;> split <;> omega
  ·rw [h2]; split <;> split <;> omega
 | false, c :: l, r => by
  simp only [List.cons_append, skp, List.length_cons]
  have h1 := skp_nl false l r
  have h2 := skp_nl true l r
  have hh : ((l ++ 10 :: r).head? == some 47) = (l.head? == some 47) := by cases l <;> simp
  rw [hh]
  split
  ·rw [h1]; split <;> split <;> omega
  ·split
   ·rw [h2]; split <;> split <;> omega
   ·simp
end Lexy
namespace Go.Proofs.YtonjdlialejedaaGreatDoor
open Go.Lib (hid)
open Go.RowKit
theorem NodesAt.all_one {w : World} {S : Nat → Prop} : ∀ {l : List Pars.Node} {cs : List (Array Value)}, NodesAt w S l cs → ∀ u ∈ flatA cs, u.oneCell' = true
 | [], [], _ => by simp [flatA]
 | n :: l, c :: cs, h => by
  unfold NodesAt at h
  intro u hu
  simp only [flatA, List.flatMap_cons, List.mem_append] at hu
  rcases hu with hu | hu
  ·have := NodeAt.one h.1
   rw [Array.all_eq_true'] at this
   exact this u (Array.mem_toList_iff.1 hu)
  ·exact NodesAt.all_one h.2 u hu
 | [], _ :: _, h => by unfold NodesAt at h; exact h.elim
 | _ :: _, [], h => by unfold NodesAt at h; exact h.elim
end Go.Proofs.YtonjdlialejedaaGreatDoor
namespace Pars
open Lexy (Tk)
theorem bad_head {t : Tk} {r : List Tk} (hk : t.kind = 4 ∨ t.kind = 5) (ht : t.text = wElse ∨ t.text = wFinally ∨ t.text = wCatch) : ∀ n nt fn lp, (nt = .statement ∨ nt = .expression ∨ nt = .cond ∨ (∃ k, nt = .binary k) ∨ nt = .unary ∨ nt = .first ∨ nt = .inner ∨ nt = .block) → run n nt fn lp (t :: r) = none
 | 0, _, _, _, _ => rfl
 | n + 1, nt, fn, lp, h => by
  have ih := bad_head (r := r) hk ht n
  have hw : ∀ s : Bs, s ≠ wElse → s ≠ wFinally → s ≠ wCatch → is s (t :: r) = none := fun s a b c => by
   simp only [is]
   rw [if_neg]
   rintro ⟨_, h⟩
   rcases ht with h2 | h2 | h2 <;> rw [h2] at h
   ·exact a h.symm
   ·exact b h.symm
   ·exact c h.symm
  have k1 : t.kind ≠ 1 := by omega
  have k2 : t.kind ≠ 2 := by omega
  have k3 : t.kind ≠ 3 := by omega
  have hp : ¬ (t.kind = 4 ∧ t.text = [123]) := by rintro ⟨_, h⟩; rcases ht with h2 | h2 | h2 <;> rw [h2] at h <;> exact absurd h (by decide)
  rcases h with rfl | rfl | rfl | ⟨k, rfl⟩ | rfl | rfl | rfl | rfl
  ·simp only [run, alt, peek, if_neg hp, hw wLet (by decide) (by decide) (by decide), hw wFn (by decide) (by decide) (by decide), hw wIf (by decide) (by decide) (by decide), hw wWhile (by decide) (by decide) (by decide), hw wFor (by decide) (by decide) (by decide), hw wReturn (by decide) (by decide) (by decide), hw wBreak (by decide) (by decide) (by decide), hw wContinue (by decide) (by decide) (by decide), hw wThrow (by decide) (by decide) (by decide), hw wTry (by decide) (by decide) (by decide), ih .expression fn lp (by simp), andThen]
  ·simp only [run, ih .cond fn lp (by simp), andThen]
  ·simp only [run, ih (.binary 0) fn lp (by simp), andThen]
  ·simp only [run, ih .unary fn lp (by simp), ih (.binary (k + 1)) fn lp (by simp), andThen, ite_self]
  ·simp only [run, signs, anyOf, hw [33] (by decide) (by decide) (by decide), hw [45] (by decide) (by decide) (by decide), ih .first fn lp (by simp), andThen]
  ·simp only [run, alt, tok, if_neg k1, if_neg k2, if_neg k3, hw wTrue (by decide) (by decide) (by decide), hw wFalse (by decide) (by decide) (by decide), hw wNull (by decide) (by decide) (by decide), hw wFn (by decide) (by decide) (by decide), hw [91] (by decide) (by decide) (by decide), hw [123] (by decide) (by decide) (by decide), ih .inner fn lp (by simp)]
  ·simp only [run, must, alt, hw [40] (by decide) (by decide) (by decide)]
  ·simp only [run, must, alt, hw [123] (by decide) (by decide) (by decide)]
theorem top_acc : ∀ n acc l, top n acc l = (top n [] l).map (acc ++ ·)
 | n, acc, [] => by cases n <;> simp [top]
 | 0, acc, t :: l => rfl
 | n + 1, acc, t :: l => by
  simp only [top]
  cases run (fuel (t :: l)) .statement false false (t :: l) with
  | none => rfl
  | some y =>
   obtain ⟨k, r⟩ := y
   simp only
   rw [top_acc n (acc ++ [k]) r, top_acc n ([] ++ [k]) r]
   cases top n [] r <;> simp
theorem top_less : ∀ n m acc l k, n ≤ m → top n acc l = some k → top m acc l = some k
 | n, m, acc, [], k, _, h => by cases n <;> cases m <;> simpa [top] using h
 | 0, m, acc, t :: l, k, _, h => by simp [top] at h
 | n + 1, 0, acc, t :: l, k, hn, _ => by omega
 | n + 1, m + 1, acc, t :: l, k, hn, h => by
  simp only [top] at h ⊢
  cases hr : run (fuel (t :: l)) .statement false false (t :: l) with
  | none => rw [hr] at h; cases h
  | some y => rw [hr] at h; exact top_less n m _ _ _ (by omega) h
theorem noF_of {n : Nat} {acc : List Node} {l : List Tk} {k : List Node} (h : top n acc l = some k) : NoF l := by
 cases l with
 | nil => exact ⟨rfl, rfl, rfl⟩
 | cons t l =>
  cases n with
  | zero => simp [top] at h
  | succ n =>
   simp only [top] at h
   have key : ∀ s : Bs, (s = wElse ∨ s = wFinally ∨ s = wCatch) → is s (t :: l) = none := fun s hs => by
    cases hi : is s (t :: l) with
    | none => rfl
    | some r =>
     obtain ⟨⟨t', e, hk, ht⟩, _⟩ := is_some hi
     injection e with e1 e2
     subst e1
     rw [bad_head hk (by rw [ht]; exact hs) _ .statement _ _ (.inl rfl)] at h
     cases h
   exact ⟨key _ (.inl rfl), key _ (.inr (.inl rfl)), key _ (.inr (.inr rfl))⟩
theorem fuel_mono (l m : List Tk) : fuel l ≤ fuel (l ++ m) := by unfold fuel; rw [List.length_append]; omega
theorem top_append {N : Nat} {l2 : List Tk} {k2 : List Node} (h2 : top N [] l2 = some k2) : ∀ n acc l1 k1, top n acc l1 = some k1 → top (n + N) acc (l1 ++ l2) = some (k1 ++ k2)
 | n, acc, [], k1, h => by
  have : k1 = acc := by cases n <;> simp [top] at h <;> exact h.symm
  subst this
  have := top_less N (n + N) [] l2 k2 (by omega) h2
  rw [List.nil_append, top_acc, this]; rfl
 | 0, acc, t :: l, k1, h => by simp [top] at h
 | n + 1, acc, t :: l, k1, h => by
  have hf := noF_of h2
  simp only [top] at h
  cases hr : run (fuel (t :: l)) .statement false false (t :: l) with
  | none => rw [hr] at h; cases h
  | some y =>
   obtain ⟨k, r⟩ := y
   rw [hr] at h
   have h3 : run (fuel (t :: l)) .statement false false ((t :: l) ++ l2) = some (k, r ++ l2) := by
    by_cases hn : r = []
    ·subst hn
     exact run_ends _ .statement _ _ rfl _ _ hr l2 hf
    ·exact (run_good _ .statement _ _ _ _ _ hr).2 hn l2
   have h4 := run_less (fuel_mono (t :: l) l2) h3
   rw [show n + 1 + N = (n + N) + 1 by omega]
   simp only [List.cons_append, top]
   rw [show t :: (l ++ l2) = (t :: l) ++ l2 from rfl, h4]
   exact top_append h2 n _ _ _ h
theorem tree_append {l1 l2 : List Tk} {n m : Node} (h1 : tree l1 = some n) (h2 : tree l2 = some m) : tree (l1 ++ l2) = some (.mk 30 0 [] (n.kids ++ m.kids)) ∧ n = .mk 30 0 [] n.kids ∧ m = .mk 30 0 [] m.kids := by
 unfold tree at h1 h2
 cases e1 : top l1.length [] l1 with
 | none => rw [e1] at h1; cases h1
 | some k1 =>
  cases e2 : top l2.length [] l2 with
  | none => rw [e2] at h2; cases h2
  | some k2 =>
   rw [e1] at h1
   rw [e2] at h2
   injection h1 with h1
   injection h2 with h2
   subst h1 h2
   have := top_append e2 _ _ _ _ e1
   refine ⟨?_, rfl, rfl⟩
   unfold tree
   rw [List.length_append, this]; rfl
end Pars
namespace Lexy
theorem lex_app {p : Nat} {s : Bs} {a : List Tok} (h : Lex p s a) : ∀ {t : Bs} {b : List Tok}, Lex (p + s.length + 1) t b → Lex p (s ++ 10 :: t) (a ++ b) := by
 induction h with
 | done p l hd =>
  intro t b hb
  have hl : skp false l = l.length := by
   have h1 := skp_le false l
   have h2 : (l.drop (skp false l)).length = 0 := by rw [hd]; rfl
   rw [List.length_drop] at h2; omega
  have hn := skp_nl false l t
  rw [hl, if_neg (by omega)] at hn
  refine lex_gap (k := l.length + 1) (l := t) hn ?_ hb
  rw [show l.length + 1 + skp false t = l.length + (1 + skp false t) by omega, ← List.drop_drop, List.drop_left' rfl, Nat.add_comm 1, List.drop_succ_cons]
 | more p l tk n ts hne hn hrest ih =>
  intro t b hb
  have h1 := skp_le false l
  have hlt : skp false l < l.length := by
   rcases Nat.lt_or_ge (skp false l) l.length with h | h
   ·exact h
   ·exact absurd (List.drop_eq_nil_of_le h) hne
  have hs := skp_nl false l t
  rw [if_pos hlt] at hs
  have hd : (l ++ 10 :: t).drop (skp false l) = l.drop (skp false l) ++ 10 :: t := List.drop_append_of_le_length (by omega)
  obtain ⟨e1, e2, e3, e4⟩ := next_split hn
  have hnl := next_len hn
  have hnx : next (l.drop (skp false l) ++ 10 :: t) = .ok (tk, n) := by
   have e5 : l.drop (skp false l) ++ 10 :: t = (l.drop (skp false l)).take n ++ ((l.drop (skp false l)).drop n ++ 10 :: t) := by
    rw [← List.append_assoc, List.take_append_drop]
   rw [e5]
   refine e4 _ ?_
   cases (l.drop (skp false l)).drop n with
   | nil => exact .inr (fun c hc => by simp at hc; exact .inl hc.symm)
   | cons d r => exact .inl rfl
  have hr : (l.drop (skp false l) ++ 10 :: t).drop n = (l.drop (skp false l)).drop n ++ 10 :: t := List.drop_append_of_le_length hnl
  have hlen : p + skp false l + n + ((l.drop (skp false l)).drop n).length + 1 = p + l.length + 1 := by
   rw [List.length_drop, List.length_drop]; rw [List.length_drop] at hnl; omega
  have i := ih (t := t) (b := b) (by rw [hlen]; exact hb)
  rw [← hs] at hd hnx hr i ⊢
  have hm := Lex.more p (l ++ 10 :: t) tk n (ts ++ b) (by rw [hs, ← hs, hd]; intro e; simp at e) (by rw [hd]; rw [hs] at hnx ⊢; exact hnx) (by rw [hd]; rw [hs] at hr i ⊢; rw [hr]; exact i)
  exact hm
theorem toks_two {s t : Bs} {a b : List Tok} (ha : Lex 0 s a) (hb : Lex 0 t b) : toks (s ++ 10 :: t) = .err 2 ∨ toks (s ++ 10 :: t) = .ok (a ++ b.map (shift (s.length + 1))) := by
 unfold toks
 split
 ·exact .inl rfl
 ·have h := lex_app ha (t := t) (b := b.map (shift (s.length + 1))) (by have := lex_shift hb (s.length + 1); simpa using this)
  rw [of_lex h 1000]
  split
  ·exact .inr rfl
  ·exact .inl rfl
end Lexy
namespace Go.Proofs.YtonjdlialejedaaGreatDoor
open Go.Lib (hid)
open Go.RowKit
theorem Pars.joins {s t : List UInt8} {n m : Pars.Node} (h1 : Pars.parse s = .ok n) (h2 : Pars.parse t = .ok m) : n = .mk 30 0 [] n.kids ∧ m = .mk 30 0 [] m.kids ∧ (Pars.parse (s ++ 10 :: t) = .error 2 ∨ Pars.parse (s ++ 10 :: t) = .ok (.mk 30 0 [] (n.kids ++ m.kids))) := by
 unfold Pars.parse at h1 h2 ⊢
 cases e1 : Lexy.toks s with
 | err e => rw [e1] at h1; cases h1
 | ok a =>
  cases e2 : Lexy.toks t with
  | err e => rw [e2] at h2; cases h2
  | ok b =>
   rw [e1] at h1
   rw [e2] at h2
   simp only at h1 h2
   cases t1 : Pars.tree (a.map (·.toTk)) with
   | none => rw [t1] at h1; cases h1
   | some n' =>
    cases t2 : Pars.tree (b.map (·.toTk)) with
    | none => rw [t2] at h2; cases h2
    | some m' =>
     rw [t1] at h1
     rw [t2] at h2
     simp only at h1 h2
     split at h1
     ·cases h1
     ·split at h2
      ·cases h2
      ·injection h1 with h1
       injection h2 with h2
       subst h1 h2
       obtain ⟨q1, q2, q3⟩ := Pars.tree_append t1 t2
       refine ⟨q2, q3, ?_⟩
       unfold Lexy.toks at e1 e2
       split at e1
       ·cases e1
       ·split at e2
        ·cases e2
        ·have l1 := (Lexy.lex_of _ _ _ _ e1).1
         have l2 := (Lexy.lex_of _ _ _ _ e2).1
         rcases Lexy.toks_two l1 l2 with e | e
         ·rw [e]; exact .inl rfl
         ·rw [e]
          simp only
          have e3 : (a ++ b.map (Lexy.shift (s.length + 1))).map (·.toTk) = a.map (·.toTk) ++ b.map (·.toTk) := by
           rw [List.map_append, List.map_map]
           rfl
          rw [e3, q1]
          simp only
          split
          ·exact .inl rfl
          ·exact .inr rfl
set_option maxRecDepth 100000 in
theorem run_append_kids {w : World} {oa : Nat} {acc l : List Pars.Node} {v : Value} {S : Nat → Prop} {k n : Int} {t : List UInt8} {A : Option Addr} {c : Nat} (h : KO w 0 oa acc v) (hn : NodeAt w S (.mk k n t l) (nc k n t (.slice A l.length c))) (hS : ∀ g, S g → g ≠ oa ∧ v.ownBlock ≠ some g) (hoa : oa < w.heap.size) (hlen : acc.length + l.length ≤ 100000) (ty : TypeId) :
  ∃ v' w', (Builtin.append_ #[22, 22] ty #[v, .slice A l.length c]).run Tryz.prog w = .ok v' w' ∧ KO w' 0 oa (acc ++ l) v' ∧ w.grownBy w' v.ownBlock ∧ (v'.ownBlock = v.ownBlock ∨ v'.ownBlock = some w.heap.size) := by
 obtain ⟨i0, hi0, hi1, hi2, hi3⟩ := info_parts parts_nod
 obtain ⟨cs0, hown, hk0⟩ := h.row
 unfold NodeAt at hn
 obtain ⟨A', cap, css, e, hc1, hc2, hrow, hk⟩ := hn
 have e2 : (.slice A l.length c : Value) = .slice A' l.length cap := by
  have := congrArg (fun (x : Array Value) => x[3]?) e
  simpa [nc] using this
 injection e2 with e3 _ e4
 subst e3 e4
 have hfin : ∀ v' w', w'.ownsRow 0 24 4 v' (acc.length + l.length) (flatA cs0 ++ flatA css) → w.grownBy w' v.ownBlock → (v'.ownBlock = v.ownBlock ∨ v'.ownBlock = some w.heap.size) → KO w' 0 oa (acc ++ l) v' := by
  intro v' w' h1 hg hor
  refine ⟨?_, cs0 ++ css, by rw [flatA_append, List.length_append]; exact h1, NodesAt.app (NodesAt.keep ?_ hg.size ?_ hk) (NodesAt.keep ?_ hg.size ?_ hk0)⟩
  ·rcases hor with e | e
   ·rw [e]; exact h.ne
   ·rw [e]; intro e5; injection e5 with e5; omega
  ·intro g hs hl
   refine ⟨Nat.zero_le _, (hS g hs).1, ?_⟩
   rcases hor with e | e
   ·rw [e]; exact (hS g hs).2
   ·rw [e]; intro e5; injection e5 with e5; omega
  ·intro g hs hl; exact hg.block g hl (fun e => (hS g hs).2 e.symm)
  ·intro g hs hl
   refine ⟨Nat.zero_le _, hs.2.1, ?_⟩
   rcases hor with e | e
   ·rw [e]; exact hs.2.2
   ·rw [e]; intro e5; injection e5 with e5; omega
  ·intro g hs hl; exact hg.block g hl (fun e => hs.2.2 e.symm)
 have hfl := NodesAt.flat_len hk
 rcases A with _ | ad
 ·have hl0 : l.length = 0 := by
   rcases Nat.eq_zero_or_pos l.length with h0 | h0
   ·exact h0
   ·obtain ⟨g, o, e5, _⟩ := hrow h0; cases e5
  obtain rfl : l = [] := List.eq_nil_of_length_eq_zero hl0
  have hcss : flatA css = [] := List.eq_nil_of_length_eq_zero (by simpa using hfl)
  refine ⟨v, w, ?_, hfin v w (by rw [hcss, List.append_nil]; simpa using hown) (World.grownBy.refl w _) (.inl rfl), World.grownBy.refl w _, .inl rfl⟩
  rcases hown.2 with ⟨rfl, h0⟩ | ⟨g, cap2, cur, rfl, _, _, hnc, _⟩
  ·simp [Builtin.append_, run_underlying Tryz.underlying22, sizeOf, typeInfo, hi0, Builtin.lenOf, Builtin.firstCells]
  ·simp [Builtin.append_, run_underlying Tryz.underlying22, sizeOf, typeInfo, hi0, Builtin.lenOf, Builtin.firstCells, hnc, storeCells]
 ·have hcells : ∀ j u, (flatA css)[j]? = some u → w.cell? (ad.add j) = some u := by
   intro j u hu
   have h0 : 0 < l.length := by
    rcases Nat.eq_zero_or_pos l.length with h0 | h0
    ·rw [h0] at hfl
     have : flatA css = [] := List.eq_nil_of_length_eq_zero (by simpa using hfl)
     rw [this] at hu
     simp at hu
    ·exact h0
   obtain ⟨g, o, e5, _, _, hr⟩ := hrow h0
   injection e5 with e5
   subst e5
   have hadd : (⟨g, o, none⟩ : Addr).add j = ⟨g, o + j, none⟩ := by unfold Addr.add; split <;> simp_all
   rw [hadd]
   exact hr j u hu
  obtain ⟨v', w', hrun, h2, h3, _, h5⟩ := run_append_own_at (P := Tryz.prog) w 0 22 ty 24 i0 _ 4 56 Tryz.underlying22 hi0 hi1 hi2 hi3 rfl (by decide) v acc.length _ hown ad l.length c _ hfl hcells (NodesAt.all_one hk) (by unfold maxLen; omega) (by omega) (Nat.zero_le _)
  exact ⟨v', w', hrun, hfin v' w' h2 h3 h5, h3, h5⟩
theorem step_append_kids {ops : Array Oper} {o : Oper} {a : Act} {w : World} {K : Act → World → Prop} {Q : Exit → Act → World → Prop} {E : Prop} (hgd : o.guard = none) (s x : Operand) (ho : o.op = .call { callee := .builtin .append, args := #[s, x], argTypes := #[22, 22] })
  {oa : Nat} {acc l : List Pars.Node} {v : Value} {S : Nat → Prop} {k n : Int} {t : List UInt8} {A : Option Addr} {c : Nat} (hs : a.eval s = v) (hx : a.eval x = .slice A l.length c) (h : KO w 0 oa acc v) (hn : NodeAt w S (.mk k n t l) (nc k n t (.slice A l.length c))) (hS : ∀ g, S g → g ≠ oa ∧ v.ownBlock ≠ some g) (hoa : oa < w.heap.size) (hlen : acc.length + l.length ≤ 100000)
  (hh : ∀ v' w', KO w' 0 oa (acc ++ l) v' → w.grownBy w' v.ownBlock → (v'.ownBlock = v.ownBlock ∨ v'.ownBlock = some w.heap.size) → K (a.put o.dst v') w') :
  if Region.wanted o (yielded ops a.tmps) = true then Oper.wp Tryz.prog o a w K Q else E := by
 have hw : Region.wanted o (yielded ops a.tmps) = true := by simp [Region.wanted, hgd]
 rw [if_pos hw]
 obtain ⟨v', w', hrun, h2, h3, h4⟩ := run_append_kids h hn hS hoa hlen o.type
 unfold Oper.wp execOp
 simp only [ho, resolve, invoke, builtin, Sem.run_bind, Sem.run_pure, Result.andThen_ok, List.map_toArray, List.map_cons, List.map_nil, hs, hx, hrun]
 exact hh v' w' h2 h3 h4
theorem parse_b (s : List UInt8) (w : World) (he : EnvW w) (hm : s.length ≤ 9223372036854775807) :
  Calls Tryz.prog 9 #[.string (byt s)] w fun e w' => ∃ n cs k, e = .returned (.tuple #[.agg cs, .int .i64 k]) ∧ NodeAt w' (fun g => w.heap.size ≤ g) n cs ∧ Below w.heap.size w w' ∧ PC s n k :=
 (parse_any s w he.sp (by have := he.big; omega) hm).mono (by
  rintro e w' (⟨n, cs, hp, rfl, hn, hb⟩ | ⟨k, hp, hk, rfl, hb⟩)
  ·exact ⟨n, cs, 0, rfl, hn, hb, .inl ⟨hp, rfl⟩⟩
  ·refine ⟨.mk 0 0 [] [], _, k, rfl, NodeAt.leaf _ _ 0 0 [], hb, .inr ⟨rfl, ?_⟩⟩
   rcases hk with rfl | rfl
   ·exact .inl ⟨rfl, hp⟩
   ·exact .inr ⟨rfl, hp⟩)
theorem pc_kids {s : List UInt8} {n : Pars.Node} {k : Int} (h : PC s n k) : n.kids.length ≤ 3001 := by
 have h1 := pc_wg h
 obtain ⟨k, nu, t, l⟩ := n
 have := Wri.wgs_len l
 simp only [Wri.wg] at h1
 show l.length ≤ 3001
 omega
set_option maxRecDepth 100000 in
set_option maxHeartbeats 4000000 in
theorem joins_true (s t : List UInt8) (w : World) (he : EnvW w) (hs : s.length ≤ 140737488355328) (ht : t.length ≤ 140737488355328) : Calls Tryz.prog 7 #[.string (byt s), .string (byt t)] w (TruthOut w) := by
 have hsz0 : (byt s).size ≤ 140737488355328 := by rw [byt_size]; exact hs
 have hsz1 : (byt t).size ≤ 140737488355328 := by rw [byt_size]; exact ht
 have g10 : (⟨#[10]⟩ : ByteArray).size = 1 := rfl
 have q0 : ¬ 9223372036854775807 < (byt s).size + 1 := by omega
 have q1 : ¬ 9223372036854775807 < (byt s).size + 1 + (byt t).size := by omega
 have HPT : Hid ((byt s ++ ⟨#[10]⟩ ++ byt t : ByteArray) = byt (s ++ 10 :: t)) := hid (by rw [show s ++ 10 :: t = s ++ [10] ++ t by simp, ← byt_append, ← byt_append]; rfl)
 have hl0 : s.length ≤ 9223372036854775807 := by omega
 have hl1 : t.length ≤ 9223372036854775807 := by omega
 have hl2 : (s ++ 10 :: t).length ≤ 9223372036854775807 := by rw [List.length_append, List.length_cons]; omega
 have HE := hid he
 have hbig := he.big
 have HU := hid (Below.refl w.heap.size w)
 clear he
 go_enter Tryz.func7, Tryz.ntmps7
 go_wp2_with fail
 refine (parse_b s _ (HE.out.below HU.out hbig) hl0).mono ?_
 rintro e w1 ⟨n0, cs0, k0, rfl, hn, hb, hpc⟩
 replace hn := NodeAt.keep (S1 := fun g => g ≠ w1.heap.size) (fun g _ hl => by omega) (Nat.le_refl _) (fun _ _ _ => rfl) hn
 have HB0 := hid hb.size
 replace HU := hid (HU.out.trans (hb.mono HU.out.size))
 have HN0 := hid hn
 have HPC0 := hid hpc
 have HINF0 : Hid ((Tryz.prog.info? 24).map (·.size) = some cs0.size) := hid (by rw [NodeAt.size hn]; exact info_nod)
 have H40 : Hid ((4 : Nat) = cs0.size) := hid (NodeAt.size hn).symm
 have HONE0 := hid (NodeAt.one hn)
 clear hn hb hpc
 go_upto_region 2 with (refine wpList_store_box rfl 24 (.tmp 5) (.tmp 14) rfl w1.heap.size cs0 rfl rfl 24 _ (Box.new w1 _ _) HINF0.out H40.out HONE0.out ?_; intro w2 hx hu hz; have HZ := hid hz; clear hz)
 have hb : Below w1.heap.size w1 w2 := (below1 w1 _).trans (hu.own (Nat.le_refl _) (by simp))
 have EB0 := hid hx
 replace HN0 := hid (HN0.out.below hb)
 replace HU := hid (HU.out.trans (hb.mono HU.out.size))
 clear hx hu hb
 go_wp2_with fail
 refine (parse_b t _ (HE.out.below HU.out hbig) hl1).mono ?_
 rintro e w3 ⟨n1, cs1, k1, rfl, hn, hb, hpc⟩
 replace hn := hn.weak (S1 := fun g => g ≠ w1.heap.size) (fun g hg => by have := EB0.out.lt; omega)
 replace HN0 := hid (HN0.out.below hb)
 replace EB0 := bl EB0 hb
 replace HU := hid (HU.out.trans (hb.mono HU.out.size))
 have HN1 := hid hn
 have HPC1 := hid hpc
 have HINF1 : Hid ((Tryz.prog.info? 24).map (·.size) = some cs1.size) := hid (by rw [NodeAt.size hn]; exact info_nod)
 have H41 : Hid ((4 : Nat) = cs1.size) := hid (NodeAt.size hn).symm
 have HONE1 := hid (NodeAt.one hn)
 clear hn hb hpc
 go_upto_region 3 with (refine wpList_store_box rfl 24 (.tmp 7) (.tmp 19) rfl w3.heap.size cs1 rfl rfl 24 _ (Box.new w3 _ _) HINF1.out H41.out HONE1.out ?_; intro w4 hx hu hz; have HZ := hid hz; clear hz)
 have hb : Below w3.heap.size w3 w4 := (below1 w3 _).trans (hu.own (Nat.le_refl _) (by simp))
 have EB1 := hid hx
 replace HN0 := hid (HN0.out.below hb)
 replace HN1 := hid (HN1.out.below hb)
 replace EB0 := bl EB0 hb
 replace HU := hid (HU.out.trans (hb.mono HU.out.size))
 clear hx hu hb
 go_wp2_with fail
 rw [HPT.out]
 refine (parse_b (s ++ 10 :: t) _ (HE.out.below HU.out hbig) hl2).mono ?_
 rintro e w5 ⟨n2, cs2, k2, rfl, hn, hb, hpc⟩
 replace hn := hn.weak (S1 := fun g => g ≠ w1.heap.size) (fun g hg => by have := EB0.out.lt; omega)
 have HNE : Hid (w5.heap.size ≠ w1.heap.size) := hid (by have := EB0.out.lt; have := hb.size; omega)
 replace HN0 := hid (HN0.out.below hb)
 replace HN1 := hid (HN1.out.below hb)
 replace EB0 := bl EB0 hb
 replace EB1 := bl EB1 hb
 replace HU := hid (HU.out.trans (hb.mono HU.out.size))
 have HN2 := hid hn
 have HPC2 := hid hpc
 have HINF2 : Hid ((Tryz.prog.info? 24).map (·.size) = some cs2.size) := hid (by rw [NodeAt.size hn]; exact info_nod)
 have H42 : Hid ((4 : Nat) = cs2.size) := hid (NodeAt.size hn).symm
 have HONE2 := hid (NodeAt.one hn)
 clear hn hb hpc
 go_upto_region 4 with (refine wpList_store_box rfl 24 (.tmp 9) (.tmp 27) rfl w5.heap.size cs2 rfl rfl 24 _ (Box.new w5 _ _) HINF2.out H42.out HONE2.out ?_; intro w6 hx hu hz; have HZ := hid hz; clear hz)
 have hb : Below w5.heap.size w5 w6 := (below1 w5 _).trans (hu.own (Nat.le_refl _) (by simp))
 have EB2 := hid hx
 replace HN0 := hid (HN0.out.below hb)
 replace HN1 := hid (HN1.out.below hb)
 replace HN2 := hid (HN2.out.below hb)
 replace EB0 := bl EB0 hb
 replace EB1 := bl EB1 hb
 replace HU := hid (HU.out.trans (hb.mono HU.out.size))
 clear hx hu hb
 clear hsz0 hsz1 g10 q0 q1 hl0 hl1 hl2
 go_wp2_with fail
 refine (lives_true _ (HE.out.below HU.out hbig)).mono ?_
 rintro e w7 ⟨rfl, hb⟩
 replace HN0 := hid (HN0.out.below hb)
 replace HN1 := hid (HN1.out.below hb)
 replace HN2 := hid (HN2.out.below hb)
 replace EB0 := bl EB0 hb
 replace EB1 := bl EB1 hb
 replace EB2 := bl EB2 hb
 replace HU := hid (HU.out.trans (hb.mono HU.out.size))
 clear hb
 go_wp2_with fail
 refine (ok2_any k0 k1 w7).mono ?_
 rintro e w8 ⟨rfl, hb⟩
 replace HN0 := hid (HN0.out.below hb)
 replace HN1 := hid (HN1.out.below hb)
 replace HN2 := hid (HN2.out.below hb)
 replace EB0 := bl EB0 hb
 replace EB1 := bl EB1 hb
 replace EB2 := bl EB2 hb
 replace HU := hid (HU.out.trans (hb.mono HU.out.size))
 clear hb
 obtain ⟨okb, hok⟩ : ∃ b, (decide (k0 = 0) && decide (k1 = 0)) = b := ⟨_, rfl⟩
 rw [hok]
 have HOK := hid hok
 clear hok
 cases okb with
 | false =>
  go_wp2_with fail
  refine (lives_true _ (HE.out.below HU.out hbig)).mono ?_
  rintro e w9 ⟨rfl, hb⟩
  replace HN0 := hid (HN0.out.below hb)
  replace HN1 := hid (HN1.out.below hb)
  replace HN2 := hid (HN2.out.below hb)
  replace EB0 := bl EB0 hb
  replace EB1 := bl EB1 hb
  replace EB2 := bl EB2 hb
  replace HU := hid (HU.out.trans (hb.mono HU.out.size))
  clear hb
  go_wp2
  go_ret
  exact ⟨rfl, HU.out⟩
 | true =>
  obtain ⟨rfl, rfl⟩ : k0 = 0 ∧ k1 = 0 := by have := HOK.out; simpa using this
  have hp0 : Pars.parse s = .ok n0 := by
   rcases HPC0.out with ⟨h, _⟩ | ⟨_, ⟨h, _⟩ | ⟨h, _⟩⟩
   ·exact h
   ·cases h
   ·cases h
  have hp1 : Pars.parse t = .ok n1 := by
   rcases HPC1.out with ⟨h, _⟩ | ⟨_, ⟨h, _⟩ | ⟨h, _⟩⟩
   ·exact h
   ·cases h
   ·cases h
  have hj := Pars.joins hp0 hp1
  have hk2 : k2 = 2 ∨ k2 = 0 ∧ n2 = .mk 30 0 [] (n0.kids ++ n1.kids) := by
   rcases HPC2.out with ⟨h, rfl⟩ | ⟨_, ⟨rfl, _⟩ | ⟨_, h⟩⟩
   ·rcases hj.2.2 with e | e
    ·rw [h] at e; cases e
    ·rw [h] at e; injection e with e; exact .inr ⟨rfl, e⟩
   ·exact .inl rfl
   ·rcases hj.2.2 with e | e
    ·rw [h] at e; cases e
    ·rw [h] at e; cases e
  rcases hk2 with rfl | ⟨rfl, hn2⟩
  ·clear hj hp0 hp1
   go_wp2_with fail
   refine (lives_true _ (HE.out.below HU.out hbig)).mono ?_
   rintro e w9 ⟨rfl, hb⟩
   replace HN0 := hid (HN0.out.below hb)
   replace HN1 := hid (HN1.out.below hb)
   replace HN2 := hid (HN2.out.below hb)
   replace EB0 := bl EB0 hb
   replace EB1 := bl EB1 hb
   replace EB2 := bl EB2 hb
   replace HU := hid (HU.out.trans (hb.mono HU.out.size))
   clear hb
   go_wp2
   go_ret
   exact ⟨rfl, HU.out⟩
  ·obtain ⟨K0, hK0⟩ : ∃ q, n0.kids = q := ⟨_, rfl⟩
   obtain ⟨K1, hK1⟩ : ∃ q, n1.kids = q := ⟨_, rfl⟩
   have hkl0 := pc_kids HPC0.out
   have hkl1 := pc_kids HPC1.out
   have HSZ := hid (pc_size HPC2.out)
   rw [hK0, hK1] at hn2
   rw [hK0] at hj hkl0
   rw [hK1] at hj hkl1
   obtain ⟨e0, e1, _⟩ := hj
   clear hK0 hK1 hp0 hp1 HPC0 HPC1 HPC2
   rw [e0] at HN0
   rw [e1] at HN1
   rw [hn2] at HN2 HSZ
   clear e0 e1 hn2
   obtain ⟨A0, c0, rfl⟩ := HN0.out.slice
   obtain ⟨A1, c1, rfl⟩ := HN1.out.slice
   go_upto_region 6 with fail
   refine wp_region_until 7 (fun w' => Box w' w1.heap.size 24 (nc 30 0 [] (.slice A0 K0.length c0)) ∧ Box w' w3.heap.size 24 (nc 30 0 [] (.slice A1 K1.length c1))) (by kernel_rfl) ⟨EB0.out.drew, EB1.out.drew⟩ (fun hHeld => ?_)
   obtain ⟨wd, hwd⟩ : ∃ wd, w8.drew = wd := ⟨_, rfl⟩
   have hb : Below w8.heap.size w8 wd := hwd ▸ (Below.refl _ w8).drew
   (try rw [hwd] at hHeld)
   (try rw [hwd])
   clear hwd hHeld
   replace HN0 := hid (HN0.out.below hb)
   replace HN1 := hid (HN1.out.below hb)
   replace HN2 := hid (HN2.out.below hb)
   replace EB0 := bl EB0 hb
   replace EB1 := bl EB1 hb
   replace EB2 := bl EB2 hb
   replace HU := hid (HU.out.trans (hb.mono HU.out.size))
   clear hb
   refine tU (i := 1) (v := ?_) rfl ?_ (.inr ⟨EB0.out, EB1.out⟩) ?_
   rotate_left
   ·intro w hSw
    go_simp
    try (with_reducible rfl)
   (try simp only [Act.put, sq])
   refine tV (i := 2) (v := (Value.slice A0 K0.length c0)) rfl ?_ ⟨EB0.out, EB1.out⟩ ?_
   ·intro w hSw
    have c3 := hSw.1.cell 3
    simp [nc] at c3
    go_simp
   (try simp only [Act.put, sq])
   refine tU (i := 4) (v := ?_) rfl ?_ (.inr ⟨EB0.out, EB1.out⟩) ?_
   rotate_left
   ·intro w hSw
    go_simp
    try (with_reducible rfl)
   (try simp only [Act.put, sq])
   refine tV (i := 5) (v := (Value.slice A1 K1.length c1)) rfl ?_ ⟨EB0.out, EB1.out⟩ ?_
   ·intro w hSw
    have c3 := hSw.2.cell 3
    simp [nc] at c3
    go_simp
   (try simp only [Act.put, sq])
   have hb0 := EB0.out.lt
   have hb1 := EB1.out.lt
   replace HN0 : Hid (NodeAt wd (fun g => g ≠ w1.heap.size ∧ g < wd.heap.size) (.mk 30 0 [] K0) (nc 30 0 [] (.slice A0 K0.length c0))) := hid (NodeAt.keep (fun g h hl => ⟨h, hl⟩) (Nat.le_refl _) (fun _ _ _ => rfl) HN0.out)
   replace HN1 : Hid (NodeAt wd (fun g => g ≠ w1.heap.size ∧ g < wd.heap.size) (.mk 30 0 [] K1) (nc 30 0 [] (.slice A1 K1.length c1))) := hid (NodeAt.keep (fun g h hl => ⟨h, hl⟩) (Nat.le_refl _) (fun _ _ _ => rfl) HN1.out)
   refine rdU 0 rfl fun K hK => ?_
   go_simp
   have bxB := Box.new wd 24 #[]
   have hb : Below wd.heap.size wd (wd.alloc (.cells #[] 24)) := below1 wd _
   obtain ⟨we, hwe⟩ : ∃ we, (wd.alloc (.cells #[] 24)) = we := ⟨_, rfl⟩
   rw [hwe] at bxB hb
   rw [hwe]
   clear hwe
   have HB := hid hb
   have hsz1 := hb.size
   have KO0 := hid (KO.empty (oa := w1.heap.size) bxB (by omega))
   clear bxB hb
   refine hK.out _ _ (.inr ⟨EB0.out.below HB.out EB0.out.lt, EB1.out.below HB.out EB1.out.lt⟩) (fun hHeld => ?_)
   clear hK hHeld K
   (try simp only [Act.put, sq])
   refine rdU 3 rfl fun K hK => ?_
   refine step_append_kids (w := we) rfl (.tmp 43) (.tmp 45) rfl (by simp [Act.eval, Act.put]; try rfl) (by simp [Act.eval, Act.put]; try rfl) KO0.out (HN0.out.below HB.out) (fun g hg => ⟨hg.1, by simp only [Value.ownBlock]; intro e; injection e with e; omega⟩) (by omega) (by simp only [List.length_nil]; omega) ?_
   intro va wf hko hgr hor
   rw [List.nil_append] at hko
   have hb := below_grown hgr hsz1 (fun q e => by simp only [Value.ownBlock] at e; injection e with e; omega)
   have KO1 := hid hko
   have hv0 : ∀ q, va.ownBlock = some q → wd.heap.size ≤ q := by
    intro q e
    rcases hor with h | h
    ·exact (fun q e => by simp only [Value.ownBlock] at e; injection e with e; omega) q (h ▸ e)
    ·rw [h] at e; injection e with e; omega
   replace HB := hid (HB.out.trans hb)
   replace hsz1 := HB.out.size
   clear hko hgr hor hb
   refine hK.out _ _ (.inr ⟨EB0.out.below HB.out EB0.out.lt, EB1.out.below HB.out EB1.out.lt⟩) (fun hHeld => ?_)
   clear hK hHeld K
   (try simp only [Act.put, sq])
   refine rdU 6 rfl fun K hK => ?_
   refine step_append_kids (w := wf) rfl (.tmp 46) (.tmp 48) rfl (by simp [Act.eval, Act.put]; try rfl) (by simp [Act.eval, Act.put]; try rfl) KO1.out (HN1.out.below HB.out) (fun g hg => ⟨hg.1, fun e => by have := hv0 _ e; omega⟩) (by omega) (by omega) ?_
   intro vb wg hko hgr hor
   have hb := below_grown hgr hsz1 hv0
   have KO2 := hid hko
   have hv1 : ∀ q, vb.ownBlock = some q → wd.heap.size ≤ q := by
    intro q e
    rcases hor with h | h
    ·exact hv0 q (h ▸ e)
    ·rw [h] at e; injection e with e; omega
   replace HB := hid (HB.out.trans hb)
   replace hsz1 := HB.out.size
   clear hko hgr hor hb
   refine hK.out _ _ (.inr ⟨EB0.out.below HB.out EB0.out.lt, EB1.out.below HB.out EB1.out.lt⟩) (fun hHeld => ?_)
   clear hK hHeld K
   (try simp only [Act.put, sq])
   obtain ⟨AV, cv, hvb⟩ := kv_slice KO2.out
   obtain ⟨nk, hnk⟩ : ∃ q, (K0 ++ K1).length = q := ⟨_, rfl⟩
   rw [hnk] at hvb
   clear hnk
   subst hvb
   refine rdU 7 rfl fun K hK => ?_
   go_simp
   have OB := EB0.out.below HB.out EB0.out.lt
   refine hK.out _ _ (.inl rfl) (fun hHeld => ?_)
   clear hK hHeld K
   (try simp only [Act.put, sq])
   refine rdU 8 rfl fun K hK => ?_
   have c3 := OB.cell 3
   have f3 : wg.frozen? ⟨w1.heap.size, 3, none⟩ = false := OB.frozen 3
   simp [nc] at c3
   go_simp
   have hu9 : Upd wg (wg.setCell ⟨w1.heap.size, 3, none⟩ (Value.slice AV nk cv)) w1.heap.size := (Upd.refl _ _).set (.inl rfl) _
   have OB9 := OB.set 3 (Value.slice AV nk cv)
   obtain ⟨wz, hwz⟩ : ∃ wz, (wg.setCell ⟨w1.heap.size, 3, none⟩ (Value.slice AV nk cv)) = wz := ⟨_, rfl⟩
   rw [hwz] at hu9 OB9
   rw [hwz]
   clear hwz
   replace OB9 : Box wz w1.heap.size 24 (nc 30 0 [] (Value.slice AV nk cv)) := by simpa [nc] using OB9
   have HKO := hid (KO2.out.self hu9)
   have HN9 := hid (HKO.out.node 30 0 [])
   have EB9 := hid OB9
   replace EB2 := hid (Box.grown (EB2.out.below HB.out EB2.out.lt) hu9 (by intro e; injection e with e; have := HNE.out; omega))
   replace HN2 := hid ((HN2.out.below HB.out).upd hu9 (fun g hg => hg))
   replace HU := hid ((HU.out.trans (HB.out.mono HU.out.size)).trans (hu9.own HB0.out (Nat.le_trans HU.out.size hsz1)))
   refine hK.out _ _ (.inl rfl) (fun hHeld => ?_)
   clear hK hHeld K
   (try simp only [Act.put, sq])
   refine wpAnyU_done (by kernel_rfl) ?_ _
   obtain ⟨cs9, hcs9⟩ : ∃ c, nc 30 0 [] (Value.slice AV nk cv) = c := ⟨_, rfl⟩
   rw [hcs9] at HN9 EB9
   have HINF9 : Hid ((Tryz.prog.info? 24).map (·.size) = some cs9.size) := hid (by rw [← hcs9]; exact info_nod)
   clear hcs9
   have eb9 := EB9.out
   have eb2 := EB2.out
   go_wp2_with (first | (refine wpList_load_row_g (by kernel_rfl) 24 (.tmp 5) rfl w1.heap.size rfl _ cs9 _ eb9 Tryz.underlying24 rfl HINF9.out ?_) | (refine wpList_load_row_g (by kernel_rfl) 24 (.tmp 9) rfl w5.heap.size rfl _ cs2 _ eb2 Tryz.underlying24 rfl HINF2.out ?_))
   refine (same_any HSZ.out HN9.out HN2.out).mono ?_
   rintro e w9 ⟨rfl, hb⟩
   clear eb9 eb2
   replace HN2 := hid (HN2.out.below hb)
   replace HN9 := hid (HN9.out.below hb)
   replace EB2 := bl EB2 hb
   replace EB9 := bl EB9 hb
   replace HU := hid (HU.out.trans (hb.mono HU.out.size))
   clear hb
   rw [Pars.same_refl]
   go_wp2
   go_ret
   exact ⟨rfl, HU.out⟩
end Go.Proofs.YtonjdlialejedaaGreatDoor
