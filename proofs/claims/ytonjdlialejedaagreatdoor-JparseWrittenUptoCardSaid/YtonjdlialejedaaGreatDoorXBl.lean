/-
  Texts that the law leans on: PlC. Conditions: as each says.
-/
import Derived.Test.YtonjdlialejedaaGreatDoorXBk
import Derived.Test.YtonjdlialejedaaGreatDoorXAa
set_option linter.unusedSimpArgs false
set_option linter.unusedVariables false
namespace Wri
open Pars (Node Bs)
theorem param_of {fn lp : Bool} : ∀ n : Node, n.kind = 10 → right n fn lp = true → ∃ p, n = .mk 10 0 p [] ∧ name p = true
 | .mk k nu t l, hk, h => by
  have hk2 : k = 10 := hk
  subst hk2
  rw [right_eq] at h
  simp only [Bool.and_eq_true] at h
  obtain ⟨_, hf, _, _, hc, _⟩ := h
  have hc2 : count [] l.length = true := by simpa [form, plain] using hc
  obtain rfl := len0 hc2
  simp [fields] at hf
  obtain ⟨rfl, h2⟩ := hf
  exact ⟨t, rfl, h2⟩
theorem params (fn : Bool) : ∀ l : List Node, (∀ x ∈ l, sort x 113 = true ∧ right x fn false = true) → ∃ ps : List Bs, l = ps.map (fun p => .mk 10 0 p []) ∧ ∀ p ∈ ps, name p = true
 | [], _ => ⟨[], rfl, fun p hp => by cases hp⟩
 | n :: l, h => by
  obtain ⟨ps, h1, h2⟩ := params fn l fun x hx => h x (by simp [hx])
  obtain ⟨p, h3, h4⟩ := param_of n ((sort_q n).1 (h n (by simp)).1) (h n (by simp)).2
  refine ⟨p :: ps, by rw [h1, h3]; rfl, fun q hq => ?_⟩
  rcases List.mem_cons.1 hq with rfl | hq
  ·exact h4
  ·exact h2 q hq
set_option maxHeartbeats 2000000 in
theorem rt_of : ∀ (n : Node) (fn lp : Bool), right n fn lp = true → Rt fn lp n := by
 refine ind fun k nu t l ih fn lp h => ?_
 rw [right_eq] at h
 simp only [Bool.and_eq_true] at h
 obtain ⟨h1, hf, h25, h26, hc, hr⟩ := h
 have hk1 := kinds (k := k) (m := l.length) h1
 have hk : k = 1 ∨ k = 2 ∨ k = 3 ∨ k = 4 ∨ k = 5 ∨ k = 6 ∨ k = 7 ∨ k = 8 ∨ k = 9 ∨ k = 10 ∨ k = 11 ∨ k = 12 ∨ k = 13 ∨ k = 14 ∨ k = 15 ∨ k = 16 ∨ k = 17 ∨ k = 18 ∨ k = 19 ∨ k = 20 ∨ k = 21 ∨ k = 22 ∨ k = 23 ∨ k = 24 ∨ k = 25 ∨ k = 26 ∨ k = 27 ∨ k = 28 ∨ k = 29 ∨ k = 30 ∨ k = 31 := by omega
 clear h1 hk1
 rcases hk with rfl | rfl | rfl | rfl | rfl | rfl | rfl | rfl | rfl | rfl | rfl | rfl | rfl | rfl | rfl | rfl | rfl | rfl | rfl | rfl | rfl | rfl | rfl | rfl | rfl | rfl | rfl | rfl | rfl | rfl | rfl
 ·-- 1
  have hc2 : count [] l.length = true := by simpa [form, plain] using hc
  obtain rfl := len0 hc2
  simp [fields] at hf
  obtain ⟨⟨h1, h2⟩, rfl⟩ := hf
  exact .num fn lp _ h1 h2
 ·-- 2
  have hc2 : count [] l.length = true := by simpa [form, plain] using hc
  obtain rfl := len0 hc2
  simp [fields] at hf
  subst hf
  exact .str fn lp t
 ·-- 3
  have hc2 : count [] l.length = true := by simpa [form, plain] using hc
  obtain rfl := len0 hc2
  simp [fields] at hf
  obtain ⟨h1, rfl⟩ := hf
  exact .bool fn lp _ h1
 ·-- 4
  have hc2 : count [] l.length = true := by simpa [form, plain] using hc
  obtain rfl := len0 hc2
  simp [fields] at hf
  obtain ⟨rfl, rfl⟩ := hf
  exact .null fn lp
 ·-- 5
  have hc2 : count [] l.length = true := by simpa [form, plain] using hc
  obtain rfl := len0 hc2
  simp [fields] at hf
  obtain ⟨rfl, h2⟩ := hf
  exact .var fn lp t h2
 ·-- 6
  simp [fields] at hf
  obtain ⟨rfl, rfl⟩ := hf
  have hr2 : rights [101] 6 fn lp 0 l = true := by simpa [form, plain, show bare [101, 42] = [101] from by decide] using hr
  rw [rights_all 101 (by decide) 6 (by decide)] at hr2
  exact .list fn lp l (fun x hx => (sort_e x).1 (hr2 x hx).1) fun x hx => ih x hx _ _ (hr2 x hx).2
 ·-- 7
  simp [fields] at hf
  obtain ⟨rfl, rfl⟩ := hf
  have hr2 : rights [112] 7 fn lp 0 l = true := by simpa [form, plain, show bare [112, 42] = [112] from by decide] using hr
  rw [rights_all 112 (by decide) 7 (by decide)] at hr2
  exact .recd fn lp l (fun x hx => (sort_p x).1 (hr2 x hx).1) fun x hx => ih x hx _ _ (hr2 x hx).2
 ·-- 8
  have hc2 : count [101] l.length = true := by simpa [form, plain] using hc
  obtain ⟨a, rfl⟩ := len1 (f := [101]) (by decide) (by decide) hc2
  simp [fields] at hf
  obtain ⟨rfl, h2⟩ := hf
  have hr2 : rights [101] 8 fn lp 0 [a] = true := by simpa [form, plain, show bare [101] = [101] from by decide] using hr
  simp [rights_cons, rights_nil, sort_e] at hr2
  obtain ⟨s1, r1⟩ := hr2
  have i1 := ih a (by simp) _ _ r1
  exact .pair fn lp t a h2 s1 i1
 ·-- 9
  simp [fields] at hf
  obtain ⟨rfl, h2⟩ := hf
  have hc2 : count (List.replicate (l.length - 1) 113 ++ [103]) l.length = true := by simpa [form, plain] using hc
  have hr2 : rights (bare (List.replicate (l.length - 1) 113 ++ [103])) 9 fn lp 0 l = true := by simpa [form, plain] using hr
  obtain ⟨hb9, hs9⟩ := bare9 (l.length - 1)
  rw [hb9] at hr2
  unfold count at hc2
  rw [hs9, hb9] at hc2
  simp at hc2
  have hl : l = l.take (l.length - 1) ++ [l.getD (l.length - 1) default] := by
   rw [List.getD_eq_getElem?_getD, List.getElem?_eq_getElem (by omega), Option.getD_some]
   have e := List.take_append_drop (l.length - 1) l
   rw [List.drop_eq_getElem_cons (by omega), List.drop_of_length_le (by omega)] at e
   exact e.symm
  rw [hl] at hr2 ih ⊢
  rw [show (l.take (l.length - 1) ++ [l.getD (l.length - 1) default]).length - 1 = l.length - 1 from by rw [← hl]] at hr2
  rw [rights_fn (l.length - 1) fn lp _ _ 0 (by simp)] at hr2
  obtain ⟨h3, h4, h5⟩ := hr2
  obtain ⟨ps, hps, hpn⟩ := params fn (l.take (l.length - 1)) h3
  rw [hps]
  exact .func fn lp t ps _ h2 hpn ((sort_g _).1 h4) (ih _ (by simp) _ _ h5)
 ·-- 10
  have hc2 : count [] l.length = true := by simpa [form, plain] using hc
  obtain rfl := len0 hc2
  simp [fields] at hf
  obtain ⟨rfl, h2⟩ := hf
  exact .param fn lp t h2
 ·-- 11
  simp [fields] at hf
  obtain ⟨rfl, rfl⟩ := hf
  have hc2 : count [101, 101, 42] l.length = true := by simpa [form, plain] using hc
  unfold count at hc2
  rw [show (bare [101, 101, 42]).length = 2 from by decide] at hc2
  simp at hc2
  obtain ⟨a, q, rfl⟩ : ∃ a q, l = a :: q := by
   cases l with
   | nil => simp at hc2
   | cons a q => exact ⟨a, q, rfl⟩
  have hr2 : rights [101, 101] 11 fn lp 0 (a :: q) = true := by simpa [form, plain, show bare [101, 101, 42] = [101, 101] from by decide] using hr
  rw [rights_cons, Bool.and_eq_true, Bool.and_eq_true, rights_tail 101 101 (by decide) 11 (by decide) fn lp q 1 (by omega)] at hr2
  simp at hr2
  obtain ⟨s1, r1, h3⟩ := hr2
  exact .call fn lp a q ((sort_e a).1 s1) (ih a (by simp) _ _ r1) (fun x hx => (sort_e x).1 (h3 x hx).1) fun x hx => ih x (by simp [hx]) _ _ (h3 x hx).2
 ·-- 12
  have hc2 : count [101, 101] l.length = true := by simpa [form, plain] using hc
  obtain ⟨a, b, rfl⟩ := len2 (f := [101, 101]) (by decide) (by decide) hc2
  simp [fields] at hf
  obtain ⟨rfl, rfl⟩ := hf
  have hr2 : rights [101, 101] 12 fn lp 0 [a, b] = true := by simpa [form, plain, show bare [101, 101] = [101, 101] from by decide] using hr
  simp [rights_cons, rights_nil, sort_e] at hr2
  obtain ⟨s1, r1, s2, r2⟩ := hr2
  have i1 := ih a (by simp) _ _ r1
  have i2 := ih b (by simp) _ _ r2
  exact .index fn lp a b s1 i1 s2 i2
 ·-- 13
  have hc2 : count [101] l.length = true := by simpa [form, plain] using hc
  obtain ⟨a, rfl⟩ := len1 (f := [101]) (by decide) (by decide) hc2
  simp [fields] at hf
  obtain ⟨rfl, h2⟩ := hf
  have hr2 : rights [101] 13 fn lp 0 [a] = true := by simpa [form, plain, show bare [101] = [101] from by decide] using hr
  simp [rights_cons, rights_nil, sort_e] at hr2
  obtain ⟨s1, r1⟩ := hr2
  have i1 := ih a (by simp) _ _ r1
  exact .dot fn lp t a h2 s1 i1
 ·-- 14
  have hc2 : count [101] l.length = true := by simpa [form, plain] using hc
  obtain ⟨a, rfl⟩ := len1 (f := [101]) (by decide) (by decide) hc2
  simp [fields] at hf
  obtain ⟨rfl, h2⟩ := hf
  have hr2 : rights [101] 14 fn lp 0 [a] = true := by simpa [form, plain, show bare [101] = [101] from by decide] using hr
  simp [rights_cons, rights_nil, sort_e] at hr2
  obtain ⟨s1, r1⟩ := hr2
  have i1 := ih a (by simp) _ _ r1
  exact .unary fn lp t a (one_unary.1 h2) s1 i1
 ·-- 15
  have hc2 : count [101, 101] l.length = true := by simpa [form, plain] using hc
  obtain ⟨a, b, rfl⟩ := len2 (f := [101, 101]) (by decide) (by decide) hc2
  simp [fields] at hf
  obtain ⟨rfl, h2⟩ := hf
  have hr2 : rights [101, 101] 15 fn lp 0 [a, b] = true := by simpa [form, plain, show bare [101, 101] = [101, 101] from by decide] using hr
  simp [rights_cons, rights_nil, sort_e] at hr2
  obtain ⟨s1, r1, s2, r2⟩ := hr2
  have i1 := ih a (by simp) _ _ r1
  have i2 := ih b (by simp) _ _ r2
  exact .binary fn lp t a b (one_binary.1 h2) s1 i1 s2 i2
 ·-- 16
  have hc2 : count [101, 101] l.length = true := by simpa [form, plain] using hc
  obtain ⟨a, b, rfl⟩ := len2 (f := [101, 101]) (by decide) (by decide) hc2
  simp [fields] at hf
  obtain ⟨rfl, rfl⟩ := hf
  have hr2 : rights [101, 101] 16 fn lp 0 [a, b] = true := by simpa [form, plain, show bare [101, 101] = [101, 101] from by decide] using hr
  simp [rights_cons, rights_nil, sort_e] at hr2
  obtain ⟨s1, r1, s2, r2⟩ := hr2
  have i1 := ih a (by simp) _ _ r1
  have i2 := ih b (by simp) _ _ r2
  exact .and_ fn lp a b s1 i1 s2 i2
 ·-- 17
  have hc2 : count [101, 101] l.length = true := by simpa [form, plain] using hc
  obtain ⟨a, b, rfl⟩ := len2 (f := [101, 101]) (by decide) (by decide) hc2
  simp [fields] at hf
  obtain ⟨rfl, rfl⟩ := hf
  have hr2 : rights [101, 101] 17 fn lp 0 [a, b] = true := by simpa [form, plain, show bare [101, 101] = [101, 101] from by decide] using hr
  simp [rights_cons, rights_nil, sort_e] at hr2
  obtain ⟨s1, r1, s2, r2⟩ := hr2
  have i1 := ih a (by simp) _ _ r1
  have i2 := ih b (by simp) _ _ r2
  exact .or_ fn lp a b s1 i1 s2 i2
 ·-- 18
  have hc2 : count [101, 101, 101] l.length = true := by simpa [form, plain] using hc
  obtain ⟨a, b, c, rfl⟩ := len3 (f := [101, 101, 101]) (by decide) (by decide) hc2
  simp [fields] at hf
  obtain ⟨rfl, rfl⟩ := hf
  have hr2 : rights [101, 101, 101] 18 fn lp 0 [a, b, c] = true := by simpa [form, plain, show bare [101, 101, 101] = [101, 101, 101] from by decide] using hr
  simp [rights_cons, rights_nil, sort_e] at hr2
  obtain ⟨s1, r1, s2, r2, s3, r3⟩ := hr2
  exact .cond fn lp a b c s1 (ih a (by simp) _ _ r1) s2 (ih b (by simp) _ _ r2) s3 (ih c (by simp) _ _ r3)
 ·-- 19
  have hc2 : count [116, 101] l.length = true := by simpa [form, plain] using hc
  obtain ⟨a, b, rfl⟩ := len2 (f := [116, 101]) (by decide) (by decide) hc2
  simp [fields] at hf
  obtain ⟨rfl, rfl⟩ := hf
  have hr2 : rights [116, 101] 19 fn lp 0 [a, b] = true := by simpa [form, plain, show bare [116, 101] = [116, 101] from by decide] using hr
  simp [rights_cons, rights_nil, sort_e, sort_t] at hr2
  obtain ⟨s1, r1, s2, r2⟩ := hr2
  have i1 := ih a (by simp) _ _ r1
  have i2 := ih b (by simp) _ _ r2
  exact .assign fn lp a b s1 i1 s2 i2
 ·-- 20
  have hc2 : count [101] l.length = true := by simpa [form, plain] using hc
  obtain ⟨a, rfl⟩ := len1 (f := [101]) (by decide) (by decide) hc2
  simp [fields] at hf
  obtain ⟨rfl, h2⟩ := hf
  have hr2 : rights [101] 20 fn lp 0 [a] = true := by simpa [form, plain, show bare [101] = [101] from by decide] using hr
  simp [rights_cons, rights_nil, sort_e] at hr2
  obtain ⟨s1, r1⟩ := hr2
  have i1 := ih a (by simp) _ _ r1
  exact .let_ fn lp t a h2 s1 i1
 ·-- 21
  have hc2 : count [100] l.length = true := by simpa [form, plain] using hc
  obtain ⟨a, rfl⟩ := len1 (f := [100]) (by decide) (by decide) hc2
  simp [fields] at hf
  obtain ⟨rfl, rfl⟩ := hf
  have hr2 : rights [100] 21 fn lp 0 [a] = true := by simpa [form, plain, show bare [100] = [100] from by decide] using hr
  simp [rights_cons, rights_nil, sort_d] at hr2
  obtain ⟨s1, r1⟩ := hr2
  have i1 := ih a (by simp) _ _ r1
  exact .def_ fn lp a s1.1 s1.2 i1
 ·-- 22
  simp [fields] at hf
  obtain ⟨rfl, rfl⟩ := hf
  by_cases h3 : l.length = 3
  ·have hc2 : count [101, 98, 105] l.length = true := by simpa [form, plain, h3] using hc
   have hr2 : rights [101, 98, 105] 22 fn lp 0 l = true := by simpa [form, plain, h3, show bare [101, 98, 105] = [101, 98, 105] from by decide] using hr
   obtain ⟨a, b, c, rfl⟩ := len3 (f := [101, 98, 105]) (by decide) (by decide) hc2
   simp [rights_cons, rights_nil, sort_e, sort_b, sort_i] at hr2
   obtain ⟨s1, r1, s2, r2, s3, r3⟩ := hr2
   exact .if3 fn lp a b c s1 (ih a (by simp) _ _ r1) s2 (ih b (by simp) _ _ r2) s3 (ih c (by simp) _ _ r3)
  ·have hc2 : count [101, 98] l.length = true := by simpa [form, plain, h3] using hc
   have hr2 : rights [101, 98] 22 fn lp 0 l = true := by simpa [form, plain, h3, show bare [101, 98] = [101, 98] from by decide] using hr
   obtain ⟨a, b, rfl⟩ := len2 (f := [101, 98]) (by decide) (by decide) hc2
   simp [rights_cons, rights_nil, sort_e, sort_b] at hr2
   obtain ⟨s1, r1, s2, r2⟩ := hr2
   exact .if2 fn lp a b s1 (ih a (by simp) _ _ r1) s2 (ih b (by simp) _ _ r2)
 ·-- 23
  have hc2 : count [101, 108] l.length = true := by simpa [form, plain] using hc
  obtain ⟨a, b, rfl⟩ := len2 (f := [101, 108]) (by decide) (by decide) hc2
  simp [fields] at hf
  obtain ⟨rfl, rfl⟩ := hf
  have hr2 : rights [101, 108] 23 fn lp 0 [a, b] = true := by simpa [form, plain, show bare [101, 108] = [101, 108] from by decide] using hr
  simp [rights_cons, rights_nil, sort_e, sort_l] at hr2
  obtain ⟨s1, r1, s2, r2⟩ := hr2
  have i1 := ih a (by simp) _ _ r1
  have i2 := ih b (by simp) _ _ r2
  exact .while_ fn lp a b s1 i1 s2 i2
 ·-- 24
  have hc2 : count [101, 108] l.length = true := by simpa [form, plain] using hc
  obtain ⟨a, b, rfl⟩ := len2 (f := [101, 108]) (by decide) (by decide) hc2
  simp [fields] at hf
  obtain ⟨rfl, h2⟩ := hf
  have hr2 : rights [101, 108] 24 fn lp 0 [a, b] = true := by simpa [form, plain, show bare [101, 108] = [101, 108] from by decide] using hr
  simp [rights_cons, rights_nil, sort_e, sort_l] at hr2
  obtain ⟨s1, r1, s2, r2⟩ := hr2
  have i1 := ih a (by simp) _ _ r1
  have i2 := ih b (by simp) _ _ r2
  exact .for_ fn lp t a b h2 s1 i1 s2 i2
 ·-- 25
  simp [fields] at hf
  obtain ⟨rfl, rfl⟩ := hf
  have hfn : fn = true := by simpa using h25
  subst hfn
  by_cases h3 : l.length = 1
  ·have hr2 : rights [101] 25 true lp 0 l = true := by simpa [form, plain, h3, show bare [101] = [101] from by decide] using hr
   obtain ⟨a, rfl⟩ := List.length_eq_one_iff.1 h3
   simp [rights_cons, rights_nil, sort_e] at hr2
   obtain ⟨s1, r1⟩ := hr2
   exact .ret1 lp a s1 (ih a (by simp) _ _ r1)
  ·have hc2 : count [] l.length = true := by simpa [form, plain, h3] using hc
   obtain rfl := len0 hc2
   exact .ret0 lp
 ·-- 26
  have hc2 : count [] l.length = true := by simpa [form, plain] using hc
  obtain rfl := len0 hc2
  simp [fields] at hf
  obtain ⟨rfl, rfl⟩ := hf
  have hlp : lp = true := by simpa using h26
  subst hlp
  exact .brk fn
 ·-- 27
  have hc2 : count [] l.length = true := by simpa [form, plain] using hc
  obtain rfl := len0 hc2
  simp [fields] at hf
  obtain ⟨rfl, rfl⟩ := hf
  have hlp : lp = true := by simpa using h26
  subst hlp
  exact .cont fn
 ·-- 28
  have hc2 : count [101] l.length = true := by simpa [form, plain] using hc
  obtain ⟨a, rfl⟩ := len1 (f := [101]) (by decide) (by decide) hc2
  simp [fields] at hf
  obtain ⟨rfl, rfl⟩ := hf
  have hr2 : rights [101] 28 fn lp 0 [a] = true := by simpa [form, plain, show bare [101] = [101] from by decide] using hr
  simp [rights_cons, rights_nil, sort_e] at hr2
  obtain ⟨s1, r1⟩ := hr2
  have i1 := ih a (by simp) _ _ r1
  exact .throw fn lp a s1 i1
 ·-- 29
  simp [fields] at hf
  by_cases h3 : nu = 3
  ·subst h3
   have hc2 : count [98, 98, 98] l.length = true := by simpa [form, plain] using hc
   have hr2 : rights [98, 98, 98] 29 fn lp 0 l = true := by simpa [form, plain, show bare [98, 98, 98] = [98, 98, 98] from by decide] using hr
   obtain ⟨a, b, c, rfl⟩ := len3 (f := [98, 98, 98]) (by decide) (by decide) hc2
   simp [rights_cons, rights_nil, sort_b] at hr2
   obtain ⟨s1, r1, s2, r2, s3, r3⟩ := hr2
   exact .try3 fn lp t a b c (by simpa using hf) s1 (ih a (by simp) _ _ r1) s2 (ih b (by simp) _ _ r2) s3 (ih c (by simp) _ _ r3)
  ·have hc2 : count [98, 98] l.length = true := by simpa [form, plain, h3] using hc
   have hr2 : rights [98, 98] 29 fn lp 0 l = true := by simpa [form, plain, h3, show bare [98, 98] = [98, 98] from by decide] using hr
   obtain ⟨a, b, rfl⟩ := len2 (f := [98, 98]) (by decide) (by decide) hc2
   simp [rights_cons, rights_nil, sort_b] at hr2
   obtain ⟨s1, r1, s2, r2⟩ := hr2
   have i1 := ih a (by simp) _ _ r1
   have i2 := ih b (by simp) _ _ r2
   obtain ⟨⟨g1, g2⟩, g3⟩ := hf
   by_cases h2 : nu = 2
   ·subst h2
    obtain rfl : t = [] := by simpa using g3
    exact .try2 fn lp a b s1 i1 s2 i2
   ·obtain rfl : nu = 1 := by omega
    exact .try1 fn lp t a b (by simpa using g3) s1 i1 s2 i2
 ·-- 30
  simp [fields] at hf
  obtain ⟨rfl, rfl⟩ := hf
  have hr2 : rights [115] 30 fn lp 0 l = true := by simpa [form, plain, show bare [115, 42] = [115] from by decide] using hr
  rw [rights_all 115 (by decide) 30 (by decide)] at hr2
  exact .block fn lp l (fun x hx => (sort_s x).1 (hr2 x hx).1) fun x hx => ih x hx _ _ (hr2 x hx).2
 ·-- 31
  have hc2 : count [101] l.length = true := by simpa [form, plain] using hc
  obtain ⟨a, rfl⟩ := len1 (f := [101]) (by decide) (by decide) hc2
  simp [fields] at hf
  obtain ⟨rfl, rfl⟩ := hf
  have hr2 : rights [101] 31 fn lp 0 [a] = true := by simpa [form, plain, show bare [101] = [101] from by decide] using hr
  simp [rights_cons, rights_nil, sort_e] at hr2
  obtain ⟨s1, r1⟩ := hr2
  have i1 := ih a (by simp) _ _ r1
  exact .expr fn lp a s1 i1
end Wri
