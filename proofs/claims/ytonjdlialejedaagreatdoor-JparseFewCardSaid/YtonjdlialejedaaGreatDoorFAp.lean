/-
  Texts that the law leans on: PlC, PwZ, PwK. Conditions: as each says.
-/
import Derived.Test.YtonjdlialejedaaGreatDoorFAo
import Derived.Test.YtonjdlialejedaaGreatDoorFAn
import Derived.Test.YtonjdlialejedaaGreatDoorFAl
import Derived.Test.YtonjdlialejedaaGreatDoorFAa
set_option linter.unusedSimpArgs false
set_option linter.unusedVariables false
namespace Wri
open Pars (Node Bs)
theorem param_of {fn lp : Bool} : ∀ n : Node, n.kind = 10 → right n fn lp = true → ∃ p, n = .mk 10 0 p [] ∧ name p = true
 | .mk k nu t l, hk, h => by
  have hk2 : k = 10 := hk
  subst hk2
  rw [right_eq] at h
  simp only [Bool.and_eq_true] at h
  obtain ⟨_, hf, _, _, hc, _⟩ := h
  have hc2 : count [] l.length = true := by simpa [form, plain] using hc
  obtain rfl := len0 hc2
  simp [fields] at hf
  obtain ⟨rfl, h2⟩ := hf
  exact ⟨t, rfl, h2⟩
theorem params (fn : Bool) : ∀ l : List Node, (∀ x ∈ l, sort x 113 = true ∧ right x fn false = true) → ∃ ps : List Bs, l = ps.map (fun p => .mk 10 0 p []) ∧ ∀ p ∈ ps, name p = true
 | [], _ => ⟨[], rfl, fun p hp => by cases hp⟩
 | n :: l, h => by
  obtain ⟨ps, h1, h2⟩ := params fn l fun x hx => h x (by simp [hx])
  obtain ⟨p, h3, h4⟩ := param_of n ((sort_q n).1 (h n (by simp)).1) (h n (by simp)).2
  refine ⟨p :: ps, by rw [h1, h3]; rfl, fun q hq => ?_⟩
  rcases List.mem_cons.1 hq with rfl | hq
  ·exact h4
  ·exact h2 q hq
set_option maxHeartbeats 2000000 in
theorem rt_of : ∀ (n : Node) (fn lp : Bool), right n fn lp = true → Rt fn lp n := by
 refine ind fun k nu t l ih fn lp h => ?_
 rw [right_eq] at h
 simp only [Bool.and_eq_true] at h
 obtain ⟨h1, hf, h25, h26, hc, hr⟩ := h
 have hk1 := kinds (k := k) (m := l.length) h1
 have hk : k = 1 ∨ k = 2 ∨ k = 3 ∨ k = 4 ∨ k = 5 ∨ k = 6 ∨ k = 7 ∨ k = 8 ∨ k = 9 ∨ k = 10 ∨ k = 11 ∨ k = 12 ∨ k = 13 ∨ k = 14 ∨ k = 15 ∨ k = 16 ∨ k = 17 ∨ k = 18 ∨ k = 19 ∨ k = 20 ∨ k = 21 ∨ k = 22 ∨ k = 23 ∨ k = 24 ∨ k = 25 ∨ k = 26 ∨ k = 27 ∨ k = 28 ∨ k = 29 ∨ k = 30 ∨ k = 31 := by omega
 clear h1 hk1
 rcases hk with rfl | rfl | rfl | rfl | rfl | rfl | rfl | rfl | rfl | rfl | rfl | rfl | rfl | rfl | rfl | rfl | rfl | rfl | rfl | rfl | rfl | rfl | rfl | rfl | rfl | rfl | rfl | rfl | rfl | rfl | rfl
 ·-- 1
  have hc2 : count [] l.length = true := by simpa [form, plain] using hc
  obtain rfl := len0 hc2
  simp [fields] at hf
  obtain ⟨⟨h1, h2⟩, rfl⟩ := hf
  exact .num fn lp _ h1 h2
 ·-- 2
  have hc2 : count [] l.length = true := by simpa [form, plain] using hc
  obtain rfl := len0 hc2
  simp [fields] at hf
  subst hf
  exact .str fn lp t
 ·-- 3
  have hc2 : count [] l.length = true := by simpa [form, plain] using hc
  obtain rfl := len0 hc2
  simp [fields] at hf
  obtain ⟨h1, rfl⟩ := hf
  exact .bool fn lp _ h1
 ·-- 4
  have hc2 : count [] l.length = true := by simpa [form, plain] using hc
  obtain rfl := len0 hc2
  simp [fields] at hf
  obtain ⟨rfl, rfl⟩ := hf
  exact .null fn lp
 ·-- 5
  have hc2 : count [] l.length = true := by simpa [form, plain] using hc
  obtain rfl := len0 hc2
  simp [fields] at hf
  obtain ⟨rfl, h2⟩ := hf
  exact .var fn lp t h2
 ·-- 6
  simp [fields] at hf
  obtain ⟨rfl, rfl⟩ := hf
  have hr2 : rights [101] 6 fn lp 0 l = true := by simpa [form, plain, show bare [101, 42] = [101] from by decide] using hr
  rw [rights_all 101 (by decide) 6 (by decide)] at hr2
  exact .list fn lp l (fun x hx => (sort_e x).1 (hr2 x hx).1) fun x hx => ih x hx _ _ (hr2 x hx).2
 ·-- 7
  simp [fields] at hf
  obtain ⟨rfl, rfl⟩ := hf
  have hr2 : rights [112] 7 fn lp 0 l = true := by simpa [form, plain, show bare [112, 42] = [112] from by decide] using hr
  rw [rights_all 112 (by decide) 7 (by decide)] at hr2
  exact .recd fn lp l (fun x hx => (sort_p x).1 (hr2 x hx).1) fun x hx => ih x hx _ _ (hr2 x hx).2
 ·-- 8
  have hc2 : count [101] l.length = true := by simpa [form, plain] using hc
  obtain ⟨a, rfl⟩ := len1 (f := [101]) (by decide) (by decide) hc2
  simp [fields] at hf
  obtain ⟨rfl, h2⟩ := hf
  have hr2 : rights [101] 8 fn lp 0 [a] = true := by simpa [form, plain, show bare [101] = [101] from by decide] using hr
  simp [rights_cons, rights_nil, sort_e] at hr2
  obtain ⟨s1, r1⟩ := hr2
  have i1 := ih a (by simp) _ _ r1
  exact .pair fn lp t a h2 s1 i1
 ·-- 9
  simp [fields] at hf
  obtain ⟨rfl, h2⟩ := hf
  have hc2 : count (List.replicate (l.length - 1) 113 ++ [103]) l.length = true := by simpa [form, plain] using hc
  have hr2 : rights (bare (List.replicate (l.length - 1) 113 ++ [103])) 9 fn lp 0 l = true := by simpa [form, plain] using hr
  obtain ⟨hb9, hs9⟩ := bare9 (l.length - 1)
  rw [hb9] at hr2
  unfold count at hc2
  rw [hs9, hb9] at hc2
  simp at hc2
  have hl : l = l.take (l.length - 1) ++ [l.getD (l.length - 1) default] := by
   rw [List.getD_eq_getElem?_getD, List.getElem?_eq_getElem (by omega), Option.getD_some]
   have e := List.take_append_drop (l.length - 1) l
   rw [List.drop_eq_getElem_cons (by omega), List.drop_of_length_le (by omega)] at e
   exact e.symm
  rw [hl] at hr2 ih ⊢
  rw [show (l.take (l.length - 1) ++ [l.getD (l.length - 1) default]).length - 1 = l.length - 1 from by rw [← hl]] at hr2
  rw [rights_fn (l.length - 1) fn lp _ _ 0 (by simp)] at hr2
  obtain ⟨h3, h4, h5⟩ := hr2
  obtain ⟨ps, hps, hpn⟩ := params fn (l.take (l.length - 1)) h3
  rw [hps]
  exact .func fn lp t ps _ h2 hpn ((sort_g _).1 h4) (ih _ (by simp) _ _ h5)
 ·-- 10
  have hc2 : count [] l.length = true := by simpa [form, plain] using hc
  obtain rfl := len0 hc2
  simp [fields] at hf
  obtain ⟨rfl, h2⟩ := hf
  exact .param fn lp t h2
 ·-- 11
  simp [fields] at hf
  obtain ⟨rfl, rfl⟩ := hf
  have hc2 : count [101, 101, 42] l.length = true := by simpa [form, plain] using hc
  unfold count at hc2
  rw [show (bare [101, 101, 42]).length = 2 from by decide] at hc2
  simp at hc2
  obtain ⟨a, q, rfl⟩ : ∃ a q, l = a :: q := by
   cases l with
   | nil => simp at hc2
   | cons a q => exact ⟨a, q, rfl⟩
  have hr2 : rights [101, 101] 11 fn lp 0 (a :: q) = true := by simpa [form, plain, show bare [101, 101, 42] = [101, 101] from by decide] using hr
  rw [rights_cons, Bool.and_eq_true, Bool.and_eq_true, rights_tail 101 101 (by decide) 11 (by decide) fn lp q 1 (by omega)] at hr2
  simp at hr2
  obtain ⟨s1, r1, h3⟩ := hr2
  exact .call fn lp a q ((sort_e a).1 s1) (ih a (by simp) _ _ r1) (fun x hx => (sort_e x).1 (h3 x hx).1) fun x hx => ih x (by simp [hx]) _ _ (h3 x hx).2
 ·-- 12
  have hc2 : count [101, 101] l.length = true := by simpa [form, plain] using hc
  obtain ⟨a, b, rfl⟩ := len2 (f := [101, 101]) (by decide) (by decide) hc2
  simp [fields] at hf
  obtain ⟨rfl, rfl⟩ := hf
  have hr2 : rights [101, 101] 12 fn lp 0 [a, b] = true := by simpa [form, plain, show bare [101, 101] = [101, 101] from by decide] using hr
  simp [rights_cons, rights_nil, sort_e] at hr2
  obtain ⟨s1, r1, s2, r2⟩ := hr2
  have i1 := ih a (by simp) _ _ r1
  have i2 := ih b (by simp) _ _ r2
  exact .index fn lp a b s1 i1 s2 i2
 ·-- 13
  have hc2 : count [101] l.length = true := by simpa [form, plain] using hc
  obtain ⟨a, rfl⟩ := len1 (f := [101]) (by decide) (by decide) hc2
  simp [fields] at hf
  obtain ⟨rfl, h2⟩ := hf
  have hr2 : rights [101] 13 fn lp 0 [a] = true := by simpa [form, plain, show bare [101] = [101] from by decide] using hr
  simp [rights_cons, rights_nil, sort_e] at hr2
  obtain ⟨s1, r1⟩ := hr2
  have i1 := ih a (by simp) _ _ r1
  exact .dot fn lp t a h2 s1 i1
 ·-- 14
  have hc2 : count [101] l.length = true := by simpa [form, plain] using hc
  obtain ⟨a, rfl⟩ := len1 (f := [101]) (by decide) (by decide) hc2
  simp [fields] at hf
  obtain ⟨rfl, h2⟩ := hf
  have hr2 : rights [101] 14 fn lp 0 [a] = true := by simpa [form, plain, show bare [101] = [101] from by decide] using hr
  simp [rights_cons, rights_nil, sort_e] at hr2
  obtain ⟨s1, r1⟩ := hr2
  have i1 := ih a (by simp) _ _ r1
  exact .unary fn lp t a (one_unary.1 h2) s1 i1
 ·-- 15
  have hc2 : count [101, 101] l.length = true := by simpa [form, plain] using hc
  obtain ⟨a, b, rfl⟩ := len2 (f := [101, 101]) (by decide) (by decide) hc2
  simp [fields] at hf
  obtain ⟨rfl, h2⟩ := hf
  have hr2 : rights [101, 101] 15 fn lp 0 [a, b] = true := by simpa [form, plain, show bare [101, 101] = [101, 101] from by decide] using hr
  simp [rights_cons, rights_nil, sort_e] at hr2
  obtain ⟨s1, r1, s2, r2⟩ := hr2
  have i1 := ih a (by simp) _ _ r1
  have i2 := ih b (by simp) _ _ r2
  exact .binary fn lp t a b (one_binary.1 h2) s1 i1 s2 i2
 ·-- 16
  have hc2 : count [101, 101] l.length = true := by simpa [form, plain] using hc
  obtain ⟨a, b, rfl⟩ := len2 (f := [101, 101]) (by decide) (by decide) hc2
  simp [fields] at hf
  obtain ⟨rfl, rfl⟩ := hf
  have hr2 : rights [101, 101] 16 fn lp 0 [a, b] = true := by simpa [form, plain, show bare [101, 101] = [101, 101] from by decide] using hr
  simp [rights_cons, rights_nil, sort_e] at hr2
  obtain ⟨s1, r1, s2, r2⟩ := hr2
  have i1 := ih a (by simp) _ _ r1
  have i2 := ih b (by simp) _ _ r2
  exact .and_ fn lp a b s1 i1 s2 i2
 ·-- 17
  have hc2 : count [101, 101] l.length = true := by simpa [form, plain] using hc
  obtain ⟨a, b, rfl⟩ := len2 (f := [101, 101]) (by decide) (by decide) hc2
  simp [fields] at hf
  obtain ⟨rfl, rfl⟩ := hf
  have hr2 : rights [101, 101] 17 fn lp 0 [a, b] = true := by simpa [form, plain, show bare [101, 101] = [101, 101] from by decide] using hr
  simp [rights_cons, rights_nil, sort_e] at hr2
  obtain ⟨s1, r1, s2, r2⟩ := hr2
  have i1 := ih a (by simp) _ _ r1
  have i2 := ih b (by simp) _ _ r2
  exact .or_ fn lp a b s1 i1 s2 i2
 ·-- 18
  have hc2 : count [101, 101, 101] l.length = true := by simpa [form, plain] using hc
  obtain ⟨a, b, c, rfl⟩ := len3 (f := [101, 101, 101]) (by decide) (by decide) hc2
  simp [fields] at hf
  obtain ⟨rfl, rfl⟩ := hf
  have hr2 : rights [101, 101, 101] 18 fn lp 0 [a, b, c] = true := by simpa [form, plain, show bare [101, 101, 101] = [101, 101, 101] from by decide] using hr
  simp [rights_cons, rights_nil, sort_e] at hr2
  obtain ⟨s1, r1, s2, r2, s3, r3⟩ := hr2
  exact .cond fn lp a b c s1 (ih a (by simp) _ _ r1) s2 (ih b (by simp) _ _ r2) s3 (ih c (by simp) _ _ r3)
 ·-- 19
  have hc2 : count [116, 101] l.length = true := by simpa [form, plain] using hc
  obtain ⟨a, b, rfl⟩ := len2 (f := [116, 101]) (by decide) (by decide) hc2
  simp [fields] at hf
  obtain ⟨rfl, rfl⟩ := hf
  have hr2 : rights [116, 101] 19 fn lp 0 [a, b] = true := by simpa [form, plain, show bare [116, 101] = [116, 101] from by decide] using hr
  simp [rights_cons, rights_nil, sort_e, sort_t] at hr2
  obtain ⟨s1, r1, s2, r2⟩ := hr2
  have i1 := ih a (by simp) _ _ r1
  have i2 := ih b (by simp) _ _ r2
  exact .assign fn lp a b s1 i1 s2 i2
 ·-- 20
  have hc2 : count [101] l.length = true := by simpa [form, plain] using hc
  obtain ⟨a, rfl⟩ := len1 (f := [101]) (by decide) (by decide) hc2
  simp [fields] at hf
  obtain ⟨rfl, h2⟩ := hf
  have hr2 : rights [101] 20 fn lp 0 [a] = true := by simpa [form, plain, show bare [101] = [101] from by decide] using hr
  simp [rights_cons, rights_nil, sort_e] at hr2
  obtain ⟨s1, r1⟩ := hr2
  have i1 := ih a (by simp) _ _ r1
  exact .let_ fn lp t a h2 s1 i1
 ·-- 21
  have hc2 : count [100] l.length = true := by simpa [form, plain] using hc
  obtain ⟨a, rfl⟩ := len1 (f := [100]) (by decide) (by decide) hc2
  simp [fields] at hf
  obtain ⟨rfl, rfl⟩ := hf
  have hr2 : rights [100] 21 fn lp 0 [a] = true := by simpa [form, plain, show bare [100] = [100] from by decide] using hr
  simp [rights_cons, rights_nil, sort_d] at hr2
  obtain ⟨s1, r1⟩ := hr2
  have i1 := ih a (by simp) _ _ r1
  exact .def_ fn lp a s1.1 s1.2 i1
 ·-- 22
  simp [fields] at hf
  obtain ⟨rfl, rfl⟩ := hf
  by_cases h3 : l.length = 3
  ·have hc2 : count [101, 98, 105] l.length = true := by simpa [form, plain, h3] using hc
   have hr2 : rights [101, 98, 105] 22 fn lp 0 l = true := by simpa [form, plain, h3, show bare [101, 98, 105] = [101, 98, 105] from by decide] using hr
   obtain ⟨a, b, c, rfl⟩ := len3 (f := [101, 98, 105]) (by decide) (by decide) hc2
   simp [rights_cons, rights_nil, sort_e, sort_b, sort_i] at hr2
   obtain ⟨s1, r1, s2, r2, s3, r3⟩ := hr2
   exact .if3 fn lp a b c s1 (ih a (by simp) _ _ r1) s2 (ih b (by simp) _ _ r2) s3 (ih c (by simp) _ _ r3)
  ·have hc2 : count [101, 98] l.length = true := by simpa [form, plain, h3] using hc
   have hr2 : rights [101, 98] 22 fn lp 0 l = true := by simpa [form, plain, h3, show bare [101, 98] = [101, 98] from by decide] using hr
   obtain ⟨a, b, rfl⟩ := len2 (f := [101, 98]) (by decide) (by decide) hc2
   simp [rights_cons, rights_nil, sort_e, sort_b] at hr2
   obtain ⟨s1, r1, s2, r2⟩ := hr2
   exact .if2 fn lp a b s1 (ih a (by simp) _ _ r1) s2 (ih b (by simp) _ _ r2)
 ·-- 23
  have hc2 : count [101, 108] l.length = true := by simpa [form, plain] using hc
  obtain ⟨a, b, rfl⟩ := len2 (f := [101, 108]) (by decide) (by decide) hc2
  simp [fields] at hf
  obtain ⟨rfl, rfl⟩ := hf
  have hr2 : rights [101, 108] 23 fn lp 0 [a, b] = true := by simpa [form, plain, show bare [101, 108] = [101, 108] from by decide] using hr
  simp [rights_cons, rights_nil, sort_e, sort_l] at hr2
  obtain ⟨s1, r1, s2, r2⟩ := hr2
  have i1 := ih a (by simp) _ _ r1
  have i2 := ih b (by simp) _ _ r2
  exact .while_ fn lp a b s1 i1 s2 i2
 ·-- 24
  have hc2 : count [101, 108] l.length = true := by simpa [form, plain] using hc
  obtain ⟨a, b, rfl⟩ := len2 (f := [101, 108]) (by decide) (by decide) hc2
  simp [fields] at hf
  obtain ⟨rfl, h2⟩ := hf
  have hr2 : rights [101, 108] 24 fn lp 0 [a, b] = true := by simpa [form, plain, show bare [101, 108] = [101, 108] from by decide] using hr
  simp [rights_cons, rights_nil, sort_e, sort_l] at hr2
  obtain ⟨s1, r1, s2, r2⟩ := hr2
  have i1 := ih a (by simp) _ _ r1
  have i2 := ih b (by simp) _ _ r2
  exact .for_ fn lp t a b h2 s1 i1 s2 i2
 ·-- 25
  simp [fields] at hf
  obtain ⟨rfl, rfl⟩ := hf
  have hfn : fn = true := by simpa using h25
  subst hfn
  by_cases h3 : l.length = 1
  ·have hr2 : rights [101] 25 true lp 0 l = true := by simpa [form, plain, h3, show bare [101] = [101] from by decide] using hr
   obtain ⟨a, rfl⟩ := List.length_eq_one_iff.1 h3
   simp [rights_cons, rights_nil, sort_e] at hr2
   obtain ⟨s1, r1⟩ := hr2
   exact .ret1 lp a s1 (ih a (by simp) _ _ r1)
  ·have hc2 : count [] l.length = true := by simpa [form, plain, h3] using hc
   obtain rfl := len0 hc2
   exact .ret0 lp
 ·-- 26
  have hc2 : count [] l.length = true := by simpa [form, plain] using hc
  obtain rfl := len0 hc2
  simp [fields] at hf
  obtain ⟨rfl, rfl⟩ := hf
  have hlp : lp = true := by simpa using h26
  subst hlp
  exact .brk fn
 ·-- 27
  have hc2 : count [] l.length = true := by simpa [form, plain] using hc
  obtain rfl := len0 hc2
  simp [fields] at hf
  obtain ⟨rfl, rfl⟩ := hf
  have hlp : lp = true := by simpa using h26
  subst hlp
  exact .cont fn
 ·-- 28
  have hc2 : count [101] l.length = true := by simpa [form, plain] using hc
  obtain ⟨a, rfl⟩ := len1 (f := [101]) (by decide) (by decide) hc2
  simp [fields] at hf
  obtain ⟨rfl, rfl⟩ := hf
  have hr2 : rights [101] 28 fn lp 0 [a] = true := by simpa [form, plain, show bare [101] = [101] from by decide] using hr
  simp [rights_cons, rights_nil, sort_e] at hr2
  obtain ⟨s1, r1⟩ := hr2
  have i1 := ih a (by simp) _ _ r1
  exact .throw fn lp a s1 i1
 ·-- 29
  simp [fields] at hf
  by_cases h3 : nu = 3
  ·subst h3
   have hc2 : count [98, 98, 98] l.length = true := by simpa [form, plain] using hc
   have hr2 : rights [98, 98, 98] 29 fn lp 0 l = true := by simpa [form, plain, show bare [98, 98, 98] = [98, 98, 98] from by decide] using hr
   obtain ⟨a, b, c, rfl⟩ := len3 (f := [98, 98, 98]) (by decide) (by decide) hc2
   simp [rights_cons, rights_nil, sort_b] at hr2
   obtain ⟨s1, r1, s2, r2, s3, r3⟩ := hr2
   exact .try3 fn lp t a b c (by simpa using hf) s1 (ih a (by simp) _ _ r1) s2 (ih b (by simp) _ _ r2) s3 (ih c (by simp) _ _ r3)
  ·have hc2 : count [98, 98] l.length = true := by simpa [form, plain, h3] using hc
   have hr2 : rights [98, 98] 29 fn lp 0 l = true := by simpa [form, plain, h3, show bare [98, 98] = [98, 98] from by decide] using hr
   obtain ⟨a, b, rfl⟩ := len2 (f := [98, 98]) (by decide) (by decide) hc2
   simp [rights_cons, rights_nil, sort_b] at hr2
   obtain ⟨s1, r1, s2, r2⟩ := hr2
   have i1 := ih a (by simp) _ _ r1
   have i2 := ih b (by simp) _ _ r2
   obtain ⟨⟨g1, g2⟩, g3⟩ := hf
   by_cases h2 : nu = 2
   ·subst h2
    obtain rfl : t = [] := by simpa using g3
    exact .try2 fn lp a b s1 i1 s2 i2
   ·obtain rfl : nu = 1 := by omega
    exact .try1 fn lp t a b (by simpa using g3) s1 i1 s2 i2
 ·-- 30
  simp [fields] at hf
  obtain ⟨rfl, rfl⟩ := hf
  have hr2 : rights [115] 30 fn lp 0 l = true := by simpa [form, plain, show bare [115, 42] = [115] from by decide] using hr
  rw [rights_all 115 (by decide) 30 (by decide)] at hr2
  exact .block fn lp l (fun x hx => (sort_s x).1 (hr2 x hx).1) fun x hx => ih x hx _ _ (hr2 x hx).2
 ·-- 31
  have hc2 : count [101] l.length = true := by simpa [form, plain] using hc
  obtain ⟨a, rfl⟩ := len1 (f := [101]) (by decide) (by decide) hc2
  simp [fields] at hf
  obtain ⟨rfl, rfl⟩ := hf
  have hr2 : rights [101] 31 fn lp 0 [a] = true := by simpa [form, plain, show bare [101] = [101] from by decide] using hr
  simp [rights_cons, rights_nil, sort_e] at hr2
  obtain ⟨s1, r1⟩ := hr2
  have i1 := ih a (by simp) _ _ r1
  exact .expr fn lp a s1 i1
theorem not3 {b : Bs} (h : name b = true) : b ≠ [] := by rintro rfl; exact absurd h (by decide)
set_option maxHeartbeats 2000000 in
theorem of_rt {n : Node} {fn lp : Bool} (h : Rt fn lp n) : right n fn lp = true := by
 induction h
 case num fn lp nu h1 h2 =>
  rw [right_eq]
  simp [form, plain, fields, count, show star [] = false from by decide, show bare [] = [] from by decide, rights_cons, rights_nil, sort_e, sort_t, sort_b, sort_l, sort_d, sort_i, h1, h2]
 case str fn lp t =>
  rw [right_eq]
  simp [form, plain, fields, count, show star [] = false from by decide, show bare [] = [] from by decide, rights_cons, rights_nil, sort_e, sort_t, sort_b, sort_l, sort_d, sort_i]
 case bool fn lp nu h1 =>
  rw [right_eq]
  simp [form, plain, fields, count, show star [] = false from by decide, show bare [] = [] from by decide, rights_cons, rights_nil, sort_e, sort_t, sort_b, sort_l, sort_d, sort_i, h1]
 case null fn lp =>
  rw [right_eq]
  simp [form, plain, fields, count, show star [] = false from by decide, show bare [] = [] from by decide, rights_cons, rights_nil, sort_e, sort_t, sort_b, sort_l, sort_d, sort_i]
 case var fn lp t h1 =>
  rw [right_eq]
  simp [form, plain, fields, count, show star [] = false from by decide, show bare [] = [] from by decide, rights_cons, rights_nil, sort_e, sort_t, sort_b, sort_l, sort_d, sort_i, h1]
 case list fn lp l h1 h2 ih =>
  rw [right_eq]
  have hr2 : rights [101] 6 fn lp 0 l = true := (rights_all 101 (by decide) 6 (by decide) fn lp l 0).2 fun x hx => ⟨(sort_e x).2 (h1 x hx), ih x hx⟩
  simp [form, plain, fields, count, show bare [101, 42] = [101] from by decide, show star [101, 42] = true from by decide, hr2]
 case recd fn lp l h1 h2 ih =>
  rw [right_eq]
  have hr2 : rights [112] 7 fn lp 0 l = true := (rights_all 112 (by decide) 7 (by decide) fn lp l 0).2 fun x hx => ⟨(sort_p x).2 (h1 x hx), ih x hx⟩
  simp [form, plain, fields, count, show bare [112, 42] = [112] from by decide, show star [112, 42] = true from by decide, hr2]
 case pair fn lp t a h1 h2 h3 ih =>
  rw [right_eq]
  simp [form, plain, fields, count, show star [101] = false from by decide, show bare [101] = [101] from by decide, rights_cons, rights_nil, sort_e, sort_t, sort_b, sort_l, sort_d, sort_i, h1, h2, ih]
 case func fn lp t ps b h1 h2 h3 h4 ih =>
  rw [right_eq]
  obtain ⟨hb9, hs9⟩ := bare9 ps.length
  have hr2 : rights (List.replicate ps.length 113 ++ [103]) 9 fn lp 0 (ps.map (fun p => Node.mk 10 0 p []) ++ [b]) = true := (rights_fn ps.length fn lp b _ 0 (by simp)).2 ⟨fun x hx => by
    obtain ⟨p, hp, rfl⟩ := List.mem_map.1 hx
    refine ⟨(sort_q _).2 rfl, ?_⟩
    rw [right_eq]
    simp [form, plain, fields, count, show star [] = false from by decide, show bare [] = [] from by decide, rights_nil, h2 p hp], (sort_g b).2 h3, ih⟩
  have hf : fields 9 0 t = true := by rcases h1 with rfl | h1 <;> simp [fields, *]
  simp [form, plain, hf, count, hb9, hs9, hr2]
 case param fn lp t h1 =>
  rw [right_eq]
  simp [form, plain, fields, count, show star [] = false from by decide, show bare [] = [] from by decide, rights_cons, rights_nil, sort_e, sort_t, sort_b, sort_l, sort_d, sort_i, h1]
 case call fn lp a l h1 h2 h3 h4 ih1 ih2 =>
  rw [right_eq]
  have hr2 : rights [101, 101] 11 fn lp 0 (a :: l) = true := by
   rw [rights_cons, Bool.and_eq_true, Bool.and_eq_true, rights_tail 101 101 (by decide) 11 (by decide) fn lp l 1 (by omega)]
   simp [sort_e, h1, ih1]
   exact fun x hx => ⟨h3 x hx, ih2 x hx⟩
  simp [form, plain, fields, count, show bare [101, 101, 42] = [101, 101] from by decide, show star [101, 101, 42] = true from by decide, hr2]
 case index fn lp a b h1 h2 h3 h4 ih1 ih2 =>
  rw [right_eq]
  simp [form, plain, fields, count, show star [101, 101] = false from by decide, show bare [101, 101] = [101, 101] from by decide, rights_cons, rights_nil, sort_e, sort_t, sort_b, sort_l, sort_d, sort_i, h1, h3, ih1, ih2]
 case dot fn lp t a h1 h2 h3 ih =>
  rw [right_eq]
  simp [form, plain, fields, count, show star [101] = false from by decide, show bare [101] = [101] from by decide, rights_cons, rights_nil, sort_e, sort_t, sort_b, sort_l, sort_d, sort_i, h1, h2, ih]
 case unary fn lp t a h1 h2 h3 ih =>
  have h5 := one_unary.2 h1
  rw [right_eq]
  simp [form, plain, fields, count, show star [101] = false from by decide, show bare [101] = [101] from by decide, rights_cons, rights_nil, sort_e, sort_t, sort_b, sort_l, sort_d, sort_i, h5, h2, ih]
 case binary fn lp t a b h1 h2 h3 h4 h5 ih1 ih2 =>
  have h7 := one_binary.2 h1
  rw [right_eq]
  simp [form, plain, fields, count, show star [101, 101] = false from by decide, show bare [101, 101] = [101, 101] from by decide, rights_cons, rights_nil, sort_e, sort_t, sort_b, sort_l, sort_d, sort_i, h7, h2, h4, ih1, ih2]
 case and_ fn lp a b h1 h2 h3 h4 ih1 ih2 =>
  rw [right_eq]
  simp [form, plain, fields, count, show star [101, 101] = false from by decide, show bare [101, 101] = [101, 101] from by decide, rights_cons, rights_nil, sort_e, sort_t, sort_b, sort_l, sort_d, sort_i, h1, h3, ih1, ih2]
 case or_ fn lp a b h1 h2 h3 h4 ih1 ih2 =>
  rw [right_eq]
  simp [form, plain, fields, count, show star [101, 101] = false from by decide, show bare [101, 101] = [101, 101] from by decide, rights_cons, rights_nil, sort_e, sort_t, sort_b, sort_l, sort_d, sort_i, h1, h3, ih1, ih2]
 case cond fn lp a b c h1 h2 h3 h4 h5 h6 ih1 ih2 ih3 =>
  rw [right_eq]
  simp [form, plain, fields, count, show star [101, 101, 101] = false from by decide, show bare [101, 101, 101] = [101, 101, 101] from by decide, rights_cons, rights_nil, sort_e, sort_t, sort_b, sort_l, sort_d, sort_i, h1, h3, h5, ih1, ih2, ih3]
 case assign fn lp a b h1 h2 h3 h4 ih1 ih2 =>
  rw [right_eq]
  simp [form, plain, fields, count, show star [116, 101] = false from by decide, show bare [116, 101] = [116, 101] from by decide, rights_cons, rights_nil, sort_e, sort_t, sort_b, sort_l, sort_d, sort_i, h1, h3, ih1, ih2]
 case let_ fn lp t a h1 h2 h3 ih =>
  rw [right_eq]
  simp [form, plain, fields, count, show star [101] = false from by decide, show bare [101] = [101] from by decide, rights_cons, rights_nil, sort_e, sort_t, sort_b, sort_l, sort_d, sort_i, h1, h2, ih]
 case def_ fn lp f h1 h2 h3 ih =>
  rw [right_eq]
  simp [form, plain, fields, count, show star [100] = false from by decide, show bare [100] = [100] from by decide, rights_cons, rights_nil, sort_e, sort_t, sort_b, sort_l, sort_d, sort_i, h1, h2, ih]
 case if2 fn lp c b h1 h2 h3 h4 ih1 ih2 =>
  rw [right_eq]
  simp [form, plain, fields, count, show star [101, 98] = false from by decide, show bare [101, 98] = [101, 98] from by decide, rights_cons, rights_nil, sort_e, sort_t, sort_b, sort_l, sort_d, sort_i, h1, h3, ih1, ih2]
 case if3 fn lp c b e h1 h2 h3 h4 h5 h6 ih1 ih2 ih3 =>
  rw [right_eq]
  simp [form, plain, fields, count, show star [101, 98, 105] = false from by decide, show bare [101, 98, 105] = [101, 98, 105] from by decide, rights_cons, rights_nil, sort_e, sort_t, sort_b, sort_l, sort_d, sort_i, h1, h3, h5, ih1, ih2, ih3]
 case while_ fn lp c b h1 h2 h3 h4 ih1 ih2 =>
  rw [right_eq]
  simp [form, plain, fields, count, show star [101, 108] = false from by decide, show bare [101, 108] = [101, 108] from by decide, rights_cons, rights_nil, sort_e, sort_t, sort_b, sort_l, sort_d, sort_i, h1, h3, ih1, ih2]
 case for_ fn lp t c b h0 h1 h2 h3 h4 ih1 ih2 =>
  rw [right_eq]
  simp [form, plain, fields, count, show star [101, 108] = false from by decide, show bare [101, 108] = [101, 108] from by decide, rights_cons, rights_nil, sort_e, sort_t, sort_b, sort_l, sort_d, sort_i, h0, h1, h3, ih1, ih2]
 case ret0 lp =>
  rw [right_eq]
  simp [form, plain, fields, count, show star [] = false from by decide, show bare [] = [] from by decide, rights_cons, rights_nil, sort_e, sort_t, sort_b, sort_l, sort_d, sort_i]
 case ret1 lp a h1 h2 ih =>
  rw [right_eq]
  simp [form, plain, fields, count, show star [101] = false from by decide, show bare [101] = [101] from by decide, rights_cons, rights_nil, sort_e, sort_t, sort_b, sort_l, sort_d, sort_i, h1, ih]
 case brk fn =>
  rw [right_eq]
  simp [form, plain, fields, count, show star [] = false from by decide, show bare [] = [] from by decide, rights_cons, rights_nil, sort_e, sort_t, sort_b, sort_l, sort_d, sort_i]
 case cont fn =>
  rw [right_eq]
  simp [form, plain, fields, count, show star [] = false from by decide, show bare [] = [] from by decide, rights_cons, rights_nil, sort_e, sort_t, sort_b, sort_l, sort_d, sort_i]
 case throw fn lp a h1 h2 ih =>
  rw [right_eq]
  simp [form, plain, fields, count, show star [101] = false from by decide, show bare [101] = [101] from by decide, rights_cons, rights_nil, sort_e, sort_t, sort_b, sort_l, sort_d, sort_i, h1, ih]
 case try1 fn lp t b c h0 h1 h2 h3 h4 ih1 ih2 =>
  rw [right_eq]
  simp [form, plain, fields, count, show star [98, 98] = false from by decide, show bare [98, 98] = [98, 98] from by decide, rights_cons, rights_nil, sort_e, sort_t, sort_b, sort_l, sort_d, sort_i, h0, h1, h3, ih1, ih2]
 case try2 fn lp b d h1 h2 h3 h4 ih1 ih2 =>
  rw [right_eq]
  simp [form, plain, fields, count, show star [98, 98] = false from by decide, show bare [98, 98] = [98, 98] from by decide, rights_cons, rights_nil, sort_e, sort_t, sort_b, sort_l, sort_d, sort_i, h1, h3, ih1, ih2]
 case try3 fn lp t b c d h0 h1 h2 h3 h4 h5 h6 ih1 ih2 ih3 =>
  rw [right_eq]
  simp [form, plain, fields, count, show star [98, 98, 98] = false from by decide, show bare [98, 98, 98] = [98, 98, 98] from by decide, rights_cons, rights_nil, sort_e, sort_t, sort_b, sort_l, sort_d, sort_i, h0, h1, h3, h5, ih1, ih2, ih3]
 case block fn lp l h1 h2 ih =>
  rw [right_eq]
  have hr2 : rights [115] 30 fn lp 0 l = true := (rights_all 115 (by decide) 30 (by decide) fn lp l 0).2 fun x hx => ⟨(sort_s x).2 (h1 x hx), ih x hx⟩
  simp [form, plain, fields, count, show bare [115, 42] = [115] from by decide, show star [115, 42] = true from by decide, hr2]
 case expr fn lp a h1 h2 ih =>
  rw [right_eq]
  simp [form, plain, fields, count, show star [101] = false from by decide, show bare [101] = [101] from by decide, rights_cons, rights_nil, sort_e, sort_t, sort_b, sort_l, sort_d, sort_i, h1, ih]
end Wri
namespace Go.Proofs.YtonjdlialejedaaGreatDoor
open Go.Lib (hid)
open Go.RowKit
theorem wr_st20 (nu : Int) (t : List UInt8) (l : List Pars.Node) (x0 : Pars.Node) (h0 : l[0]? = some x0) : Wri.wr (.mk 20 nu t l) .stmt = [108, 101, 116, 32] ++ t ++ [32, 61, 32] ++ Wri.wr x0 (.at (-2)) ++ [59] := by
 show Wri.wStmt 20 nu t l (Wri.wrs l) = _
 unfold Wri.wStmt
 simp [wrs_kid h0, List.append_assoc]
theorem wr_st21 (nu : Int) (t : List UInt8) (l : List Pars.Node) (x0 : Pars.Node) (h0 : l[0]? = some x0) : Wri.wr (.mk 21 nu t l) .stmt = Wri.wr x0 .fn := by
 show Wri.wStmt 21 nu t l (Wri.wrs l) = _
 unfold Wri.wStmt
 simp [wrs_kid h0, List.append_assoc]
theorem wr_st23 (nu : Int) (t : List UInt8) (l : List Pars.Node) (x0 x1 : Pars.Node) (h0 : l[0]? = some x0) (h1 : l[1]? = some x1) : Wri.wr (.mk 23 nu t l) .stmt = [119, 104, 105, 108, 101, 32, 40] ++ Wri.wr x0 (.at (-2)) ++ [41, 32] ++ Wri.wr x1 .block := by
 show Wri.wStmt 23 nu t l (Wri.wrs l) = _
 unfold Wri.wStmt
 simp [wrs_kid h0, wrs_kid h1, List.append_assoc]
theorem wr_st24 (nu : Int) (t : List UInt8) (l : List Pars.Node) (x0 x1 : Pars.Node) (h0 : l[0]? = some x0) (h1 : l[1]? = some x1) : Wri.wr (.mk 24 nu t l) .stmt = [102, 111, 114, 32, 40, 108, 101, 116, 32] ++ t ++ [32, 111, 102, 32] ++ Wri.wr x0 (.at (-2)) ++ [41, 32] ++ Wri.wr x1 .block := by
 show Wri.wStmt 24 nu t l (Wri.wrs l) = _
 unfold Wri.wStmt
 simp [wrs_kid h0, wrs_kid h1, List.append_assoc]
theorem wr_st28 (nu : Int) (t : List UInt8) (l : List Pars.Node) (x0 : Pars.Node) (h0 : l[0]? = some x0) : Wri.wr (.mk 28 nu t l) .stmt = [116, 104, 114, 111, 119, 32] ++ Wri.wr x0 (.at (-2)) ++ [59] := by
 show Wri.wStmt 28 nu t l (Wri.wrs l) = _
 unfold Wri.wStmt
 simp [wrs_kid h0, List.append_assoc]
theorem wr_st31 (nu : Int) (t : List UInt8) (l : List Pars.Node) (x0 : Pars.Node) (h0 : l[0]? = some x0) : Wri.wr (.mk 31 nu t l) .stmt = (if Wri.front x0 = 7 ∨ Wri.front x0 = 9 then [40] ++ Wri.wr x0 (.at (-2)) ++ [41] else Wri.wr x0 (.at (-2))) ++ [59] := by
 show Wri.wStmt 31 nu t l (Wri.wrs l) = _
 unfold Wri.wStmt
 simp [wrs_kid h0, List.getD_eq_getElem?_getD, h0, List.append_assoc]
theorem def_kid {nu : Int} {t : List UInt8} {l : List Pars.Node} {x : Pars.Node} (h : Ri (.mk 21 nu t l)) (hx : l[0]? = some x) : x.kind = 9 := by
 obtain ⟨a, b, h⟩ := h
 have hr := Wri.rt_of _ _ _ h
 cases hr with
 | def_ _ _ f h1 h2 h3 =>
  simp at hx
  rw [← hx]; exact h1
theorem wr_st25a (nu : Int) (t : List UInt8) (l : List Pars.Node) (h : l.length = 0) : Wri.wr (.mk 25 nu t l) .stmt = [114, 101, 116, 117, 114, 110] ++ [59] := by
 obtain rfl : l = [] := List.length_eq_zero_iff.1 h
 rfl
theorem wr_st25b (nu : Int) (t : List UInt8) (l : List Pars.Node) (x0 : Pars.Node) (h0 : l[0]? = some x0) (h : l.length = 1) : Wri.wr (.mk 25 nu t l) .stmt = [114, 101, 116, 117, 114, 110] ++ [32] ++ Wri.wr x0 (.at (-2)) ++ [59] := by
 obtain ⟨y, rfl⟩ := List.length_eq_one_iff.1 h
 simp at h0
 subst h0
 show [114, 101, 116, 117, 114, 110] ++ (32 :: Wri.wr y (.at (-2))) ++ [59] = _
 simp
set_option maxRecDepth 100000 in
set_option maxHeartbeats 4000000 in
theorem stmt_w {N : Nat} (IH : Wall N) (IF : ∀ {n : Pars.Node} {cs : Array Value} {w : World} {B wb : Nat} {l : List UInt8}, Wri.wg n ≤ N + 1 → Wri.wg n ≤ 1048576 → Ri n → n.kind = 22 → NodeAt w (fun g => g < B) n cs → Wt B wb l w → B ≤ w.heap.size → 7 ≤ B → EnvW w → l.length + (Wri.wr n .ifs).length ≤ 70368744177664 → Calls Tryz.prog 34 #[.pointer (some ⟨wb, 0, none⟩), .agg cs] w (WOut B wb l (Wri.wr n .ifs) w)) (TR : ∀ {n : Pars.Node} {cs : Array Value} {w : World} {B wb : Nat} {l : List UInt8}, Wri.wg n ≤ N + 1 → Wri.wg n ≤ 1048576 → Ri n → n.kind = 29 → NodeAt w (fun g => g < B) n cs → Wt B wb l w → B ≤ w.heap.size → 7 ≤ B → EnvW w → l.length + (Wri.wr n .tries).length ≤ 70368744177664 → Calls Tryz.prog 36 #[.pointer (some ⟨wb, 0, none⟩), .agg cs] w (WOut B wb l (Wri.wr n .tries) w)) (BL : ∀ {n : Pars.Node} {cs : Array Value} {w : World} {B wb : Nat} {l : List UInt8}, Wri.wg n ≤ N + 1 → Wri.wg n ≤ 1048576 → Ri n → NodeAt w (fun g => g < B) n cs → Wt B wb l w → B ≤ w.heap.size → 7 ≤ B → EnvW w → l.length + (Wri.wr n .block).length ≤ 70368744177664 → Calls Tryz.prog 35 #[.pointer (some ⟨wb, 0, none⟩), .agg cs] w (WOut B wb l (Wri.wr n .block) w)) : ∀ {n : Pars.Node} {cs : Array Value} {w : World} {B wb : Nat} {l : List UInt8}, Wri.wg n ≤ N + 1 → Wri.wg n ≤ 1048576 → Ri n → NodeAt w (fun g => g < B) n cs → Wt B wb l w → B ≤ w.heap.size → 7 ≤ B → EnvW w → l.length + (Wri.wr n .stmt).length ≤ 70368744177664 → Calls Tryz.prog 20 #[.pointer (some ⟨wb, 0, none⟩), .agg cs] w (WOut B wb l (Wri.wr n .stmt) w) := by
 intro n cs w B wb l hN hM hR hn hW hBw h7 he hl
 obtain ⟨k, nu, t, kl⟩ := n
 have hn0 := hn
 unfold NodeAt at hn
 obtain ⟨A, cap, css, rfl, hc1, hc2, hrow, hk⟩ := hn
 have HROW := hid hrow
 have HK := hid hk
 have HN := hid hn0
 have HE := hid he
 have hwlt := hW.lt
 have hll := Wri.wgs_len kl
 clear hrow hk hn0 he
 by_cases y20 : k = 20
 ·subst y20
  have hlen : kl.length = 1 := (ri_len hR).2.2.1 (by simp)
  obtain ⟨x0, hx0⟩ : ∃ x, kl[0]? = some x := ⟨_, List.getElem?_eq_getElem (by omega)⟩
  obtain ⟨g0, o0, rfl, hg0, _, _⟩ := HROW.out (by omega)
  obtain ⟨b0, c0, d0, hn0, hc0⟩ := kid4 HK.out HROW.out hx0
  have HN0 := hid hn0
  have HC0 := hid hc0
  have HX0 := hid hx0
  have HR0 := hid (ri_kid hR x0 (List.mem_of_getElem? hx0))
  have hxw0 := Wri.wg_mem (List.mem_of_getElem? hx0)
  have HW0 : Hid (Wri.wg x0 ≤ N ∧ Wri.wg x0 ≤ 1048576) := hid (by simp only [Wri.wg] at hN hM; exact ⟨by omega, by omega⟩)
  clear hn0 hc0 hx0 hxw0
  rw [wr_st20 nu t kl x0 HX0.out] at hl
  have hts : (byt t).size ≤ 70368744177664 := by rw [byt_size]; simp only [List.length_append, List.length_cons] at hl; omega
  go_enter Tryz.func20, Tryz.ntmps20
  go_upto_region 1 with fail
  refine gen_world (F := fun W => Box W w.heap.size 24 (nc 20 nu t (.slice (some ⟨g0, o0, none⟩) 1 cap)) ∧ Below w.heap.size w W) ⟨Box.new w _ _, below1 w _⟩ ?_
  rintro W0 ⟨b0, hU⟩
  have NB := hid b0
  have WT := hid (hW.below hU)
  have HU : Hid (Below B w W0) := hid (hU.mono hBw)
  have HS : Hid (Stays wb w W0) := hid (Stays.below hU)
  have hB0 : B ≤ W0.heap.size := Nat.le_trans hBw hU.size
  have hnw : w.heap.size ≠ wb := by omega
  have hbx := Nat.lt_of_lt_of_le b0.lt (Nat.le_refl _)
  clear b0 hU
  have HNENB := hid hnw
  have c0 := NB.out.cell 0
  simp [nc] at c0
  have c2 := NB.out.cell 2
  simp [nc] at c2
  have hcc : ¬ 9223372036854775807 < 4 + (byt t).size := by omega
  have hcc2 : ¬ 9223372036854775807 < 4 + (byt t).size + 3 := by omega
  have hg8 : (⟨#[108, 101, 116, 32]⟩ : ByteArray).size = 4 := rfl
  have hg2 : (⟨#[32, 61, 32]⟩ : ByteArray).size = 3 := rfl
  have HPC : Hid ((⟨#[108, 101, 116, 32]⟩ ++ byt t ++ ⟨#[32, 61, 32]⟩ : ByteArray) = byt ([108, 101, 116, 32] ++ t ++ [32, 61, 32])) := hid (by rw [← byt_append, ← byt_append]; rfl)
  go_upto_region 3 with fail
  go_wp2
  go_still_tail 7, (by kernel_rfl)
  change wpList _ _ _ _ _ W0.drew
  have hdr : Below W0.heap.size W0 W0.drew := Below.drew (Below.refl _ _)
  have hdz : W0.drew.heap.size = W0.heap.size := rfl
  obtain ⟨wd, hwd⟩ : ∃ wd, W0.drew = wd := ⟨_, rfl⟩
  rw [hwd] at hdr hdz ⊢
  replace WT := hid (WT.out.below hdr)
  replace NB := bl NB hdr
  replace HU := hid (HU.out.trans (hdr.mono hB0))
  replace HS := hid (HS.out.trans (Stays.below hdr))
  have hB1 : B ≤ wd.heap.size := by omega
  clear hB0
  have hB0 := hB1
  clear hdr hdz hwd
  clear c0 c2
  go_wp2_with fail
  rw [HPC.out]
  refine (wstr B wb (l) ([108, 101, 116, 32] ++ t ++ [32, 61, 32]) _ WT.out (by (try simp only [ln] at hl); (try simp only [ln]); omega) hB0).mono ?_
  rintro e w1 ⟨⟨v, rfl⟩, hw, hb, hs⟩
  replace WT := hid hw
  replace NB := st hs NB HNENB
  replace HU := hid (HU.out.trans hb)
  replace HS := hid (HS.out.trans hs)
  replace hB0 := Nat.le_trans hB0 hb.size
  clear hw hb hs
  obtain ⟨k0, k1, k2, k3⟩ := HC0.out w1 HU.out
  simp at k0 k1 k2 k3
  have c3 := NB.out.cell 3
  simp [nc] at c3
  go_wp2_with fail
  refine (IH.any HW0.out.1 HW0.out.2 HR0.out (HN0.out.belowB HU.out) WT.out hB0 h7 (HE.out.below HU.out h7) (by (try simp only [ln] at hl); (try simp only [ln]); omega)).mono ?_
  rintro e w2 ⟨rfl, hw, hb, hs⟩
  clear k0 k1 k2 k3 c3
  replace WT := hid hw
  replace NB := st hs NB HNENB
  replace HU := hid (HU.out.trans hb)
  replace HS := hid (HS.out.trans hs)
  replace hB0 := Nat.le_trans hB0 hb.size
  clear hw hb hs
  go_wp2_with fail
  refine (wbyte B wb (l ++ ([108, 101, 116, 32] ++ t ++ [32, 61, 32]) ++ Wri.wr x0 (.at (-2))) 59 _ WT.out (by (try simp only [ln] at hl); (try simp only [ln]); omega) hB0).mono ?_
  rintro e w3 ⟨rfl, hw, hb, hs⟩
  replace WT := hid hw
  replace NB := st hs NB HNENB
  replace HU := hid (HU.out.trans hb)
  replace HS := hid (HS.out.trans hs)
  replace hB0 := Nat.le_trans hB0 hb.size
  clear hw hb hs
  go_wp2
  go_end0
  exact ⟨rfl, by rw [wr_st20 nu t kl x0 HX0.out]; simpa [List.append_assoc] using WT.out, HU.out, HS.out⟩
 by_cases y21 : k = 21
 ·subst y21
  have hlen : kl.length = 1 := (ri_len hR).2.2.1 (by simp)
  obtain ⟨x0, hx0⟩ : ∃ x, kl[0]? = some x := ⟨_, List.getElem?_eq_getElem (by omega)⟩
  obtain ⟨g0, o0, rfl, hg0, _, _⟩ := HROW.out (by omega)
  obtain ⟨b0, c0, d0, hn0, hc0⟩ := kid4 HK.out HROW.out hx0
  have HN0 := hid hn0
  have HC0 := hid hc0
  have HX0 := hid hx0
  have HR0 := hid (ri_kid hR x0 (List.mem_of_getElem? hx0))
  have hxw0 := Wri.wg_mem (List.mem_of_getElem? hx0)
  have HW0 : Hid (Wri.wg x0 ≤ N ∧ Wri.wg x0 ≤ 1048576) := hid (by simp only [Wri.wg] at hN hM; exact ⟨by omega, by omega⟩)
  clear hn0 hc0 hx0 hxw0
  have HKD : Hid (x0.kind = 9) := hid (def_kid hR HX0.out)
  rw [wr_st21 nu t kl x0 HX0.out] at hl
  have hn9 := HN0.out
  rw [HKD.out] at hn9
  replace HN0 := hid hn9
  clear hn9
  go_enter Tryz.func20, Tryz.ntmps20
  go_upto_region 1 with fail
  refine gen_world (F := fun W => Box W w.heap.size 24 (nc 21 nu t (.slice (some ⟨g0, o0, none⟩) 1 cap)) ∧ Below w.heap.size w W) ⟨Box.new w _ _, below1 w _⟩ ?_
  rintro W0 ⟨b0, hU⟩
  have NB := hid b0
  have WT := hid (hW.below hU)
  have HU : Hid (Below B w W0) := hid (hU.mono hBw)
  have HS : Hid (Stays wb w W0) := hid (Stays.below hU)
  have hB0 : B ≤ W0.heap.size := Nat.le_trans hBw hU.size
  have hnw : w.heap.size ≠ wb := by omega
  have hbx := Nat.lt_of_lt_of_le b0.lt (Nat.le_refl _)
  clear b0 hU
  have HNENB := hid hnw
  have c0 := NB.out.cell 0
  simp [nc] at c0
  have HC00 := HC0.out
  rw [HKD.out] at HC00
  replace HC0 := hid HC00
  clear HC00
  obtain ⟨k0, k1, k2, k3⟩ := HC0.out W0 HU.out
  simp at k0 k1 k2 k3
  have c3 := NB.out.cell 3
  simp [nc] at c3
  go_wp2_with fail
  refine (IH.fn HW0.out.1 HW0.out.2 HR0.out HKD.out (HN0.out.belowB HU.out) WT.out hB0 h7 (HE.out.below HU.out h7) (by (try simp only [ln] at hl); (try simp only [ln]); omega)).mono ?_
  rintro e w1 ⟨rfl, hw, hb, hs⟩
  clear k0 k1 k2 k3 c3
  replace WT := hid hw
  replace NB := st hs NB HNENB
  replace HU := hid (HU.out.trans hb)
  replace HS := hid (HS.out.trans hs)
  replace hB0 := Nat.le_trans hB0 hb.size
  clear hw hb hs
  go_wp2
  go_end0
  exact ⟨rfl, by rw [wr_st21 nu t kl x0 HX0.out]; simpa [List.append_assoc] using WT.out, HU.out, HS.out⟩
 by_cases y22 : k = 22
 ·subst y22
  have INF : (Tryz.prog.info? 24).map (·.size) = some (nc 22 nu t (.slice A kl.length cap)).size := info_nod
  go_enter Tryz.func20, Tryz.ntmps20
  go_upto_region 1 with fail
  refine gen_world (F := fun W => Box W w.heap.size 24 (nc 22 nu t (.slice A kl.length cap)) ∧ Below w.heap.size w W) ⟨Box.new w _ _, below1 w _⟩ ?_
  rintro W0 ⟨b0, hU⟩
  have NB := hid b0
  have WT := hid (hW.below hU)
  have HU : Hid (Below B w W0) := hid (hU.mono hBw)
  have HS : Hid (Stays wb w W0) := hid (Stays.below hU)
  have hB0 : B ≤ W0.heap.size := Nat.le_trans hBw hU.size
  have hnw : w.heap.size ≠ wb := by omega
  have hbx := Nat.lt_of_lt_of_le b0.lt (Nat.le_refl _)
  clear b0 hU
  have HNENB := hid hnw
  have c0 := NB.out.cell 0
  simp [nc] at c0
  go_wp2_with (refine wpList_load_row rfl 24 (.tmp 3) rfl w.heap.size rfl _ (nc 22 nu t (.slice A kl.length cap)) (0, 0) _ NB.out Tryz.underlying24 rfl INF ?_)
  refine (IF hN hM hR rfl (HN.out.belowB HU.out) WT.out hB0 h7 (HE.out.below HU.out h7) hl).mono ?_
  rintro e w2 ⟨rfl, hw, hb, hs⟩
  go_wp2
  go_end0
  exact ⟨rfl, hw, HU.out.trans hb, HS.out.trans hs⟩
 by_cases y23 : k = 23
 ·subst y23
  have hlen : kl.length = 2 := (ri_len hR).1 (by simp)
  obtain ⟨x0, hx0⟩ : ∃ x, kl[0]? = some x := ⟨_, List.getElem?_eq_getElem (by omega)⟩
  obtain ⟨x1, hx1⟩ : ∃ x, kl[1]? = some x := ⟨_, List.getElem?_eq_getElem (by omega)⟩
  obtain ⟨g0, o0, rfl, hg0, _, _⟩ := HROW.out (by omega)
  obtain ⟨b0, c0, d0, hn0, hc0⟩ := kid4 HK.out HROW.out hx0
  have HN0 := hid hn0
  have HC0 := hid hc0
  have HX0 := hid hx0
  have HR0 := hid (ri_kid hR x0 (List.mem_of_getElem? hx0))
  have hxw0 := Wri.wg_mem (List.mem_of_getElem? hx0)
  have HW0 : Hid (Wri.wg x0 ≤ N ∧ Wri.wg x0 ≤ 1048576) := hid (by simp only [Wri.wg] at hN hM; exact ⟨by omega, by omega⟩)
  clear hn0 hc0 hx0 hxw0
  obtain ⟨b1, c1, d1, hn1, hc1⟩ := kid4 HK.out HROW.out hx1
  have HN1 := hid hn1
  have HC1 := hid hc1
  have HX1 := hid hx1
  have HR1 := hid (ri_kid hR x1 (List.mem_of_getElem? hx1))
  have hxw1 := Wri.wg_mem (List.mem_of_getElem? hx1)
  have HW1 : Hid (Wri.wg x1 ≤ N ∧ Wri.wg x1 ≤ 1048576) := hid (by simp only [Wri.wg] at hN hM; exact ⟨by omega, by omega⟩)
  clear hn1 hc1 hx1 hxw1
  rw [wr_st23 nu t kl x0 x1 HX0.out HX1.out] at hl
  go_enter Tryz.func20, Tryz.ntmps20
  go_upto_region 1 with fail
  refine gen_world (F := fun W => Box W w.heap.size 24 (nc 23 nu t (.slice (some ⟨g0, o0, none⟩) 2 cap)) ∧ Below w.heap.size w W) ⟨Box.new w _ _, below1 w _⟩ ?_
  rintro W0 ⟨b0, hU⟩
  have NB := hid b0
  have WT := hid (hW.below hU)
  have HU : Hid (Below B w W0) := hid (hU.mono hBw)
  have HS : Hid (Stays wb w W0) := hid (Stays.below hU)
  have hB0 : B ≤ W0.heap.size := Nat.le_trans hBw hU.size
  have hnw : w.heap.size ≠ wb := by omega
  have hbx := Nat.lt_of_lt_of_le b0.lt (Nat.le_refl _)
  clear b0 hU
  have HNENB := hid hnw
  have c0 := NB.out.cell 0
  simp [nc] at c0
  go_upto_region 11 with fail
  clear c0
  go_wp2_with fail
  refine (wstr B wb (l) [119, 104, 105, 108, 101, 32, 40] _ WT.out (by (try simp only [ln] at hl); (try simp only [ln]); omega) hB0).mono ?_
  rintro e w1 ⟨⟨v, rfl⟩, hw, hb, hs⟩
  replace WT := hid hw
  replace NB := st hs NB HNENB
  replace HU := hid (HU.out.trans hb)
  replace HS := hid (HS.out.trans hs)
  replace hB0 := Nat.le_trans hB0 hb.size
  clear hw hb hs
  obtain ⟨k0, k1, k2, k3⟩ := HC0.out w1 HU.out
  simp at k0 k1 k2 k3
  have c3 := NB.out.cell 3
  simp [nc] at c3
  go_wp2_with fail
  refine (IH.any HW0.out.1 HW0.out.2 HR0.out (HN0.out.belowB HU.out) WT.out hB0 h7 (HE.out.below HU.out h7) (by (try simp only [ln] at hl); (try simp only [ln]); omega)).mono ?_
  rintro e w2 ⟨rfl, hw, hb, hs⟩
  clear k0 k1 k2 k3 c3
  replace WT := hid hw
  replace NB := st hs NB HNENB
  replace HU := hid (HU.out.trans hb)
  replace HS := hid (HS.out.trans hs)
  replace hB0 := Nat.le_trans hB0 hb.size
  clear hw hb hs
  go_wp2_with fail
  refine (wstr B wb (l ++ [119, 104, 105, 108, 101, 32, 40] ++ Wri.wr x0 (.at (-2))) [41, 32] _ WT.out (by (try simp only [ln] at hl); (try simp only [ln]); omega) hB0).mono ?_
  rintro e w3 ⟨⟨v, rfl⟩, hw, hb, hs⟩
  replace WT := hid hw
  replace NB := st hs NB HNENB
  replace HU := hid (HU.out.trans hb)
  replace HS := hid (HS.out.trans hs)
  replace hB0 := Nat.le_trans hB0 hb.size
  clear hw hb hs
  obtain ⟨k0, k1, k2, k3⟩ := HC1.out w3 HU.out
  have kk0 : w3.cell? ⟨g0, o0 + 4, none⟩ = some (.int .i64 x1.kind) := by simpa [Nat.add_assoc] using k0
  have kk1 : w3.cell? ⟨g0, o0 + 5, none⟩ = some b1 := by simpa [Nat.add_assoc] using k1
  have kk2 : w3.cell? ⟨g0, o0 + 6, none⟩ = some c1 := by simpa [Nat.add_assoc] using k2
  have kk3 : w3.cell? ⟨g0, o0 + 7, none⟩ = some d1 := by simpa [Nat.add_assoc] using k3
  have c3 := NB.out.cell 3
  simp [nc] at c3
  go_wp2_with fail
  refine (IH.block HW1.out.1 HW1.out.2 HR1.out (HN1.out.belowB HU.out) WT.out hB0 h7 (HE.out.below HU.out h7) (by (try simp only [ln] at hl); (try simp only [ln]); omega)).mono ?_
  rintro e w4 ⟨rfl, hw, hb, hs⟩
  clear k0 k1 k2 k3 kk0 kk1 kk2 kk3 c3
  replace WT := hid hw
  replace NB := st hs NB HNENB
  replace HU := hid (HU.out.trans hb)
  replace HS := hid (HS.out.trans hs)
  replace hB0 := Nat.le_trans hB0 hb.size
  clear hw hb hs
  go_wp2
  go_end0
  exact ⟨rfl, by rw [wr_st23 nu t kl x0 x1 HX0.out HX1.out]; simpa [List.append_assoc] using WT.out, HU.out, HS.out⟩
 by_cases y24 : k = 24
 ·subst y24
  have hlen : kl.length = 2 := (ri_len hR).1 (by simp)
  obtain ⟨x0, hx0⟩ : ∃ x, kl[0]? = some x := ⟨_, List.getElem?_eq_getElem (by omega)⟩
  obtain ⟨x1, hx1⟩ : ∃ x, kl[1]? = some x := ⟨_, List.getElem?_eq_getElem (by omega)⟩
  obtain ⟨g0, o0, rfl, hg0, _, _⟩ := HROW.out (by omega)
  obtain ⟨b0, c0, d0, hn0, hc0⟩ := kid4 HK.out HROW.out hx0
  have HN0 := hid hn0
  have HC0 := hid hc0
  have HX0 := hid hx0
  have HR0 := hid (ri_kid hR x0 (List.mem_of_getElem? hx0))
  have hxw0 := Wri.wg_mem (List.mem_of_getElem? hx0)
  have HW0 : Hid (Wri.wg x0 ≤ N ∧ Wri.wg x0 ≤ 1048576) := hid (by simp only [Wri.wg] at hN hM; exact ⟨by omega, by omega⟩)
  clear hn0 hc0 hx0 hxw0
  obtain ⟨b1, c1, d1, hn1, hc1⟩ := kid4 HK.out HROW.out hx1
  have HN1 := hid hn1
  have HC1 := hid hc1
  have HX1 := hid hx1
  have HR1 := hid (ri_kid hR x1 (List.mem_of_getElem? hx1))
  have hxw1 := Wri.wg_mem (List.mem_of_getElem? hx1)
  have HW1 : Hid (Wri.wg x1 ≤ N ∧ Wri.wg x1 ≤ 1048576) := hid (by simp only [Wri.wg] at hN hM; exact ⟨by omega, by omega⟩)
  clear hn1 hc1 hx1 hxw1
  rw [wr_st24 nu t kl x0 x1 HX0.out HX1.out] at hl
  have hts : (byt t).size ≤ 70368744177664 := by rw [byt_size]; simp only [List.length_append, List.length_cons] at hl; omega
  go_enter Tryz.func20, Tryz.ntmps20
  go_upto_region 1 with fail
  refine gen_world (F := fun W => Box W w.heap.size 24 (nc 24 nu t (.slice (some ⟨g0, o0, none⟩) 2 cap)) ∧ Below w.heap.size w W) ⟨Box.new w _ _, below1 w _⟩ ?_
  rintro W0 ⟨b0, hU⟩
  have NB := hid b0
  have WT := hid (hW.below hU)
  have HU : Hid (Below B w W0) := hid (hU.mono hBw)
  have HS : Hid (Stays wb w W0) := hid (Stays.below hU)
  have hB0 : B ≤ W0.heap.size := Nat.le_trans hBw hU.size
  have hnw : w.heap.size ≠ wb := by omega
  have hbx := Nat.lt_of_lt_of_le b0.lt (Nat.le_refl _)
  clear b0 hU
  have HNENB := hid hnw
  have c0 := NB.out.cell 0
  simp [nc] at c0
  have c2 := NB.out.cell 2
  simp [nc] at c2
  have hcc : ¬ 9223372036854775807 < 9 + (byt t).size := by omega
  have hcc2 : ¬ 9223372036854775807 < 9 + (byt t).size + 4 := by omega
  have hg8 : (⟨#[102, 111, 114, 32, 40, 108, 101, 116, 32]⟩ : ByteArray).size = 9 := rfl
  have hg2 : (⟨#[32, 111, 102, 32]⟩ : ByteArray).size = 4 := rfl
  have HPC : Hid ((⟨#[102, 111, 114, 32, 40, 108, 101, 116, 32]⟩ ++ byt t ++ ⟨#[32, 111, 102, 32]⟩ : ByteArray) = byt ([102, 111, 114, 32, 40, 108, 101, 116, 32] ++ t ++ [32, 111, 102, 32])) := hid (by rw [← byt_append, ← byt_append]; rfl)
  go_upto_region 16 with fail
  go_wp2
  go_still_tail 7, (by kernel_rfl)
  change wpList _ _ _ _ _ W0.drew
  have hdr : Below W0.heap.size W0 W0.drew := Below.drew (Below.refl _ _)
  have hdz : W0.drew.heap.size = W0.heap.size := rfl
  obtain ⟨wd, hwd⟩ : ∃ wd, W0.drew = wd := ⟨_, rfl⟩
  rw [hwd] at hdr hdz ⊢
  replace WT := hid (WT.out.below hdr)
  replace NB := bl NB hdr
  replace HU := hid (HU.out.trans (hdr.mono hB0))
  replace HS := hid (HS.out.trans (Stays.below hdr))
  have hB1 : B ≤ wd.heap.size := by omega
  clear hB0
  have hB0 := hB1
  clear hdr hdz hwd
  clear c0 c2
  go_wp2_with fail
  rw [HPC.out]
  refine (wstr B wb (l) ([102, 111, 114, 32, 40, 108, 101, 116, 32] ++ t ++ [32, 111, 102, 32]) _ WT.out (by (try simp only [ln] at hl); (try simp only [ln]); omega) hB0).mono ?_
  rintro e w1 ⟨⟨v, rfl⟩, hw, hb, hs⟩
  replace WT := hid hw
  replace NB := st hs NB HNENB
  replace HU := hid (HU.out.trans hb)
  replace HS := hid (HS.out.trans hs)
  replace hB0 := Nat.le_trans hB0 hb.size
  clear hw hb hs
  obtain ⟨k0, k1, k2, k3⟩ := HC0.out w1 HU.out
  simp at k0 k1 k2 k3
  have c3 := NB.out.cell 3
  simp [nc] at c3
  go_wp2_with fail
  refine (IH.any HW0.out.1 HW0.out.2 HR0.out (HN0.out.belowB HU.out) WT.out hB0 h7 (HE.out.below HU.out h7) (by (try simp only [ln] at hl); (try simp only [ln]); omega)).mono ?_
  rintro e w2 ⟨rfl, hw, hb, hs⟩
  clear k0 k1 k2 k3 c3
  replace WT := hid hw
  replace NB := st hs NB HNENB
  replace HU := hid (HU.out.trans hb)
  replace HS := hid (HS.out.trans hs)
  replace hB0 := Nat.le_trans hB0 hb.size
  clear hw hb hs
  go_wp2_with fail
  refine (wstr B wb (l ++ ([102, 111, 114, 32, 40, 108, 101, 116, 32] ++ t ++ [32, 111, 102, 32]) ++ Wri.wr x0 (.at (-2))) [41, 32] _ WT.out (by (try simp only [ln] at hl); (try simp only [ln]); omega) hB0).mono ?_
  rintro e w3 ⟨⟨v, rfl⟩, hw, hb, hs⟩
  replace WT := hid hw
  replace NB := st hs NB HNENB
  replace HU := hid (HU.out.trans hb)
  replace HS := hid (HS.out.trans hs)
  replace hB0 := Nat.le_trans hB0 hb.size
  clear hw hb hs
  obtain ⟨k0, k1, k2, k3⟩ := HC1.out w3 HU.out
  have kk0 : w3.cell? ⟨g0, o0 + 4, none⟩ = some (.int .i64 x1.kind) := by simpa [Nat.add_assoc] using k0
  have kk1 : w3.cell? ⟨g0, o0 + 5, none⟩ = some b1 := by simpa [Nat.add_assoc] using k1
  have kk2 : w3.cell? ⟨g0, o0 + 6, none⟩ = some c1 := by simpa [Nat.add_assoc] using k2
  have kk3 : w3.cell? ⟨g0, o0 + 7, none⟩ = some d1 := by simpa [Nat.add_assoc] using k3
  have c3 := NB.out.cell 3
  simp [nc] at c3
  go_wp2_with fail
  refine (IH.block HW1.out.1 HW1.out.2 HR1.out (HN1.out.belowB HU.out) WT.out hB0 h7 (HE.out.below HU.out h7) (by (try simp only [ln] at hl); (try simp only [ln]); omega)).mono ?_
  rintro e w4 ⟨rfl, hw, hb, hs⟩
  clear k0 k1 k2 k3 kk0 kk1 kk2 kk3 c3
  replace WT := hid hw
  replace NB := st hs NB HNENB
  replace HU := hid (HU.out.trans hb)
  replace HS := hid (HS.out.trans hs)
  replace hB0 := Nat.le_trans hB0 hb.size
  clear hw hb hs
  go_wp2
  go_end0
  exact ⟨rfl, by rw [wr_st24 nu t kl x0 x1 HX0.out HX1.out]; simpa [List.append_assoc] using WT.out, HU.out, HS.out⟩
 by_cases y25 : k = 25
 ·subst y25
  by_cases hlen : kl.length = 0
  ·have hl2 : l.length + ([114, 101, 116, 117, 114, 110] ++ [59] : List UInt8).length ≤ 70368744177664 := by rw [← wr_st25a nu t kl hlen]; exact hl
   clear hl
   have hl := hl2
   clear hl2
   have HLN := hid hlen
   obtain rfl : kl = [] := List.length_eq_zero_iff.1 hlen
   go_enter Tryz.func20, Tryz.ntmps20
   go_upto_region 1 with fail
   refine gen_world (F := fun W => Box W w.heap.size 24 (nc 25 nu t (.slice A ([] : List Pars.Node).length cap)) ∧ Below w.heap.size w W) ⟨Box.new w _ _, below1 w _⟩ ?_
   rintro W0 ⟨b0, hU⟩
   have NB := hid b0
   have WT := hid (hW.below hU)
   have HU : Hid (Below B w W0) := hid (hU.mono hBw)
   have HS : Hid (Stays wb w W0) := hid (Stays.below hU)
   have hB0 : B ≤ W0.heap.size := Nat.le_trans hBw hU.size
   have hnw : w.heap.size ≠ wb := by omega
   have hbx := Nat.lt_of_lt_of_le b0.lt (Nat.le_refl _)
   clear b0 hU
   have HNENB := hid hnw
   have c0 := NB.out.cell 0
   simp [nc] at c0
   go_upto_region 21 with fail
   clear c0
   go_wp2_with fail
   refine (wstr B wb (l) [114, 101, 116, 117, 114, 110] _ WT.out (by (try simp only [ln] at hl); (try simp only [ln]); omega) hB0).mono ?_
   rintro e w1 ⟨⟨v, rfl⟩, hw, hb, hs⟩
   replace WT := hid hw
   replace NB := st hs NB HNENB
   replace HU := hid (HU.out.trans hb)
   replace HS := hid (HS.out.trans hs)
   replace hB0 := Nat.le_trans hB0 hb.size
   clear hw hb hs
   have c3 := NB.out.cell 3
   simp [nc] at c3
   go_upto_region 25 with fail
   clear c3
   go_wp2_with fail
   refine (wbyte B wb (l ++ [114, 101, 116, 117, 114, 110]) 59 _ WT.out (by (try simp only [ln] at hl); (try simp only [ln]); omega) hB0).mono ?_
   rintro e w2 ⟨rfl, hw, hb, hs⟩
   replace WT := hid hw
   replace NB := st hs NB HNENB
   replace HU := hid (HU.out.trans hb)
   replace HS := hid (HS.out.trans hs)
   replace hB0 := Nat.le_trans hB0 hb.size
   clear hw hb hs
   go_wp2
   go_end0
   exact ⟨rfl, by rw [wr_st25a nu t [] rfl]; simpa [List.append_assoc] using WT.out, HU.out, HS.out⟩
  ·have hlen1 : kl.length = 1 := by have := (ri_len hR).2.2.2.2.2.2.1 rfl; omega
   have hlen : kl.length = 1 := hlen1
   obtain ⟨x0, hx0⟩ : ∃ x, kl[0]? = some x := ⟨_, List.getElem?_eq_getElem (by omega)⟩
   obtain ⟨g0, o0, rfl, hg0, _, _⟩ := HROW.out (by omega)
   obtain ⟨b0, c0, d0, hn0, hc0⟩ := kid4 HK.out HROW.out hx0
   have HN0 := hid hn0
   have HC0 := hid hc0
   have HX0 := hid hx0
   have HR0 := hid (ri_kid hR x0 (List.mem_of_getElem? hx0))
   have hxw0 := Wri.wg_mem (List.mem_of_getElem? hx0)
   have HW0 : Hid (Wri.wg x0 ≤ N ∧ Wri.wg x0 ≤ 1048576) := hid (by simp only [Wri.wg] at hN hM; exact ⟨by omega, by omega⟩)
   clear hn0 hc0 hx0 hxw0
   rw [wr_st25b nu t kl x0 HX0.out hlen1] at hl
   have HLN := hid hlen1
   go_enter Tryz.func20, Tryz.ntmps20
   go_upto_region 1 with fail
   refine gen_world (F := fun W => Box W w.heap.size 24 (nc 25 nu t (.slice (some ⟨g0, o0, none⟩) 1 cap)) ∧ Below w.heap.size w W) ⟨Box.new w _ _, below1 w _⟩ ?_
   rintro W0 ⟨b0, hU⟩
   have NB := hid b0
   have WT := hid (hW.below hU)
   have HU : Hid (Below B w W0) := hid (hU.mono hBw)
   have HS : Hid (Stays wb w W0) := hid (Stays.below hU)
   have hB0 : B ≤ W0.heap.size := Nat.le_trans hBw hU.size
   have hnw : w.heap.size ≠ wb := by omega
   have hbx := Nat.lt_of_lt_of_le b0.lt (Nat.le_refl _)
   clear b0 hU
   have HNENB := hid hnw
   have c0 := NB.out.cell 0
   simp [nc] at c0
   go_upto_region 21 with fail
   clear c0
   go_wp2_with fail
   refine (wstr B wb (l) [114, 101, 116, 117, 114, 110] _ WT.out (by (try simp only [ln] at hl); (try simp only [ln]); omega) hB0).mono ?_
   rintro e w1 ⟨⟨v, rfl⟩, hw, hb, hs⟩
   replace WT := hid hw
   replace NB := st hs NB HNENB
   replace HU := hid (HU.out.trans hb)
   replace HS := hid (HS.out.trans hs)
   replace hB0 := Nat.le_trans hB0 hb.size
   clear hw hb hs
   have c3 := NB.out.cell 3
   simp [nc] at c3
   go_upto_region 23 with fail
   clear c3
   go_wp2_with fail
   refine (wbyte B wb (l ++ [114, 101, 116, 117, 114, 110]) 32 _ WT.out (by (try simp only [ln] at hl); (try simp only [ln]); omega) hB0).mono ?_
   rintro e w2 ⟨rfl, hw, hb, hs⟩
   replace WT := hid hw
   replace NB := st hs NB HNENB
   replace HU := hid (HU.out.trans hb)
   replace HS := hid (HS.out.trans hs)
   replace hB0 := Nat.le_trans hB0 hb.size
   clear hw hb hs
   obtain ⟨k0, k1, k2, k3⟩ := HC0.out w2 HU.out
   simp at k0 k1 k2 k3
   have c3 := NB.out.cell 3
   simp [nc] at c3
   go_wp2_with fail
   refine (IH.any HW0.out.1 HW0.out.2 HR0.out (HN0.out.belowB HU.out) WT.out hB0 h7 (HE.out.below HU.out h7) (by (try simp only [ln] at hl); (try simp only [ln]); omega)).mono ?_
   rintro e w3 ⟨rfl, hw, hb, hs⟩
   clear k0 k1 k2 k3 c3
   replace WT := hid hw
   replace NB := st hs NB HNENB
   replace HU := hid (HU.out.trans hb)
   replace HS := hid (HS.out.trans hs)
   replace hB0 := Nat.le_trans hB0 hb.size
   clear hw hb hs
   go_wp2_with fail
   refine (wbyte B wb (l ++ [114, 101, 116, 117, 114, 110] ++ [32] ++ Wri.wr x0 (.at (-2))) 59 _ WT.out (by (try simp only [ln] at hl); (try simp only [ln]); omega) hB0).mono ?_
   rintro e w4 ⟨rfl, hw, hb, hs⟩
   replace WT := hid hw
   replace NB := st hs NB HNENB
   replace HU := hid (HU.out.trans hb)
   replace HS := hid (HS.out.trans hs)
   replace hB0 := Nat.le_trans hB0 hb.size
   clear hw hb hs
   go_wp2
   go_end0
   exact ⟨rfl, by rw [wr_st25b nu t kl x0 HX0.out HLN.out]; simpa [List.append_assoc] using WT.out, HU.out, HS.out⟩
 by_cases y26 : k = 26
 ·subst y26
  have hl2 : l.length + ([98, 114, 101, 97, 107, 59] : List UInt8).length ≤ 70368744177664 := hl
  clear hl
  have hl := hl2
  clear hl2
  go_enter Tryz.func20, Tryz.ntmps20
  go_upto_region 1 with fail
  refine gen_world (F := fun W => Box W w.heap.size 24 (nc 26 nu t (.slice A kl.length cap)) ∧ Below w.heap.size w W) ⟨Box.new w _ _, below1 w _⟩ ?_
  rintro W0 ⟨b0, hU⟩
  have NB := hid b0
  have WT := hid (hW.below hU)
  have HU : Hid (Below B w W0) := hid (hU.mono hBw)
  have HS : Hid (Stays wb w W0) := hid (Stays.below hU)
  have hB0 : B ≤ W0.heap.size := Nat.le_trans hBw hU.size
  have hnw : w.heap.size ≠ wb := by omega
  have hbx := Nat.lt_of_lt_of_le b0.lt (Nat.le_refl _)
  clear b0 hU
  have HNENB := hid hnw
  have c0 := NB.out.cell 0
  simp [nc] at c0
  go_upto_region 27 with fail
  clear c0
  go_wp2_with fail
  refine (wstr B wb (l) [98, 114, 101, 97, 107, 59] _ WT.out (by (try simp only [ln] at hl); (try simp only [ln]); omega) hB0).mono ?_
  rintro e w1 ⟨⟨v, rfl⟩, hw, hb, hs⟩
  replace WT := hid hw
  replace NB := st hs NB HNENB
  replace HU := hid (HU.out.trans hb)
  replace HS := hid (HS.out.trans hs)
  replace hB0 := Nat.le_trans hB0 hb.size
  clear hw hb hs
  go_wp2
  go_end0
  exact ⟨rfl, WT.out, HU.out, HS.out⟩
 by_cases y27 : k = 27
 ·subst y27
  have hl2 : l.length + ([99, 111, 110, 116, 105, 110, 117, 101, 59] : List UInt8).length ≤ 70368744177664 := hl
  clear hl
  have hl := hl2
  clear hl2
  go_enter Tryz.func20, Tryz.ntmps20
  go_upto_region 1 with fail
  refine gen_world (F := fun W => Box W w.heap.size 24 (nc 27 nu t (.slice A kl.length cap)) ∧ Below w.heap.size w W) ⟨Box.new w _ _, below1 w _⟩ ?_
  rintro W0 ⟨b0, hU⟩
  have NB := hid b0
  have WT := hid (hW.below hU)
  have HU : Hid (Below B w W0) := hid (hU.mono hBw)
  have HS : Hid (Stays wb w W0) := hid (Stays.below hU)
  have hB0 : B ≤ W0.heap.size := Nat.le_trans hBw hU.size
  have hnw : w.heap.size ≠ wb := by omega
  have hbx := Nat.lt_of_lt_of_le b0.lt (Nat.le_refl _)
  clear b0 hU
  have HNENB := hid hnw
  have c0 := NB.out.cell 0
  simp [nc] at c0
  go_upto_region 29 with fail
  clear c0
  go_wp2_with fail
  refine (wstr B wb (l) [99, 111, 110, 116, 105, 110, 117, 101, 59] _ WT.out (by (try simp only [ln] at hl); (try simp only [ln]); omega) hB0).mono ?_
  rintro e w1 ⟨⟨v, rfl⟩, hw, hb, hs⟩
  replace WT := hid hw
  replace NB := st hs NB HNENB
  replace HU := hid (HU.out.trans hb)
  replace HS := hid (HS.out.trans hs)
  replace hB0 := Nat.le_trans hB0 hb.size
  clear hw hb hs
  go_wp2
  go_end0
  exact ⟨rfl, WT.out, HU.out, HS.out⟩
 by_cases y28 : k = 28
 ·subst y28
  have hlen : kl.length = 1 := (ri_len hR).2.2.1 (by simp)
  obtain ⟨x0, hx0⟩ : ∃ x, kl[0]? = some x := ⟨_, List.getElem?_eq_getElem (by omega)⟩
  obtain ⟨g0, o0, rfl, hg0, _, _⟩ := HROW.out (by omega)
  obtain ⟨b0, c0, d0, hn0, hc0⟩ := kid4 HK.out HROW.out hx0
  have HN0 := hid hn0
  have HC0 := hid hc0
  have HX0 := hid hx0
  have HR0 := hid (ri_kid hR x0 (List.mem_of_getElem? hx0))
  have hxw0 := Wri.wg_mem (List.mem_of_getElem? hx0)
  have HW0 : Hid (Wri.wg x0 ≤ N ∧ Wri.wg x0 ≤ 1048576) := hid (by simp only [Wri.wg] at hN hM; exact ⟨by omega, by omega⟩)
  clear hn0 hc0 hx0 hxw0
  rw [wr_st28 nu t kl x0 HX0.out] at hl
  go_enter Tryz.func20, Tryz.ntmps20
  go_upto_region 1 with fail
  refine gen_world (F := fun W => Box W w.heap.size 24 (nc 28 nu t (.slice (some ⟨g0, o0, none⟩) 1 cap)) ∧ Below w.heap.size w W) ⟨Box.new w _ _, below1 w _⟩ ?_
  rintro W0 ⟨b0, hU⟩
  have NB := hid b0
  have WT := hid (hW.below hU)
  have HU : Hid (Below B w W0) := hid (hU.mono hBw)
  have HS : Hid (Stays wb w W0) := hid (Stays.below hU)
  have hB0 : B ≤ W0.heap.size := Nat.le_trans hBw hU.size
  have hnw : w.heap.size ≠ wb := by omega
  have hbx := Nat.lt_of_lt_of_le b0.lt (Nat.le_refl _)
  clear b0 hU
  have HNENB := hid hnw
  have c0 := NB.out.cell 0
  simp [nc] at c0
  go_upto_region 31 with fail
  clear c0
  go_wp2_with fail
  refine (wstr B wb (l) [116, 104, 114, 111, 119, 32] _ WT.out (by (try simp only [ln] at hl); (try simp only [ln]); omega) hB0).mono ?_
  rintro e w1 ⟨⟨v, rfl⟩, hw, hb, hs⟩
  replace WT := hid hw
  replace NB := st hs NB HNENB
  replace HU := hid (HU.out.trans hb)
  replace HS := hid (HS.out.trans hs)
  replace hB0 := Nat.le_trans hB0 hb.size
  clear hw hb hs
  obtain ⟨k0, k1, k2, k3⟩ := HC0.out w1 HU.out
  simp at k0 k1 k2 k3
  have c3 := NB.out.cell 3
  simp [nc] at c3
  go_wp2_with fail
  refine (IH.any HW0.out.1 HW0.out.2 HR0.out (HN0.out.belowB HU.out) WT.out hB0 h7 (HE.out.below HU.out h7) (by (try simp only [ln] at hl); (try simp only [ln]); omega)).mono ?_
  rintro e w2 ⟨rfl, hw, hb, hs⟩
  clear k0 k1 k2 k3 c3
  replace WT := hid hw
  replace NB := st hs NB HNENB
  replace HU := hid (HU.out.trans hb)
  replace HS := hid (HS.out.trans hs)
  replace hB0 := Nat.le_trans hB0 hb.size
  clear hw hb hs
  go_wp2_with fail
  refine (wbyte B wb (l ++ [116, 104, 114, 111, 119, 32] ++ Wri.wr x0 (.at (-2))) 59 _ WT.out (by (try simp only [ln] at hl); (try simp only [ln]); omega) hB0).mono ?_
  rintro e w3 ⟨rfl, hw, hb, hs⟩
  replace WT := hid hw
  replace NB := st hs NB HNENB
  replace HU := hid (HU.out.trans hb)
  replace HS := hid (HS.out.trans hs)
  replace hB0 := Nat.le_trans hB0 hb.size
  clear hw hb hs
  go_wp2
  go_end0
  exact ⟨rfl, by rw [wr_st28 nu t kl x0 HX0.out]; simpa [List.append_assoc] using WT.out, HU.out, HS.out⟩
 by_cases y29 : k = 29
 ·subst y29
  have INF : (Tryz.prog.info? 24).map (·.size) = some (nc 29 nu t (.slice A kl.length cap)).size := info_nod
  go_enter Tryz.func20, Tryz.ntmps20
  go_upto_region 1 with fail
  refine gen_world (F := fun W => Box W w.heap.size 24 (nc 29 nu t (.slice A kl.length cap)) ∧ Below w.heap.size w W) ⟨Box.new w _ _, below1 w _⟩ ?_
  rintro W0 ⟨b0, hU⟩
  have NB := hid b0
  have WT := hid (hW.below hU)
  have HU : Hid (Below B w W0) := hid (hU.mono hBw)
  have HS : Hid (Stays wb w W0) := hid (Stays.below hU)
  have hB0 : B ≤ W0.heap.size := Nat.le_trans hBw hU.size
  have hnw : w.heap.size ≠ wb := by omega
  have hbx := Nat.lt_of_lt_of_le b0.lt (Nat.le_refl _)
  clear b0 hU
  have HNENB := hid hnw
  have c0 := NB.out.cell 0
  simp [nc] at c0
  go_wp2_with (refine wpList_load_row rfl 24 (.tmp 3) rfl w.heap.size rfl _ (nc 29 nu t (.slice A kl.length cap)) (0, 0) _ NB.out Tryz.underlying24 rfl INF ?_)
  refine (TR hN hM hR rfl (HN.out.belowB HU.out) WT.out hB0 h7 (HE.out.below HU.out h7) hl).mono ?_
  rintro e w2 ⟨rfl, hw, hb, hs⟩
  go_wp2
  go_end0
  exact ⟨rfl, hw, HU.out.trans hb, HS.out.trans hs⟩
 by_cases y30 : k = 30
 ·subst y30
  have INF : (Tryz.prog.info? 24).map (·.size) = some (nc 30 nu t (.slice A kl.length cap)).size := info_nod
  go_enter Tryz.func20, Tryz.ntmps20
  go_upto_region 1 with fail
  refine gen_world (F := fun W => Box W w.heap.size 24 (nc 30 nu t (.slice A kl.length cap)) ∧ Below w.heap.size w W) ⟨Box.new w _ _, below1 w _⟩ ?_
  rintro W0 ⟨b0, hU⟩
  have NB := hid b0
  have WT := hid (hW.below hU)
  have HU : Hid (Below B w W0) := hid (hU.mono hBw)
  have HS : Hid (Stays wb w W0) := hid (Stays.below hU)
  have hB0 : B ≤ W0.heap.size := Nat.le_trans hBw hU.size
  have hnw : w.heap.size ≠ wb := by omega
  have hbx := Nat.lt_of_lt_of_le b0.lt (Nat.le_refl _)
  clear b0 hU
  have HNENB := hid hnw
  have c0 := NB.out.cell 0
  simp [nc] at c0
  go_wp2_with (refine wpList_load_row rfl 24 (.tmp 3) rfl w.heap.size rfl _ (nc 30 nu t (.slice A kl.length cap)) (0, 0) _ NB.out Tryz.underlying24 rfl INF ?_)
  refine (BL hN hM hR (HN.out.belowB HU.out) WT.out hB0 h7 (HE.out.below HU.out h7) hl).mono ?_
  rintro e w2 ⟨rfl, hw, hb, hs⟩
  go_wp2
  go_end0
  exact ⟨rfl, hw, HU.out.trans hb, HS.out.trans hs⟩
 by_cases y31 : k = 31
 ·subst y31
  have hlen : kl.length = 1 := (ri_len hR).2.2.1 (by simp)
  obtain ⟨x0, hx0⟩ : ∃ x, kl[0]? = some x := ⟨_, List.getElem?_eq_getElem (by omega)⟩
  obtain ⟨g0, o0, rfl, hg0, _, _⟩ := HROW.out (by omega)
  obtain ⟨b0, c0, d0, hn0, hc0⟩ := kid4 HK.out HROW.out hx0
  have HN0 := hid hn0
  have HC0 := hid hc0
  have HX0 := hid hx0
  have HR0 := hid (ri_kid hR x0 (List.mem_of_getElem? hx0))
  have hxw0 := Wri.wg_mem (List.mem_of_getElem? hx0)
  have HW0 : Hid (Wri.wg x0 ≤ N ∧ Wri.wg x0 ≤ 1048576) := hid (by simp only [Wri.wg] at hN hM; exact ⟨by omega, by omega⟩)
  clear hn0 hc0 hx0 hxw0
  rw [wr_st31 nu t kl x0 HX0.out] at hl
  go_enter Tryz.func20, Tryz.ntmps20
  go_upto_region 1 with fail
  refine gen_world (F := fun W => Box W w.heap.size 24 (nc 31 nu t (.slice (some ⟨g0, o0, none⟩) 1 cap)) ∧ Below w.heap.size w W) ⟨Box.new w _ _, below1 w _⟩ ?_
  rintro W0 ⟨b0, hU⟩
  have NB := hid b0
  have WT := hid (hW.below hU)
  have HU : Hid (Below B w W0) := hid (hU.mono hBw)
  have HS : Hid (Stays wb w W0) := hid (Stays.below hU)
  have hB0 : B ≤ W0.heap.size := Nat.le_trans hBw hU.size
  have hnw : w.heap.size ≠ wb := by omega
  have hbx := Nat.lt_of_lt_of_le b0.lt (Nat.le_refl _)
  clear b0 hU
  have HNENB := hid hnw
  have c0 := NB.out.cell 0
  simp [nc] at c0
  obtain ⟨k0, k1, k2, k3⟩ := HC0.out W0 HU.out
  simp at k0 k1 k2 k3
  have c3 := NB.out.cell 3
  simp [nc] at c3
  go_wp2_with fail
  refine (front_any HR0.out (HN0.out.belowB HU.out)).mono ?_
  rintro e w1 ⟨rfl, hq⟩
  clear k0 k1 k2 k3 c3 c0
  replace WT := hid (WT.out.below hq)
  replace NB := bl NB hq
  replace HU := hid (HU.out.trans (hq.mono hB0))
  replace HS := hid (HS.out.trans (Stays.below hq))
  replace hB0 := Nat.le_trans hB0 hq.size
  clear hq
  obtain ⟨f, hf⟩ : ∃ f, Wri.front x0 = f := ⟨_, rfl⟩
  rw [hf] at hl ⊢
  have HF := hid hf
  clear hf
  by_cases h7f : f = 7
  ·have hc : f = 7 ∨ f = 9 := .inl h7f
   rw [if_pos hc] at hl
   have HC := hid hc
   clear hc
   have g7 : (f == 7) = true := by rw [h7f]; rfl
   go_upto_region 41 with fail
   go_wp2_with fail
   refine (wbyte B wb (l) 40 _ WT.out (by (try simp only [ln] at hl); (try simp only [ln]); omega) hB0).mono ?_
   rintro e w2 ⟨rfl, hw, hb, hs⟩
   replace WT := hid hw
   replace NB := st hs NB HNENB
   replace HU := hid (HU.out.trans hb)
   replace HS := hid (HS.out.trans hs)
   replace hB0 := Nat.le_trans hB0 hb.size
   clear hw hb hs
   obtain ⟨k0, k1, k2, k3⟩ := HC0.out w2 HU.out
   simp at k0 k1 k2 k3
   have c3 := NB.out.cell 3
   simp [nc] at c3
   go_wp2_with fail
   refine (IH.any HW0.out.1 HW0.out.2 HR0.out (HN0.out.belowB HU.out) WT.out hB0 h7 (HE.out.below HU.out h7) (by (try simp only [ln] at hl); (try simp only [ln]); omega)).mono ?_
   rintro e w3 ⟨rfl, hw, hb, hs⟩
   clear k0 k1 k2 k3 c3
   replace WT := hid hw
   replace NB := st hs NB HNENB
   replace HU := hid (HU.out.trans hb)
   replace HS := hid (HS.out.trans hs)
   replace hB0 := Nat.le_trans hB0 hb.size
   clear hw hb hs
   go_wp2_with fail
   refine (wbyte B wb (l ++ [40] ++ Wri.wr x0 (.at (-2))) 41 _ WT.out (by (try simp only [ln] at hl); (try simp only [ln]); omega) hB0).mono ?_
   rintro e w4 ⟨rfl, hw, hb, hs⟩
   replace WT := hid hw
   replace NB := st hs NB HNENB
   replace HU := hid (HU.out.trans hb)
   replace HS := hid (HS.out.trans hs)
   replace hB0 := Nat.le_trans hB0 hb.size
   clear hw hb hs
   go_wp2_with fail
   refine (wbyte B wb (l ++ [40] ++ Wri.wr x0 (.at (-2)) ++ [41]) 59 _ WT.out (by (try simp only [ln] at hl); (try simp only [ln]); omega) hB0).mono ?_
   rintro e w5 ⟨rfl, hw, hb, hs⟩
   replace WT := hid hw
   replace NB := st hs NB HNENB
   replace HU := hid (HU.out.trans hb)
   replace HS := hid (HS.out.trans hs)
   replace hB0 := Nat.le_trans hB0 hb.size
   clear hw hb hs
   go_wp2
   go_end0
   exact ⟨rfl, by rw [wr_st31 nu t kl x0 HX0.out, HF.out, if_pos HC.out]; simpa [List.append_assoc] using WT.out, HU.out, HS.out⟩
  by_cases h9f : f = 9
  ·have hc : f = 7 ∨ f = 9 := .inr h9f
   rw [if_pos hc] at hl
   have HC := hid hc
   clear hc
   have g7 : (f == 7) = false := bn h7f
   have g9 : (f == 9) = true := by rw [h9f]; rfl
   go_upto_region 41 with fail
   go_wp2_with fail
   refine (wbyte B wb (l) 40 _ WT.out (by (try simp only [ln] at hl); (try simp only [ln]); omega) hB0).mono ?_
   rintro e w2 ⟨rfl, hw, hb, hs⟩
   replace WT := hid hw
   replace NB := st hs NB HNENB
   replace HU := hid (HU.out.trans hb)
   replace HS := hid (HS.out.trans hs)
   replace hB0 := Nat.le_trans hB0 hb.size
   clear hw hb hs
   obtain ⟨k0, k1, k2, k3⟩ := HC0.out w2 HU.out
   simp at k0 k1 k2 k3
   have c3 := NB.out.cell 3
   simp [nc] at c3
   go_wp2_with fail
   refine (IH.any HW0.out.1 HW0.out.2 HR0.out (HN0.out.belowB HU.out) WT.out hB0 h7 (HE.out.below HU.out h7) (by (try simp only [ln] at hl); (try simp only [ln]); omega)).mono ?_
   rintro e w3 ⟨rfl, hw, hb, hs⟩
   clear k0 k1 k2 k3 c3
   replace WT := hid hw
   replace NB := st hs NB HNENB
   replace HU := hid (HU.out.trans hb)
   replace HS := hid (HS.out.trans hs)
   replace hB0 := Nat.le_trans hB0 hb.size
   clear hw hb hs
   go_wp2_with fail
   refine (wbyte B wb (l ++ [40] ++ Wri.wr x0 (.at (-2))) 41 _ WT.out (by (try simp only [ln] at hl); (try simp only [ln]); omega) hB0).mono ?_
   rintro e w4 ⟨rfl, hw, hb, hs⟩
   replace WT := hid hw
   replace NB := st hs NB HNENB
   replace HU := hid (HU.out.trans hb)
   replace HS := hid (HS.out.trans hs)
   replace hB0 := Nat.le_trans hB0 hb.size
   clear hw hb hs
   go_wp2_with fail
   refine (wbyte B wb (l ++ [40] ++ Wri.wr x0 (.at (-2)) ++ [41]) 59 _ WT.out (by (try simp only [ln] at hl); (try simp only [ln]); omega) hB0).mono ?_
   rintro e w5 ⟨rfl, hw, hb, hs⟩
   replace WT := hid hw
   replace NB := st hs NB HNENB
   replace HU := hid (HU.out.trans hb)
   replace HS := hid (HS.out.trans hs)
   replace hB0 := Nat.le_trans hB0 hb.size
   clear hw hb hs
   go_wp2
   go_end0
   exact ⟨rfl, by rw [wr_st31 nu t kl x0 HX0.out, HF.out, if_pos HC.out]; simpa [List.append_assoc] using WT.out, HU.out, HS.out⟩
  have hc : ¬ (f = 7 ∨ f = 9) := by omega
  rw [if_neg hc] at hl
  have HC := hid hc
  clear hc
  have g7 : (f == 7) = false := bn h7f
  have g9 : (f == 9) = false := bn h9f
  go_upto_region 44 with fail
  obtain ⟨k0, k1, k2, k3⟩ := HC0.out w1 HU.out
  simp at k0 k1 k2 k3
  have c3 := NB.out.cell 3
  simp [nc] at c3
  go_wp2_with fail
  refine (IH.any HW0.out.1 HW0.out.2 HR0.out (HN0.out.belowB HU.out) WT.out hB0 h7 (HE.out.below HU.out h7) (by (try simp only [ln] at hl); (try simp only [ln]); omega)).mono ?_
  rintro e w2 ⟨rfl, hw, hb, hs⟩
  clear k0 k1 k2 k3 c3
  replace WT := hid hw
  replace NB := st hs NB HNENB
  replace HU := hid (HU.out.trans hb)
  replace HS := hid (HS.out.trans hs)
  replace hB0 := Nat.le_trans hB0 hb.size
  clear hw hb hs
  go_wp2_with fail
  refine (wbyte B wb (l ++ Wri.wr x0 (.at (-2))) 59 _ WT.out (by (try simp only [ln] at hl); (try simp only [ln]); omega) hB0).mono ?_
  rintro e w3 ⟨rfl, hw, hb, hs⟩
  replace WT := hid hw
  replace NB := st hs NB HNENB
  replace HU := hid (HU.out.trans hb)
  replace HS := hid (HS.out.trans hs)
  replace hB0 := Nat.le_trans hB0 hb.size
  clear hw hb hs
  go_wp2
  go_end0
  exact ⟨rfl, by rw [wr_st31 nu t kl x0 HX0.out, HF.out, if_neg HC.out]; simpa [List.append_assoc] using WT.out, HU.out, HS.out⟩
 have n20 : (k == 20) = false := bn y20
 have n21 : (k == 21) = false := bn y21
 have n22 : (k == 22) = false := bn y22
 have n23 : (k == 23) = false := bn y23
 have n24 : (k == 24) = false := bn y24
 have n25 : (k == 25) = false := bn y25
 have n26 : (k == 26) = false := bn y26
 have n27 : (k == 27) = false := bn y27
 have n28 : (k == 28) = false := bn y28
 have n29 : (k == 29) = false := bn y29
 have n30 : (k == 30) = false := bn y30
 have n31 : (k == 31) = false := bn y31
 have hl0 : Wri.wr (.mk k nu t kl) .stmt = [] := by show Wri.wStmt k nu t kl (Wri.wrs kl) = []; unfold Wri.wStmt; rw [if_neg y20, if_neg y21, if_neg y22, if_neg y23, if_neg y24, if_neg y25, if_neg y26, if_neg y27, if_neg y28, if_neg y29, if_neg y30, if_neg y31]
 go_enter Tryz.func20, Tryz.ntmps20
 go_upto_region 1 with fail
 refine gen_world (F := fun W => Box W w.heap.size 24 (nc k nu t (.slice A kl.length cap)) ∧ Below w.heap.size w W) ⟨Box.new w _ _, below1 w _⟩ ?_
 rintro W0 ⟨b0, hU⟩
 have NB := hid b0
 have WT := hid (hW.below hU)
 have HU : Hid (Below B w W0) := hid (hU.mono hBw)
 have HS : Hid (Stays wb w W0) := hid (Stays.below hU)
 have hB0 : B ≤ W0.heap.size := Nat.le_trans hBw hU.size
 have hnw : w.heap.size ≠ wb := by omega
 have hbx := Nat.lt_of_lt_of_le b0.lt (Nat.le_refl _)
 clear b0 hU
 have HNENB := hid hnw
 have c0 := NB.out.cell 0
 simp [nc] at c0
 go_wp2
 go_end0
 exact ⟨rfl, by rw [hl0]; simpa using WT.out, HU.out, HS.out⟩
theorem wall : ∀ N, Wall N
 | 0 => by
  have z : ∀ n : Pars.Node, Wri.wg n ≤ 0 → False := fun n h => by cases n; simp [Wri.wg] at h
  exact ⟨fun h => (z _ h).elim, fun h => (z _ h).elim, fun h => (z _ h).elim, fun h => (z _ h).elim, fun h => (z _ h).elim, fun h => (z _ h).elim, fun h => (z _ h).elim, fun h => (z _ h).elim, fun q => fun h => (z _ h).elim⟩
 | N + 1 => by
  have IH := wall N
  have fn := @function_w N IH
  have fst := @first_w N IH fn
  have ex := @ex_w N IH fst
  have at_ := @at_w N ex
  have any := @any_w N at_
  have bl := @block_w N IH
  have ifs := @ifs_w N IH
  have tries := @tries_w N IH
  have st := @stmt_w N IH ifs tries bl
  exact ⟨bl, st, any, ex, fst, fn, ifs, tries, at_⟩
end Go.Proofs.YtonjdlialejedaaGreatDoor
namespace Go.Proofs.YtonjdlialejedaaGreatDoor
open Go.Lib (hid)
open Go.RowKit
theorem right_le : ∀ N, RightLe N
 | 0 => by intro n cs w S fn lp h; cases n; simp [Wri.wg] at h
 | N + 1 => by
  have IH := right_le N
  intro n cs w S fn lp h hb hn he
  obtain ⟨k, nu, t, l⟩ := n
  exact right_step IH k nu t l cs w S fn lp h hb hn he
theorem right_any {n : Pars.Node} {cs : Array Value} {w : World} {S : Nat → Prop} (fn lp : Bool) (hb : Wri.wg n ≤ 70368744177000) (hn : NodeAt w S n cs) (he : EnvW w) :
  Calls Tryz.prog 29 #[.agg cs, .bool fn, .bool lp] w fun e w' => e = .returned (.bool (Wri.right n fn lp)) ∧ Below w.heap.size w w' := right_le _ n cs w S fn lp (Nat.le_refl _) hb hn he
mutual
theorem size_wg : ∀ n : Pars.Node, Pars.size n ≤ Wri.wg n
 | .mk _ _ t l => by simp only [Pars.size, Wri.wg]; have := sizes_wgs l; omega
theorem sizes_wgs : ∀ l : List Pars.Node, Pars.sizes l ≤ Wri.wgs l
 | [] => by simp [Pars.sizes]
 | n :: l => by simp only [Pars.sizes, Wri.wgs]; have := size_wg n; have := sizes_wgs l; omega
end
set_option maxRecDepth 100000 in
set_option maxHeartbeats 4000000 in
theorem check_is {n : Pars.Node} {cs : Array Value} {w : World} {S : Nat → Prop} (hb : Wri.wg n ≤ 70368744177000) (hn : NodeAt w S n cs) (he : EnvW w) :
  Calls Tryz.prog 18 #[.agg cs] w fun e w' => e = .returned (.int .i64 (Wri.check n : Int)) ∧ Below w.heap.size w w' := by
 have hsz := Nat.le_trans (size_wg n) hb
 have hds := Pars.deep_size n
 have HN := hid (NodeAt.keep (S1 := fun _ => True) (w1 := w) (fun _ _ _ => trivial) (Nat.le_refl _) (fun _ _ _ => rfl) hn)
 have HE := hid he
 have hinf : (Tryz.prog.info? 24).map (·.size) = some cs.size := by rw [NodeAt.size hn]; exact info_nod
 have HINF := hid hinf
 have hc0 : cs[0]? = some (.int .i64 n.kind) := by obtain ⟨k, nu, t, l⟩ := n; unfold NodeAt at hn; obtain ⟨A, cap, css, rfl, _⟩ := hn; rfl
 have HC0 := hid hc0
 have HCK : Hid (Wri.check n = if n.kind ≠ 30 ∨ Wri.right n false false = false then 3 else if 40 < Pars.deep n then 2 else 0) := hid rfl
 obtain ⟨k, hk⟩ : ∃ k, n.kind = k := ⟨_, rfl⟩
 obtain ⟨rb, hrb⟩ : ∃ b, Wri.right n false false = b := ⟨_, rfl⟩
 have HRB := hid hrb
 rw [hk] at HC0
 rw [hk, hrb] at HCK
 clear hn he hinf hc0 hk hrb
 go_enter Tryz.func18, Tryz.ntmps18
 go_upto_region 1 with fail
 refine gen_world (F := fun W => Box W w.heap.size 24 cs ∧ Below w.heap.size w W) ⟨Box.new w _ _, below1 w _⟩ ?_
 rintro W0 ⟨b0, hU⟩
 have NB := hid b0
 have HU := hid hU
 have c0 := b0.cell 0
 rw [HC0.out] at c0
 clear b0 hU
 by_cases y : k = 30
 ·subst y
  have nb := NB.out
  go_wp2_with (refine wpList_load_row_g (by kernel_rfl) 24 (.tmp 1) rfl w.heap.size rfl _ cs _ nb Tryz.underlying24 rfl HINF.out ?_)
  refine (right_any false false hb (HN.out.keep (w1 := W0) (S1 := fun _ => True) (fun _ _ _ => trivial) HU.out.size (fun g _ hg => HU.out.block g hg)) (HE.out.below HU.out HE.out.big)).mono ?_
  rw [HRB.out]
  rintro e w1 ⟨rfl, hb1⟩
  have hsz1 := HU.out.size
  replace NB := bl NB hb1
  replace HU := hid (HU.out.trans (hb1.mono hsz1))
  clear hb1 hsz1 nb c0
  cases rb with
  | false =>
   go_wp2
   go_ret
   exact ⟨by rw [HCK.out]; rfl, HU.out⟩
  | true =>
   have nb := NB.out
   go_wp2_with (refine wpList_load_row rfl 24 (.tmp 1) rfl w.heap.size rfl _ cs (0, 0) _ nb Tryz.underlying24 rfl HINF.out ?_)
   refine (deep_any (HN.out.keep (w1 := w1) (S1 := fun _ => True) (fun _ _ _ => trivial) HU.out.size (fun g _ hg => HU.out.block g hg)) (by omega)).mono ?_
   rintro e w2 ⟨rfl, hb2⟩
   have hsz1 := HU.out.size
   replace HU := hid (HU.out.trans (hb2.mono hsz1))
   clear hb2 hsz1 nb
   by_cases z : 40 < Pars.deep n
   ·have d1 : decide ((40 : Int) < (Pars.deep n : Int)) = true := decide_eq_true (by omega)
    have d2 : (40 : Int) < (Pars.deep n : Int) := by omega
    have HZ := hid z
    clear z
    go_wp2
    go_ret
    exact ⟨by rw [HCK.out, if_neg (by simp), if_pos HZ.out]; rfl, HU.out⟩
   ·have d1 : decide ((40 : Int) < (Pars.deep n : Int)) = false := decide_eq_false (by omega)
    have d2 : ¬ (40 : Int) < (Pars.deep n : Int) := by omega
    have HZ := hid z
    clear z
    go_wp2
    go_ret
    exact ⟨by rw [HCK.out, if_neg (by simp), if_neg HZ.out]; rfl, HU.out⟩
 ·have n30 : (k == 30) = false := bn y
  have b30 : (k != 30) = true := by simp [bne, n30]
  have HY := hid y
  clear y
  go_wp2
  go_ret
  exact ⟨by rw [HCK.out, if_pos (.inl HY.out)]; rfl, HU.out⟩
end Go.Proofs.YtonjdlialejedaaGreatDoor
