/-
  Texts that the law leans on: PlF, PlG. Conditions: as each says.
-/
import Derived.Test.YtonjdlialejedaaGreatDoorXBn
import Derived.Test.YtonjdlialejedaaGreatDoorXAd
import Derived.Test.YtonjdlialejedaaGreatDoorXAv
import Derived.Test.YtonjdlialejedaaGreatDoorXAa
set_option linter.unusedSimpArgs false
set_option linter.unusedVariables false
namespace Pars
open Lexy (Tk sg kw nm)
def Ev (nt : Nt) (fn lp : Bool) (l : List Tk) (x : Node) (r : List Tk) : Prop := ∃ F, ∀ G, F ≤ G → run G nt fn lp l = some (x, r)
theorem ev_of {nt : Nt} {fn lp : Bool} {l r : List Tk} {x : Node} (F : Nat) (h : ∀ G, F ≤ G → run (G + 1) nt fn lp l = some (x, r)) : Ev nt fn lp l x r :=
 ⟨F + 1, fun G hG => by obtain ⟨g, rfl⟩ : ∃ g, G = g + 1 := ⟨G - 1, by omega⟩; exact h g (by omega)⟩
theorem Ev.one {nt : Nt} {fn lp : Bool} {l r : List Tk} {x : Node} (h : Ev nt fn lp l x r) : ∃ n, run (n + 1) nt fn lp l = some (x, r) := by
 obtain ⟨F, h⟩ := h; exact ⟨F, h _ (by omega)⟩
theorem is_sg (s : Bs) (l : List Tk) : is s (sg s :: l) = some l := by simp [is, sg]
theorem is_kw (s : Bs) (l : List Tk) : is s (kw s :: l) = some l := by simp [is, kw]
theorem no_sg {s s' : Bs} (h : s' ≠ s) (l : List Tk) : is s (sg s' :: l) = none := by simp [is, sg, h]
theorem no_kw {s s' : Bs} (h : s' ≠ s) (l : List Tk) : is s (kw s' :: l) = none := by simp [is, kw, h]
theorem no_k {t : Tk} (h4 : t.kind ≠ 4) (h5 : t.kind ≠ 5) (s : Bs) (l : List Tk) : is s (t :: l) = none := by simp [is, h4, h5]
theorem named_nm (t : Bs) (l : List Tk) (f : Bs → List Tk → R) : named (nm t :: l) f = f t l := by simp [named, tok, nm]
def fol (r : Nat) : List Bs := (ranks.drop r).flatten ++ [[40], [91], [46]]
def Stop (r : Nat) (m : List Tk) : Prop := ∀ s ∈ fol r, is s m = none
def StopE (m : List Tk) : Prop := Stop 0 m ∧ is [61] m = none ∧ is [63] m = none
theorem Stop.up {r : Nat} {m : List Tk} (h : Stop r m) : Stop (r + 1) m := fun s hs => h s (by
 unfold fol at hs ⊢
 rcases List.mem_append.1 hs with hs | hs
 ·refine List.mem_append_left _ ?_
  rw [List.mem_flatten] at hs ⊢
  obtain ⟨a, ha, hs⟩ := hs
  refine ⟨a, ?_, hs⟩
  rw [← List.drop_drop] at ha
  exact List.mem_of_mem_drop ha
 ·exact List.mem_append_right _ hs)
theorem Stop.le {r q : Nat} {m : List Tk} (h : Stop r m) (hq : r ≤ q) : Stop q m := by
 induction hq with
 | refl => exact h
 | step _ ih => exact ih.up
theorem Stop.rank {r : Nat} {m : List Tk} (h : Stop r m) : ∀ s ∈ ranks.getD r [], is s m = none := fun s hs => h s (by
 unfold fol
 refine List.mem_append_left _ (List.mem_flatten.2 ⟨ranks.getD r [], ?_, hs⟩)
 by_cases hr : r < ranks.length
 ·rw [List.getD_eq_getElem?_getD, List.getElem?_eq_getElem hr, Option.getD_some, List.drop_eq_getElem_cons hr]
  exact List.mem_cons_self
 ·rw [List.getD_eq_getElem?_getD, List.getElem?_eq_none (by omega)] at hs; cases hs)
theorem Stop.post {r : Nat} {m : List Tk} (h : Stop r m) : is [40] m = none ∧ is [91] m = none ∧ is [46] m = none :=
 ⟨h _ (by simp [fol]), h _ (by simp [fol]), h _ (by simp [fol])⟩
theorem stop_sg {r : Nat} {c : Bs} (h : c ∉ fol r) (m : List Tk) : Stop r (sg c :: m) := fun s hs => no_sg (by rintro rfl; exact h hs) m
theorem stopE_sg {c : Bs} (h : c ∉ fol 0) (h1 : c ≠ [61]) (h2 : c ≠ [63]) (m : List Tk) : StopE (sg c :: m) := ⟨stop_sg h m, no_sg h1 m, no_sg h2 m⟩
theorem signs_no {ss : List Bs} {l : List Tk} {f : Bs → List Tk → R} {g : R} (h : ∀ s ∈ ss, is s l = none) : signs ss l f g = g := by
 have : anyOf ss l = none := by
  induction ss with
  | nil => rfl
  | cons s ss ih => unfold anyOf; rw [h s (by simp)]; exact ih fun s' hs => h s' (by simp [hs])
 unfold signs; rw [this]
theorem any_hit {ss : List Bs} {s : Bs} (h : s ∈ ss) (l : List Tk) : anyOf ss (sg s :: l) = some (s, l) := by
 induction ss with
 | nil => cases h
 | cons a ss ih =>
  unfold anyOf
  by_cases e : s = a
  ·subst e; rw [is_sg]
  ·rw [no_sg e]
   rcases List.mem_cons.1 h with h | h
   ·exact absurd h e
   ·exact ih h
theorem signs_hit {ss : List Bs} {s : Bs} {l : List Tk} {f : Bs → List Tk → R} {g : R} (h : s ∈ ss) : signs ss (sg s :: l) f g = f s l := by
 unfold signs; rw [any_hit h]
def starts : List Bs := [wLet, wFn, wIf, wWhile, wFor, wReturn, wBreak, wContinue, wThrow, wTry, wTrue, wFalse, wNull, [33], [45], [40], [91], [123]]
theorem dead_head {t : Tk} {r : List Tk} (hk : t.kind = 4 ∨ t.kind = 5) (ht : t.text ∉ starts) : ∀ n nt fn lp, (nt = .statement ∨ nt = .expression ∨ nt = .cond ∨ (∃ k, nt = .binary k) ∨ nt = .unary ∨ nt = .first ∨ nt = .inner ∨ nt = .block ∨ nt = .param ∨ nt = .pair) → run n nt fn lp (t :: r) = none
 | 0, _, _, _, _ => rfl
 | n + 1, nt, fn, lp, h => by
  have ih := dead_head (r := r) hk ht n
  have hw : ∀ s : Bs, s ∈ starts → is s (t :: r) = none := fun s hs => by
   simp only [is]
   rw [if_neg]
   rintro ⟨_, h⟩
   exact ht (h ▸ hs)
  have k1 : t.kind ≠ 1 := by omega
  have k2 : t.kind ≠ 2 := by omega
  have k3 : t.kind ≠ 3 := by omega
  have hp : ¬ (t.kind = 4 ∧ t.text = [123]) := by rintro ⟨_, h⟩; rw [h] at ht; exact ht (by decide)
  rcases h with rfl | rfl | rfl | ⟨k, rfl⟩ | rfl | rfl | rfl | rfl | rfl | rfl
  ·simp only [run, alt, peek, if_neg hp, hw wLet (by decide), hw wFn (by decide), hw wIf (by decide), hw wWhile (by decide), hw wFor (by decide), hw wReturn (by decide), hw wBreak (by decide), hw wContinue (by decide), hw wThrow (by decide), hw wTry (by decide), ih .expression fn lp (by simp), andThen]
  ·simp only [run, ih .cond fn lp (by simp), andThen]
  ·simp only [run, ih (.binary 0) fn lp (by simp), andThen]
  ·simp only [run, ih .unary fn lp (by simp), ih (.binary (k + 1)) fn lp (by simp), andThen, ite_self]
  ·simp only [run, signs, anyOf, hw [33] (by decide), hw [45] (by decide), ih .first fn lp (by simp), andThen]
  ·simp only [run, alt, tok, if_neg k1, if_neg k2, if_neg k3, hw wTrue (by decide), hw wFalse (by decide), hw wNull (by decide), hw wFn (by decide), hw [91] (by decide), hw [123] (by decide), ih .inner fn lp (by simp)]
  ·simp only [run, must, alt, hw [40] (by decide)]
  ·simp only [run, must, alt, hw [123] (by decide)]
  ·simp only [run, named, tok, if_neg k1]
  ·simp only [run, named, tok, if_neg k1]
theorem is_no {s : Bs} (hs : s ∉ starts) {nt : Nt} {fn lp : Bool} {l r : List Tk} {x : Node} (h : Ev nt fn lp l x r) (hn : nt = .statement ∨ nt = .expression ∨ nt = .cond ∨ (∃ k, nt = .binary k) ∨ nt = .unary ∨ nt = .first ∨ nt = .inner ∨ nt = .block ∨ nt = .param ∨ nt = .pair) : is s l = none := by
 cases hi : is s l with
 | none => rfl
 | some q =>
  obtain ⟨⟨t, rfl, hk, ht⟩, _⟩ := is_some hi
  obtain ⟨n, h⟩ := h.one
  rw [dead_head hk (by rw [ht]; exact hs) _ nt _ _ hn] at h
  cases h
theorem noF_ev {fn lp : Bool} {l r : List Tk} {x : Node} (h : Ev .statement fn lp l x r) : NoF l :=
 ⟨is_no (by decide) h (.inl rfl), is_no (by decide) h (.inl rfl), is_no (by decide) h (.inl rfl)⟩
theorem noF_sg (c : Bs) (h : c ≠ wElse ∧ c ≠ wFinally ∧ c ≠ wCatch) (m : List Tk) : NoF (sg c :: m) := ⟨no_sg h.1 m, no_sg h.2.1 m, no_sg h.2.2 m⟩
theorem first_no {fn lp : Bool} {l r : List Tk} {x : Node} (h : Ev .first fn lp l x r) : ∀ s ∈ [[33], [45]], is s l = none := by
 intro s hs
 cases hi : is s l with
 | none => rfl
 | some q =>
  exfalso
  obtain ⟨⟨t, rfl, hk, ht⟩, _⟩ := is_some hi
  obtain ⟨n, h⟩ := h
  have h := h (n + 1 + 1) (by omega)
  have hw : ∀ s' : Bs, s' ≠ s → is s' (t :: q) = none := fun s' hs' => by
   simp only [is]
   rw [if_neg]
   rintro ⟨_, h⟩
   exact hs' (h.symm.trans ht)
  have k1 : t.kind ≠ 1 := by omega
  have k2 : t.kind ≠ 2 := by omega
  have k3 : t.kind ≠ 3 := by omega
  simp only [List.mem_cons, List.not_mem_nil, or_false] at hs
  have e : ∀ s' : Bs, s' ∈ [wTrue, wFalse, wNull, wFn, [91], [123], [40]] → is s' (t :: q) = none := fun s' h' => hw s' (by
   rintro rfl
   rcases hs with rfl | rfl <;> exact absurd h' (by decide))
  simp only [run, alt, must, tok, if_neg k1, if_neg k2, if_neg k3, e wTrue (by decide), e wFalse (by decide), e wNull (by decide), e wFn (by decide), e [91] (by decide), e [123] (by decide), e [40] (by decide)] at h
  cases h
section
variable {fn lp : Bool} {l m : List Tk} {n : Node}
theorem ev_post (n : Node) (h : Stop 6 m) : Ev (.post n) fn lp m n m := ev_of 0 fun G _ => by
 simp only [run, alt_no h.post.1, alt_no h.post.2.1, alt_no h.post.2.2]
theorem ev_unary {e y : Node} {l' r : List Tk} (h1 : Ev .first fn lp l e l') (h2 : Ev (.post e) fn lp l' y r) : Ev .unary fn lp l y r := by
 have hn := first_no h1
 obtain ⟨F1, h1⟩ := h1
 obtain ⟨F2, h2⟩ := h2
 exact ev_of (max F1 F2) fun G hG => by simp only [run, signs_no hn, and_some (h1 G (by omega)), h2 G (by omega)]
theorem ev_bin6 (h : Ev .unary fn lp l n m) : Ev (.binary 6) fn lp l n m := by
 obtain ⟨F, h⟩ := h
 exact ev_of F fun G hG => by simp only [run, if_true, h G hG]
theorem ev_go (q : Nat) (n : Node) (h : Stop q m) : Ev (.binGo q n) fn lp m n m := ev_of 0 fun G _ => by
 simp only [run, signs_no h.rank]
theorem ev_bin {q : Nat} (hq : q < 6) {e y : Node} {l' r : List Tk} (h1 : Ev (.binary (q + 1)) fn lp l e l') (h2 : Ev (.binGo q e) fn lp l' y r) : Ev (.binary q) fn lp l y r := by
 obtain ⟨F1, h1⟩ := h1
 obtain ⟨F2, h2⟩ := h2
 exact ev_of (max F1 F2) fun G hG => by
  simp only [run]
  rw [if_neg (by omega), and_some (h1 G (by omega)), h2 G (by omega)]
theorem ev_down {q : Nat} (hq : q < 6) (h : Ev (.binary (q + 1)) fn lp l n m) (hs : Stop q m) : Ev (.binary q) fn lp l n m := ev_bin hq h (ev_go q n hs)
theorem ev_ex (h : Ev (.binary 0) fn lp l n m) (hs : StopE m) : Ev .expression fn lp l n m := by
 obtain ⟨F, h⟩ := h
 exact ev_of (F + 1) fun G hG => by
  obtain ⟨g, rfl⟩ : ∃ g, G = g + 1 := ⟨G - 1, by omega⟩
  have hc : run (g + 1) .cond fn lp l = some (n, m) := by simp only [run, and_some (h g (by omega)), alt_no hs.2.2]
  rw [show run (g + 1 + 1) .expression fn lp l = andThen (run (g + 1) .cond fn lp l) fun e l => alt [61] l (fun l => if e.kind = 5 ∨ e.kind = 12 ∨ e.kind = 13 then andThen (run (g + 1) .expression fn lp l) fun v l => some (.mk 19 0 [] [e, v], l) else none) (some (e, l)) from rfl]
  rw [and_some hc, alt_no hs.2.1]
theorem ev_all (h : Ev (.binary 6) fn lp l n m) : ∀ q, q ≤ 6 → Stop q m → Ev (.binary q) fn lp l n m := by
 have : ∀ d, d ≤ 6 → Stop (6 - d) m → Ev (.binary (6 - d)) fn lp l n m := by
  intro d
  induction d with
  | zero => intro _ _; exact h
  | succ d ih =>
   intro hd hs
   refine ev_down (by omega) ?_ hs
   rw [show 6 - (d + 1) + 1 = 6 - d by omega]
   exact ih (by omega) (by rw [show 6 - d = 6 - (d + 1) + 1 by omega]; exact hs.up)
 intro q hq hs
 have := this (6 - q) (by omega) (by rw [show 6 - (6 - q) = q by omega]; exact hs)
 rwa [show 6 - (6 - q) = q by omega] at this
theorem ev_up (h : Ev .first fn lp l n m) (hs : StopE m) : Ev .expression fn lp l n m :=
 ev_ex (ev_all (ev_bin6 (ev_unary h (ev_post n (hs.1.le (by omega))))) 0 (by omega) hs.1) hs
theorem ev_inner {l' : List Tk} (h : Ev .expression fn lp l n (sg [41] :: m)) : Ev .inner fn lp (sg [40] :: l) n m := by
 obtain ⟨F, h⟩ := h
 exact ev_of F fun G hG => by simp only [run, must_some (is_sg _ _), and_some (h G hG)]
theorem ev_paren (h : Ev .expression fn lp l n (sg [41] :: m)) : Ev .first fn lp (sg [40] :: l) n m := by
 obtain ⟨F, h⟩ := ev_inner (l' := []) h
 have e : ∀ s : Bs, s ≠ [40] → is s (sg [40] :: l) = none := fun s hs => no_sg (fun h => hs h.symm) l
 exact ev_of F fun G hG => by
  simp only [run]
  simp only [tok, show (sg [40]).kind = 4 from rfl, show ¬ (4 = 2) from by decide, show ¬ (4 = 3) from by decide, show ¬ (4 = 1) from by decide, if_false, alt_no (e wTrue (by decide)), alt_no (e wFalse (by decide)), alt_no (e wNull (by decide)), alt_no (e wFn (by decide)), alt_no (e [91] (by decide)), alt_no (e [123] (by decide)), h G hG]
end
end Pars
namespace Wri
open Pars
open Lexy (Tk sg kw nm)
variable {fn lp : Bool}
def BB (fn lp : Bool) (n : Node) (q : Nat) : Prop := ∀ m, Stop q m → Ev (.binary q) fn lp (tw n (.at q) ++ m) n m
def EvB (fn lp : Bool) (q : Nat) (l : List Tk) (y : Node) (r : List Tk) : Prop := ∃ e l', Ev (.binary (q + 1)) fn lp l e l' ∧ Ev (.binGo q e) fn lp l' y r
def EvU (fn lp : Bool) (l : List Tk) (y : Node) (r : List Tk) : Prop := ∃ e l', Ev .first fn lp l e l' ∧ Ev (.post e) fn lp l' y r
def GO (fn lp : Bool) (n : Node) (q : Nat) : Prop := ∀ m y r, Stop (q + 1) m → Ev (.binGo q n) fn lp m y r → EvB fn lp q (tw n (.at q) ++ m) y r
def PO (fn lp : Bool) (n : Node) : Prop := ∀ m y r, Ev (.post n) fn lp m y r → EvU fn lp (tw n (.at 7) ++ m) y r
structure EX (fn lp : Bool) (n : Node) : Prop where
 post : PO fn lp n
 bin : ∀ q, q ≤ 6 → BB fn lp n q
 go : ∀ q, q < 6 → GO fn lp n q
 ex : ∀ m, StopE m → Ev .expression fn lp (tw n (.at (-2)) ++ m) n m
theorem at_same {n : Node} {q p : Int} (h : q ≤ rank n ↔ p ≤ rank n) : tw n (.at q) = tw n (.at p) := by
 rw [tw_at, tw_at]
 by_cases hq : q ≤ rank n
 ·rw [if_pos hq, if_pos (h.1 hq)]
 ·rw [if_neg hq, if_neg (fun hp => hq (h.2 hp))]
theorem go_of {n : Node} {q : Nat} (hq : q < 6) (hr : (q : Int) ≠ rank n) (h : BB fn lp n (q + 1)) : GO fn lp n q := by
 intro m y r hs hg
 rw [at_same (n := n) (q := (q : Int)) (p := ((q + 1 : Nat) : Int)) (by constructor <;> intro h <;> omega)]
 exact ⟨n, m, h m hs, hg⟩
theorem bin_of {n : Node} {q : Nat} (hq : q < 6) (h : GO fn lp n q) : BB fn lp n q := by
 intro m hs
 obtain ⟨e, l', h1, h2⟩ := h m n m hs.up (ev_go q n hs)
 exact ev_bin hq h1 h2
theorem down_of {n : Node} {k : Nat} (hk : k ≤ 6) (hb : BB fn lp n k) (j : Nat) (hj : ∀ q : Nat, j ≤ q → q < k → (q : Int) ≠ rank n) : ∀ d, d ≤ k → j ≤ k - d → BB fn lp n (k - d) ∧ ∀ q, k - d ≤ q → q < k → GO fn lp n q := by
 intro d
 induction d with
 | zero => intro _ _; exact ⟨hb, fun q h1 h2 => by omega⟩
 | succ d ih =>
  intro hd hjd
  obtain ⟨i1, i2⟩ := ih (by omega) (by omega)
  have e : k - (d + 1) + 1 = k - d := by omega
  have hg : GO fn lp n (k - (d + 1)) := go_of (by omega) (hj _ hjd (by omega)) (by rw [e]; exact i1)
  refine ⟨bin_of (by omega) hg, fun q h1 h2 => ?_⟩
  by_cases hq : q = k - (d + 1)
  ·rw [hq]; exact hg
  ·exact i2 q (by omega) h2
theorem downs {n : Node} {k : Nat} (hk : k ≤ 6) (hb : BB fn lp n k) (j : Nat) (hj : ∀ q : Nat, j ≤ q → q < k → (q : Int) ≠ rank n) : (∀ q, j ≤ q → q ≤ k → BB fn lp n q) ∧ ∀ q, j ≤ q → q < k → GO fn lp n q := by
 refine ⟨fun q h1 h2 => ?_, fun q h1 h2 => ?_⟩
 ·have := (down_of hk hb j hj (k - q) (by omega) (by omega)).1
  rwa [show k - (k - q) = q by omega] at this
 ·exact (down_of hk hb j hj (k - q) (by omega) (by omega)).2 q (by omega) h2
theorem ex_of {n : Node} (hr : 0 ≤ rank n) (h : BB fn lp n 0) : ∀ m, StopE m → Ev .expression fn lp (tw n (.at (-2)) ++ m) n m := by
 intro m hs
 rw [at_same (n := n) (q := -2) (p := ((0 : Nat) : Int)) (by constructor <;> intro h <;> omega)]
 exact ev_ex (h m hs.1) hs
theorem rank_ge (n : Node) : -2 ≤ rank n ∧ rank n ≤ 8 := by
 have hro : ∀ (t : Bs) (ls : List (List Bs)) (i : Nat), -2 ≤ rankOf i ls t ∧ (rankOf i ls t ≤ 8 ∨ rankOf i ls t < i + ls.length) := by
  intro t ls
  induction ls with
  | nil => intro i; simp [rankOf]
  | cons r l ih =>
   intro i
   unfold rankOf
   split
   ·simp; omega
   ·have := ih (i + 1); simp only [List.length_cons]; omega
 unfold rank
 have := hro n.text Pars.ranks 0
 have hl : Pars.ranks.length = 6 := rfl
 repeat' split
 all_goals omega
theorem paren_of {n : Node} {q : Int} (hq : rank n < q) (h : ∀ m, StopE m → Ev .expression fn lp (tw n (.at (-2)) ++ m) n m) (m : List Tk) : Ev .first fn lp (tw n (.at q) ++ m) n m := by
 have hr := rank_ge n
 have e1 : tw n (.at q) = [sg [40]] ++ tw n .ex ++ [sg [41]] := by rw [tw_at, if_neg (by omega)]
 have e2 : tw n (.at (-2)) = tw n .ex := by rw [tw_at, if_pos hr.1]
 have := ev_paren (h (sg [41] :: m) (stopE_sg (by decide) (by decide) (by decide) m))
 rw [e2] at this
 rw [e1]
 simpa using this
theorem post_first {n : Node} (h : ∀ m, Ev .first fn lp (tw n (.at 7) ++ m) n m) : PO fn lp n := fun m y r hp => ⟨n, m, h m, hp⟩
theorem un_post {n : Node} (h : PO fn lp n) (m : List Tk) (hs : Stop 6 m) : Ev .unary fn lp (tw n (.at 7) ++ m) n m := by
 obtain ⟨e, l', h1, h2⟩ := h m n m (ev_post n hs)
 exact ev_unary h1 h2
theorem bb6_post {n : Node} (hr : rank n ≠ 6) (h : PO fn lp n) : BB fn lp n 6 := by
 intro m hs
 rw [at_same (n := n) (q := ((6 : Nat) : Int)) (p := 7) (by constructor <;> intro h <;> omega)]
 exact ev_bin6 (un_post h m hs)
theorem EX.high {n : Node} (hr : 7 ≤ rank n) (h : PO fn lp n) : EX fn lp n := by
 have h6 := bb6_post (by omega) h
 obtain ⟨d1, d2⟩ := downs (Nat.le_refl 6) h6 0 (fun q _ hq => by omega)
 exact ⟨h, fun q hq => d1 q (by omega) hq, fun q hq => d2 q (by omega) hq, ex_of (by omega) (d1 0 (by omega) (by omega))⟩
theorem EX.un {n : Node} (hr : rank n = 6) (h : BB fn lp n 6) : EX fn lp n := by
 obtain ⟨d1, d2⟩ := downs (Nat.le_refl 6) h 0 (fun q _ hq => by omega)
 have hx := ex_of (by omega) (d1 0 (by omega) (by omega))
 exact ⟨post_first (paren_of (by omega) hx), fun q hq => d1 q (by omega) hq, fun q hq => d2 q (by omega) hq, hx⟩
theorem EX.mid {n : Node} {r : Nat} (h6 : r < 6) (hr : rank n = r) (h : GO fn lp n r) : EX fn lp n := by
 obtain ⟨d1, d2⟩ := downs (by omega) (bin_of h6 h) 0 (fun q _ hq => by omega)
 have hx := ex_of (by omega) (d1 0 (by omega) (by omega))
 have hp := post_first (paren_of (n := n) (q := 7) (by omega) hx)
 obtain ⟨u1, u2⟩ := downs (Nat.le_refl 6) (bb6_post (n := n) (by omega) hp) (r + 1) (fun q hq _ => by omega)
 refine ⟨hp, fun q hq => ?_, fun q hq => ?_, hx⟩
 ·by_cases hqr : q ≤ r
  ·exact d1 q (by omega) hqr
  ·exact u1 q (by omega) hq
 ·by_cases hqr : q < r
  ·exact d2 q (by omega) hqr
  ·by_cases e : q = r
   ·rw [e]; exact h
   ·exact u2 q (by omega) hq
theorem EX.low {n : Node} (hr : rank n < 0) (hx : ∀ m, StopE m → Ev .expression fn lp (tw n (.at (-2)) ++ m) n m) : EX fn lp n := by
 have hp := post_first (paren_of (n := n) (q := 7) (by omega) hx)
 obtain ⟨u1, u2⟩ := downs (Nat.le_refl 6) (bb6_post (n := n) (by omega) hp) 0 (fun q hq _ => by omega)
 exact ⟨hp, fun q hq => u1 q (by omega) hq, fun q hq => u2 q (by omega) hq, hx⟩
theorem EX.atom {n : Node} (hr : rank n = 8) (h : ∀ m, Ev .first fn lp (tw n .ex ++ m) n m) : EX fn lp n :=
 .high (by omega) (post_first (by rw [show tw n (.at 7) = tw n .ex by rw [tw_at, if_pos (by omega)]]; exact h))
theorem fol_next : ∀ r, r < 6 → ∀ s ∈ ranks.getD r [], s ∉ fol (r + 1) := by decide
theorem EX.op {n a b : Node} {s : Bs} {r : Nat} (h6 : r < 6) (hs : s ∈ ranks.getD r []) (hr : rank n = r) (he : tw n .ex = tw a (.at (r : Int)) ++ [sg s] ++ tw b (.at ((r + 1 : Nat) : Int))) (hj : joined s a b = n) (ha : EX fn lp a) (hb : EX fn lp b) : EX fn lp n := by
 refine .mid h6 hr ?_
 intro m y q hst hg
 rw [show tw n (.at (r : Int)) = tw n .ex by rw [tw_at, if_pos (by omega)], he]
 simp only [List.append_assoc, List.cons_append, List.nil_append]
 refine ha.go r h6 _ y q (stop_sg (fol_next r h6 s hs) _) ?_
 obtain ⟨F1, h1⟩ := hb.bin (r + 1) (by omega) m hst
 obtain ⟨F2, h2⟩ := hg
 exact ev_of (max F1 F2) fun G hG => by
  simp only [run]
  rw [signs_hit hs, and_some (h1 G (by omega)), hj, h2 G (by omega)]
end Wri
