/-
  Texts that the law leans on: PlG, PlK. Conditions: as each says.
-/
import Derived.Test.YtonjdlialejedaaGreatDoorKBq
import Derived.Test.YtonjdlialejedaaGreatDoorKBo
import Derived.Test.YtonjdlialejedaaGreatDoorKAa
set_option linter.unusedSimpArgs false
set_option linter.unusedVariables false
namespace Wri
open Pars
open Lexy (Tk sg kw nm)
variable {fn lp : Bool}
def BB (fn lp : Bool) (n : Node) (q : Nat) : Prop := ∀ m, Stop q m → Ev (.binary q) fn lp (tw n (.at q) ++ m) n m
def EvB (fn lp : Bool) (q : Nat) (l : List Tk) (y : Node) (r : List Tk) : Prop := ∃ e l', Ev (.binary (q + 1)) fn lp l e l' ∧ Ev (.binGo q e) fn lp l' y r
def EvU (fn lp : Bool) (l : List Tk) (y : Node) (r : List Tk) : Prop := ∃ e l', Ev .first fn lp l e l' ∧ Ev (.post e) fn lp l' y r
def GO (fn lp : Bool) (n : Node) (q : Nat) : Prop := ∀ m y r, Stop (q + 1) m → Ev (.binGo q n) fn lp m y r → EvB fn lp q (tw n (.at q) ++ m) y r
def PO (fn lp : Bool) (n : Node) : Prop := ∀ m y r, Ev (.post n) fn lp m y r → EvU fn lp (tw n (.at 7) ++ m) y r
structure EX (fn lp : Bool) (n : Node) : Prop where
 post : PO fn lp n
 bin : ∀ q, q ≤ 6 → BB fn lp n q
 go : ∀ q, q < 6 → GO fn lp n q
 ex : ∀ m, StopE m → Ev .expression fn lp (tw n (.at (-2)) ++ m) n m
theorem at_same {n : Node} {q p : Int} (h : q ≤ rank n ↔ p ≤ rank n) : tw n (.at q) = tw n (.at p) := by
 rw [tw_at, tw_at]
 by_cases hq : q ≤ rank n
 ·rw [if_pos hq, if_pos (h.1 hq)]
 ·rw [if_neg hq, if_neg (fun hp => hq (h.2 hp))]
theorem go_of {n : Node} {q : Nat} (hq : q < 6) (hr : (q : Int) ≠ rank n) (h : BB fn lp n (q + 1)) : GO fn lp n q := by
 intro m y r hs hg
 rw [at_same (n := n) (q := (q : Int)) (p := ((q + 1 : Nat) : Int)) (by constructor <;> intro h <;> omega)]
 exact ⟨n, m, h m hs, hg⟩
theorem bin_of {n : Node} {q : Nat} (hq : q < 6) (h : GO fn lp n q) : BB fn lp n q := by
 intro m hs
 obtain ⟨e, l', h1, h2⟩ := h m n m hs.up (ev_go q n hs)
 exact ev_bin hq h1 h2
theorem down_of {n : Node} {k : Nat} (hk : k ≤ 6) (hb : BB fn lp n k) (j : Nat) (hj : ∀ q : Nat, j ≤ q → q < k → (q : Int) ≠ rank n) : ∀ d, d ≤ k → j ≤ k - d → BB fn lp n (k - d) ∧ ∀ q, k - d ≤ q → q < k → GO fn lp n q := by
 intro d
 induction d with
 | zero => intro _ _; exact ⟨hb, fun q h1 h2 => by omega⟩
 | succ d ih =>
  intro hd hjd
  obtain ⟨i1, i2⟩ := ih (by omega) (by omega)
  have e : k - (d + 1) + 1 = k - d := by omega
  have hg : GO fn lp n (k - (d + 1)) := go_of (by omega) (hj _ hjd (by omega)) (by rw [e]; exact i1)
  refine ⟨bin_of (by omega) hg, fun q h1 h2 => ?_⟩
  by_cases hq : q = k - (d + 1)
  ·rw [hq]; exact hg
  ·exact i2 q (by omega) h2
theorem downs {n : Node} {k : Nat} (hk : k ≤ 6) (hb : BB fn lp n k) (j : Nat) (hj : ∀ q : Nat, j ≤ q → q < k → (q : Int) ≠ rank n) : (∀ q, j ≤ q → q ≤ k → BB fn lp n q) ∧ ∀ q, j ≤ q → q < k → GO fn lp n q := by
 refine ⟨fun q h1 h2 => ?_, fun q h1 h2 => ?_⟩
 ·have := (down_of hk hb j hj (k - q) (by omega) (by omega)).1
  rwa [show k - (k - q) = q by omega] at this
 ·exact (down_of hk hb j hj (k - q) (by omega) (by omega)).2 q (by omega) h2
theorem ex_of {n : Node} (hr : 0 ≤ rank n) (h : BB fn lp n 0) : ∀ m, StopE m → Ev .expression fn lp (tw n (.at (-2)) ++ m) n m := by
 intro m hs
 rw [at_same (n := n) (q := -2) (p := ((0 : Nat) : Int)) (by constructor <;> intro h <;> omega)]
 exact ev_ex (h m hs.1) hs
theorem rank_ge (n : Node) : -2 ≤ rank n ∧ rank n ≤ 8 := by
 have hro : ∀ (t : Bs) (ls : List (List Bs)) (i : Nat), -2 ≤ rankOf i ls t ∧ (rankOf i ls t ≤ 8 ∨ rankOf i ls t < i + ls.length) := by
  intro t ls
  induction ls with
  | nil => intro i; simp [rankOf]
  | cons r l ih =>
   intro i
   unfold rankOf
   split
   ·simp; omega
   ·have := ih (i + 1); simp only [List.length_cons]; omega
 unfold rank
 have := hro n.text Pars.ranks 0
 have hl : Pars.ranks.length = 6 := rfl
 repeat' split
 all_goals omega
theorem paren_of {n : Node} {q : Int} (hq : rank n < q) (h : ∀ m, StopE m → Ev .expression fn lp (tw n (.at (-2)) ++ m) n m) (m : List Tk) : Ev .first fn lp (tw n (.at q) ++ m) n m := by
 have hr := rank_ge n
 have e1 : tw n (.at q) = [sg [40]] ++ tw n .ex ++ [sg [41]] := by rw [tw_at, if_neg (by omega)]
 have e2 : tw n (.at (-2)) = tw n .ex := by rw [tw_at, if_pos hr.1]
 have := ev_paren (h (sg [41] :: m) (stopE_sg (by decide) (by decide) (by decide) m))
 rw [e2] at this
 rw [e1]
 simpa using this
theorem post_first {n : Node} (h : ∀ m, Ev .first fn lp (tw n (.at 7) ++ m) n m) : PO fn lp n := fun m y r hp => ⟨n, m, h m, hp⟩
theorem un_post {n : Node} (h : PO fn lp n) (m : List Tk) (hs : Stop 6 m) : Ev .unary fn lp (tw n (.at 7) ++ m) n m := by
 obtain ⟨e, l', h1, h2⟩ := h m n m (ev_post n hs)
 exact ev_unary h1 h2
theorem bb6_post {n : Node} (hr : rank n ≠ 6) (h : PO fn lp n) : BB fn lp n 6 := by
 intro m hs
 rw [at_same (n := n) (q := ((6 : Nat) : Int)) (p := 7) (by constructor <;> intro h <;> omega)]
 exact ev_bin6 (un_post h m hs)
theorem EX.high {n : Node} (hr : 7 ≤ rank n) (h : PO fn lp n) : EX fn lp n := by
 have h6 := bb6_post (by omega) h
 obtain ⟨d1, d2⟩ := downs (Nat.le_refl 6) h6 0 (fun q _ hq => by omega)
 exact ⟨h, fun q hq => d1 q (by omega) hq, fun q hq => d2 q (by omega) hq, ex_of (by omega) (d1 0 (by omega) (by omega))⟩
theorem EX.un {n : Node} (hr : rank n = 6) (h : BB fn lp n 6) : EX fn lp n := by
 obtain ⟨d1, d2⟩ := downs (Nat.le_refl 6) h 0 (fun q _ hq => by omega)
 have hx := ex_of (by omega) (d1 0 (by omega) (by omega))
 exact ⟨post_first (paren_of (by omega) hx), fun q hq => d1 q (by omega) hq, fun q hq => d2 q (by omega) hq, hx⟩
theorem EX.mid {n : Node} {r : Nat} (h6 : r < 6) (hr : rank n = r) (h : GO fn lp n r) : EX fn lp n := by
 obtain ⟨d1, d2⟩ := downs (by omega) (bin_of h6 h) 0 (fun q _ hq => by omega)
 have hx := ex_of (by omega) (d1 0 (by omega) (by omega))
 have hp := post_first (paren_of (n := n) (q := 7) (by omega) hx)
 obtain ⟨u1, u2⟩ := downs (Nat.le_refl 6) (bb6_post (n := n) (by omega) hp) (r + 1) (fun q hq _ => by omega)
 refine ⟨hp, fun q hq => ?_, fun q hq => ?_, hx⟩
 ·by_cases hqr : q ≤ r
  ·exact d1 q (by omega) hqr
  ·exact u1 q (by omega) hq
 ·by_cases hqr : q < r
  ·exact d2 q (by omega) hqr
  ·by_cases e : q = r
   ·rw [e]; exact h
   ·exact u2 q (by omega) hq
theorem EX.low {n : Node} (hr : rank n < 0) (hx : ∀ m, StopE m → Ev .expression fn lp (tw n (.at (-2)) ++ m) n m) : EX fn lp n := by
 have hp := post_first (paren_of (n := n) (q := 7) (by omega) hx)
 obtain ⟨u1, u2⟩ := downs (Nat.le_refl 6) (bb6_post (n := n) (by omega) hp) 0 (fun q hq _ => by omega)
 exact ⟨hp, fun q hq => u1 q (by omega) hq, fun q hq => u2 q (by omega) hq, hx⟩
theorem EX.atom {n : Node} (hr : rank n = 8) (h : ∀ m, Ev .first fn lp (tw n .ex ++ m) n m) : EX fn lp n :=
 .high (by omega) (post_first (by rw [show tw n (.at 7) = tw n .ex by rw [tw_at, if_pos (by omega)]]; exact h))
theorem fol_next : ∀ r, r < 6 → ∀ s ∈ ranks.getD r [], s ∉ fol (r + 1) := by decide
theorem EX.op {n a b : Node} {s : Bs} {r : Nat} (h6 : r < 6) (hs : s ∈ ranks.getD r []) (hr : rank n = r) (he : tw n .ex = tw a (.at (r : Int)) ++ [sg s] ++ tw b (.at ((r + 1 : Nat) : Int))) (hj : joined s a b = n) (ha : EX fn lp a) (hb : EX fn lp b) : EX fn lp n := by
 refine .mid h6 hr ?_
 intro m y q hst hg
 rw [show tw n (.at (r : Int)) = tw n .ex by rw [tw_at, if_pos (by omega)], he]
 simp only [List.append_assoc, List.cons_append, List.nil_append]
 refine ha.go r h6 _ y q (stop_sg (fol_next r h6 s hs) _) ?_
 obtain ⟨F1, h1⟩ := hb.bin (r + 1) (by omega) m hst
 obtain ⟨F2, h2⟩ := hg
 exact ev_of (max F1 F2) fun G hG => by
  simp only [run]
  rw [signs_hit hs, and_some (h1 G (by omega)), hj, h2 G (by omega)]
end Wri
namespace Wri
open Go (ln bn)
open Pars
open Lexy (Tk sg kw nm)
def TG (t : Tk) : Prop := (t.kind = 1 → name t.text = true) ∧ (t.kind = 2 → t.num ≤ 9007199254740992) ∧ (t.kind = 5 → t.text ∈ Lexy.kws)
def TGs (l : List Tk) : Prop := ∀ t ∈ l, TG t
def Cw (H : List Tk → Prop) (d : Int) (f : Node → Int) (P : Node → Prop) (p : List Tk → R) : Prop := ∀ l x r, TGs l → H l → p l = some (x, r) → P x ∧ f x + r.length ≤ d + l.length ∧ TGs r
def Tr : List Tk → Prop := fun _ => True
section
variable {H : List Tk → Prop} {d : Int} {f : Node → Int} {P : Node → Prop}
theorem TGs.tail {t : Tk} {l : List Tk} (h : TGs (t :: l)) : TGs l := fun x hx => h x (by simp [hx])
theorem Cw.imp {p : List Tk → R} {H' : List Tk → Prop} (h : Cw H d f P p) (hh : ∀ l, H' l → H l) : Cw H' d f P p := fun l x r ht hl hp => h l x r ht (hh l hl) hp
theorem Cw.weak {p : List Tk → R} {e : Int} {g : Node → Int} {Q : Node → Prop} (h : Cw H d f P p) (hd : ∀ x, P x → d - f x ≤ e - g x) (hq : ∀ x, P x → Q x) : Cw H e g Q p := fun l x r ht hl hp => by
 obtain ⟨h1, h2, h3⟩ := h l x r ht hl hp
 have := hd x h1
 exact ⟨hq x h1, by omega, h3⟩
theorem cw_none : Cw H d f P (fun _ => none) := fun l x r _ _ h => by cases h
theorem cw_pure {x : Node} (hp : P x) (hx : f x ≤ d) : Cw H d f P (fun l => some (x, l)) := fun l y r ht _ h => by
 injection h with h; injection h with h1 h2; subst h1 h2; exact ⟨hp, by omega, ht⟩
theorem cw_alt {s : Bs} {F G : List Tk → R} (hF : (∃ l r, TGs l ∧ H l ∧ is s l = some r) → Cw Tr (d + 1) f P F) (hG : Cw (fun l => H l ∧ is s l = none) d f P G) : Cw H d f P (fun l => alt s l F (G l)) := by
 intro l x r ht hl h
 cases hi : is s l with
 | none => simp only [alt, hi] at h; exact hG l x r ht ⟨hl, hi⟩ h
 | some l' =>
  simp only [alt, hi] at h
  have hc := hF ⟨l, l', ht, hl, hi⟩
  obtain ⟨⟨t, rfl, _⟩, _⟩ := is_some hi
  obtain ⟨h1, h2, h3⟩ := hc l' x r ht.tail trivial h
  exact ⟨h1, by simp only [List.length_cons]; omega, h3⟩
theorem cw_must {s : Bs} {F : List Tk → R} (hF : Cw Tr (d + 1) f P F) : Cw H d f P (fun l => must s l F) := cw_alt (fun _ => hF) cw_none
theorem cw_tok {k : Nat} {F : Tk → List Tk → R} {G : List Tk → R} (hF : ∀ t, TG t → t.kind = k → Cw Tr (d + 1) f P (F t)) (hG : Cw H d f P G) : Cw H d f P (fun l => tok k l F (G l)) := by
 intro l x r ht hl h
 cases l with
 | nil => exact hG [] x r ht hl h
 | cons t l =>
  simp only [tok] at h
  by_cases hk : t.kind = k
  ·rw [if_pos hk] at h
   obtain ⟨h1, h2, h3⟩ := hF t (ht t (by simp)) hk l x r ht.tail trivial h
   exact ⟨h1, by simp only [List.length_cons]; omega, h3⟩
  ·rw [if_neg hk] at h; exact hG _ x r ht hl h
theorem cw_named {F : Bs → List Tk → R} (hF : ∀ s, name s = true → Cw Tr (d + 1) f P (F s)) : Cw H d f P (fun l => named l F) := cw_tok (fun t ht hk => hF t.text (ht.1 hk)) cw_none
theorem cw_and {a : Int} {g : Node → Int} {Q : Node → Prop} {p : List Tk → R} {q : Node → List Tk → R} (hp : Cw H a g Q p) (hq : ∀ x, Q x → Cw Tr (d - a + g x) f P (q x)) : Cw H d f P (fun l => andThen (p l) q) := by
 intro l x r ht hl h
 cases hi : p l with
 | none => simp only [andThen, hi] at h; cases h
 | some y =>
  obtain ⟨y, l1⟩ := y
  simp only [andThen, hi] at h
  obtain ⟨h1, h2, h3⟩ := hp l y l1 ht hl hi
  obtain ⟨h4, h5, h6⟩ := hq y h1 l1 x r h3 trivial h
  exact ⟨h4, by omega, h6⟩
theorem any_mem {ss : List Bs} {s : Bs} {l r : List Tk} (h : anyOf ss l = some (s, r)) : s ∈ ss := by
 induction ss with
 | nil => simp [anyOf] at h
 | cons a ss ih =>
  unfold anyOf at h
  cases hi : is a l with
  | none => rw [hi] at h; simp only at h; exact List.mem_cons_of_mem _ (ih h)
  | some q => rw [hi] at h; injection h with h; injection h with h1 _; rw [h1]; exact List.mem_cons_self
theorem cw_signs {ss : List Bs} {F : Bs → List Tk → R} {G : List Tk → R} (hF : ∀ s ∈ ss, Cw Tr (d + 1) f P (F s)) (hG : Cw H d f P G) : Cw H d f P (fun l => signs ss l F (G l)) := by
 intro l x r ht hl h
 cases hi : anyOf ss l with
 | none => simp only [signs, hi] at h; exact hG l x r ht hl h
 | some y =>
  obtain ⟨s, l'⟩ := y
  simp only [signs, hi] at h
  have hs := any_mem hi
  obtain ⟨⟨t, rfl⟩, _⟩ := any_some hi
  obtain ⟨h1, h2, h3⟩ := hF s hs l' x r ht.tail trivial h
  exact ⟨h1, by simp only [List.length_cons]; omega, h3⟩
theorem cw_peek {s : Bs} {a b : List Tk → R} (ha : Cw H d f P a) (hb : Cw (fun l => H l ∧ ∀ t r, l = t :: r → ¬ (t.kind = 4 ∧ t.text = s)) d f P b) : Cw H d f P (fun l => peek s l (a l) (b l)) := by
 intro l x r ht hl h
 cases l with
 | nil => exact hb [] x r ht ⟨hl, fun t r h => by cases h⟩ h
 | cons t l =>
  simp only [peek] at h
  by_cases hk : t.kind = 4 ∧ t.text = s
  ·rw [if_pos hk] at h; exact ha (t :: l) x r ht hl h
  ·rw [if_neg hk] at h; exact hb (t :: l) x r ht ⟨hl, fun t' r' he => by injection he with h1 _; rw [← h1]; exact hk⟩ h
theorem cw_sep {more : Bool} {F : List Tk → R} (h0 : more = false → Cw H d f P F) (h1 : more = true → Cw Tr (d + 1) f P F) : Cw H d f P (fun l => sep more l F) := by
 cases more
 ·exact h0 rfl
 ·exact cw_must (h1 rfl)
theorem cw_ite {c : Prop} [Decidable c] {p q : List Tk → R} (hp : c → Cw H d f P p) (hq : ¬ c → Cw H d f P q) : Cw H d f P (fun l => if c then p l else q l) := by
 by_cases h : c
 ·simpa [h] using hp h
 ·simpa [h] using hq h
theorem cw_ended {x : Node} (hp : P x) (hx : f x ≤ d + 1) : Cw H d f P (fun l => ended x l) := cw_must (cw_pure hp hx)
end
def cq (q : Int) (x : Node) : Int := (tw x (.at q)).length
def ext (f : Int) : Int := if f = 7 ∨ f = 9 then 2 else 0
def fr (q : Int) (x : Node) : Int := if rank x < q then 0 else front x
def dq (h : Bool) (q : Int) (x : Node) : Int := cq q x + if h then 0 else ext (fr q x)
theorem ext_le (f : Int) : 0 ≤ ext f ∧ ext f ≤ 2 := by unfold ext; split <;> omega
theorem ext0 : ext 0 = 0 := rfl
theorem cq_eq (q : Int) (x : Node) : cq q x = if q ≤ rank x then ((tw x .ex).length : Int) else (tw x .ex).length + 2 := by
 unfold cq; rw [tw_at]
 split
 ·rfl
 ·simp; omega
theorem dq_true (q : Int) (x : Node) : dq true q x = cq q x := by simp [dq]
theorem dq_up (h : Bool) (q p : Int) (hq : q ≤ p) (x : Node) : dq h q x ≤ dq h p x := by
 unfold dq fr
 rw [cq_eq, cq_eq]
 have := ext_le (front x)
 cases h <;> simp only [if_true, if_false, Bool.false_eq_true]
 ·by_cases h1 : rank x < q
  ·rw [if_neg (by omega), if_pos h1, if_neg (by omega), if_pos (by omega)]; omega
  ·rw [if_pos (by omega), if_neg h1]
   by_cases h2 : rank x < p
   ·rw [if_neg (by omega), if_pos h2, ext0]; omega
   ·rw [if_pos (by omega), if_neg h2]; omega
 ·by_cases h1 : q ≤ rank x
  ·rw [if_pos h1]; split <;> omega
  ·rw [if_neg h1, if_neg (by omega)]; omega
theorem dq_inner (h : Bool) (q : Int) (x : Node) : dq h q x ≤ cq (-2) x + 2 := by
 have hr := (rank_ge x).1
 unfold dq fr
 rw [cq_eq, cq_eq, if_pos hr]
 have := ext_le (front x)
 by_cases h1 : rank x < q
 ·rw [if_neg (by omega), if_pos h1, ext0]; cases h <;> simp
 ·rw [if_pos (by omega), if_neg h1]
  cases h <;> simp only [if_true, if_false, Bool.false_eq_true] <;> omega
theorem dq_false_two (x : Node) : dq false (-2) x = cq (-2) x + ext (front x) := by
 have hr := (rank_ge x).1
 have e : fr (-2) x = front x := by unfold fr; rw [if_neg (by omega)]
 unfold dq; rw [e]; simp
theorem dq_high (h : Bool) {x : Node} (hr : 7 ≤ rank x) (q : Int) (hq : q ≤ 7) : dq h q x = dq h 7 x := by
 have e1 : fr q x = front x := by unfold fr; rw [if_neg (by omega)]
 have e2 : fr 7 x = front x := by unfold fr; rw [if_neg (by omega)]
 have e3 : cq q x = ((tw x .ex).length : Int) := by rw [cq_eq, if_pos (by omega)]
 have e4 : cq 7 x = ((tw x .ex).length : Int) := by rw [cq_eq, if_pos (by omega)]
 unfold dq; rw [e1, e2, e3, e4]
def hd (l : List Tk) : Prop := is Pars.wFn l = none ∧ ∀ t r, l = t :: r → ¬ (t.kind = 4 ∧ t.text = [123])
def HH (h : Bool) (l : List Tk) : Prop := h = true ∨ hd l
theorem ranks_mem : ∀ r, r < 6 → ∀ s ∈ Pars.ranks.getD r [], s = [124, 124] ∧ r = 0 ∨ s = [38, 38] ∧ r = 1 ∨ s ∈ binS ∧ rankOf 0 Pars.ranks s = (r : Int) ∧ s ≠ [124, 124] ∧ s ≠ [38, 38] := by decide
theorem joined_is {r : Nat} (hr : r < 6) {s : Bs} (hs : s ∈ Pars.ranks.getD r []) (a b : Node) : rank (joined s a b) = r ∧ tw (joined s a b) .ex = tw a (.at (r : Int)) ++ [sg s] ++ tw b (.at ((r : Int) + 1)) ∧ front (joined s a b) = fr r a ∧
  ∀ fn lp, isE a → Rt fn lp a → isE b → Rt fn lp b → isE (joined s a b) ∧ Rt fn lp (joined s a b) := by
 rcases ranks_mem r hr s hs with ⟨rfl, rfl⟩ | ⟨rfl, rfl⟩ | ⟨h1, h2, h3, h4⟩
 ·exact ⟨rfl, rfl, rfl, fun fn lp h1 h2 h3 h4 => ⟨by simp [joined, isE, Node.kind], .or_ fn lp a b h1 h2 h3 h4⟩⟩
 ·exact ⟨rfl, rfl, rfl, fun fn lp h1 h2 h3 h4 => ⟨by simp [joined, isE, Node.kind], .and_ fn lp a b h1 h2 h3 h4⟩⟩
 ·have e : joined s a b = .mk 15 0 s [a, b] := by unfold joined; rw [if_neg h3, if_neg h4]
  rw [e]
  refine ⟨h2, ?_, ?_, fun fn lp g1 g2 g3 g4 => ⟨by simp [isE, Node.kind], .binary fn lp s a b h1 g1 g2 g3 g4⟩⟩
  ·show tw a (.at (rankOf 0 Pars.ranks s)) ++ [sg s] ++ tw b (.at (rankOf 0 Pars.ranks s + 1)) = _
   rw [h2]
  ·show (if rank a < rankOf 0 Pars.ranks s then 0 else front a) = _
   rw [h2]; rfl
theorem dq_joined (h : Bool) {r : Nat} (hr : r < 6) {s : Bs} (hs : s ∈ Pars.ranks.getD r []) (a b : Node) : dq h r (joined s a b) = dq h r a + 1 + cq ((r : Int) + 1) b := by
 obtain ⟨h1, h2, h3, _⟩ := joined_is hr hs a b
 have hf : fr (r : Int) (joined s a b) = fr r a := by
  rw [show fr (r : Int) (joined s a b) = if rank (joined s a b) < (r : Int) then 0 else front (joined s a b) from rfl, h1, if_neg (by omega), h3]
 unfold dq
 rw [hf, cq_eq, h1, if_pos (by omega), h2]
 unfold cq
 simp only [ln]
 omega
end Wri
