/-
  Texts that the law leans on: ParE, ParK, PmC, PwC. Conditions: as each says.
-/
import Derived.Test.YtonjdlialejedaaGreatDoorSAb
import Derived.Test.YtonjdlialejedaaGreatDoorSAc
import Derived.Test.YtonjdlialejedaaGreatDoorShelfW
import Derived.Test.YtonjdlialejedaaGreatDoorSAa
set_option linter.unusedSimpArgs false
set_option linter.unusedVariables false
namespace Pars
open Lexy (Tk)
theorem is_some {s : Bs} {l r : List Tk} (h : is s l = some r) : (∃ t, l = t :: r ∧ (t.kind = 4 ∨ t.kind = 5) ∧ t.text = s) ∧ ∀ m, is s (l ++ m) = some (r ++ m) := by
 cases l with
 | nil => simp [is] at h
 | cons t l =>
  simp only [is] at h
  by_cases hc : (t.kind = 4 ∨ t.kind = 5) ∧ t.text = s
  ·rw [if_pos hc] at h
   injection h with h
   subst h
   exact ⟨⟨t, rfl, hc⟩, fun m => by simp only [List.cons_append, is]; rw [if_pos hc]⟩
  ·rw [if_neg hc] at h; cases h
theorem is_none {s : Bs} {l : List Tk} (h : is s l = none) (hl : l ≠ []) (m : List Tk) : is s (l ++ m) = none := by
 cases l with
 | nil => exact absurd rfl hl
 | cons t l =>
  simp only [is] at h
  by_cases hc : (t.kind = 4 ∨ t.kind = 5) ∧ t.text = s
  ·rw [if_pos hc] at h; cases h
  ·simp only [List.cons_append, is]
   rw [if_neg hc]
theorem nil_back {u r : List Tk} (h : [] = u ++ r) : r = [] := (List.append_eq_nil_iff.1 h.symm).2
theorem any_some {ss : List Bs} {s : Bs} {l r : List Tk} (h : anyOf ss l = some (s, r)) : (∃ t, l = t :: r) ∧ ∀ m, anyOf ss (l ++ m) = some (s, r ++ m) := by
 induction ss with
 | nil => simp [anyOf] at h
 | cons a ss ih =>
  unfold anyOf at h
  cases hi : is a l with
  | none =>
   rw [hi] at h
   obtain ⟨h1, h2⟩ := ih h
   refine ⟨h1, fun m => ?_⟩
   unfold anyOf
   rw [is_none hi (by obtain ⟨t, rfl⟩ := h1; simp) m]
   exact h2 m
  | some r' =>
   rw [hi] at h
   injection h with h
   injection h with h1 h2
   subst h1 h2
   obtain ⟨⟨t, h3, _⟩, h4⟩ := is_some hi
   exact ⟨⟨t, h3⟩, fun m => by unfold anyOf; rw [h4 m]⟩
theorem any_none {ss : List Bs} {l : List Tk} (h : anyOf ss l = none) (hl : l ≠ []) (m : List Tk) : anyOf ss (l ++ m) = none := by
 induction ss with
 | nil => rfl
 | cons a ss ih =>
  unfold anyOf at h ⊢
  cases hi : is a l with
  | none => rw [hi] at h; rw [is_none hi hl m]; exact ih h
  | some r => rw [hi] at h; cases h
def Good (p : List Tk → R) : Prop := ∀ l x r, p l = some (x, r) → (∃ u, l = u ++ r) ∧ (r ≠ [] → ∀ m, p (l ++ m) = some (x, r ++ m))
theorem good_none : Good (fun _ => none) := fun l x r h => by cases h
theorem good_pure (x : Node) : Good (fun l => some (x, l)) := fun l y r h => by
 injection h with h; injection h with h1 h2; subst h1 h2
 exact ⟨⟨[], rfl⟩, fun _ m => rfl⟩
theorem good_alt {s : Bs} {f g : List Tk → R} (hf : Good f) (hg : Good g) : Good (fun l => alt s l f (g l)) := by
 intro l x r h
 cases hi : is s l with
 | none =>
  simp only [alt, hi] at h
  obtain ⟨⟨u, hu⟩, h2⟩ := hg l x r h
  refine ⟨⟨u, hu⟩, fun hr m => ?_⟩
  simp only [alt, is_none hi (by rintro rfl; exact hr (nil_back hu)) m]
  exact h2 hr m
 | some l' =>
  simp only [alt, hi] at h
  obtain ⟨⟨u, hu⟩, h2⟩ := hf l' x r h
  obtain ⟨⟨t, ht, _⟩, h3⟩ := is_some hi
  refine ⟨⟨t :: u, by rw [ht, hu]; rfl⟩, fun hr m => ?_⟩
  simp only [alt, h3 m]
  exact h2 hr m
theorem good_must {s : Bs} {f : List Tk → R} (hf : Good f) : Good (fun l => must s l f) := good_alt hf good_none
theorem good_tok {k : Nat} {f : Tk → List Tk → R} {g : List Tk → R} (hf : ∀ t, Good (f t)) (hg : Good g) : Good (fun l => tok k l f (g l)) := by
 intro l x r h
 cases l with
 | nil =>
  simp only [tok] at h
  obtain ⟨⟨u, hu⟩, h2⟩ := hg [] x r h
  have : r = [] := nil_back hu
  exact ⟨⟨u, hu⟩, fun hr => absurd this hr⟩
 | cons t l =>
  simp only [tok] at h
  by_cases hk : t.kind = k
  ·rw [if_pos hk] at h
   obtain ⟨⟨u, hu⟩, h2⟩ := hf t l x r h
   refine ⟨⟨t :: u, by rw [hu]; rfl⟩, fun hr m => ?_⟩
   simp only [List.cons_append, tok]
   rw [if_pos hk]
   exact h2 hr m
  ·rw [if_neg hk] at h
   obtain ⟨⟨u, hu⟩, h2⟩ := hg (t :: l) x r h
   refine ⟨⟨u, hu⟩, fun hr m => ?_⟩
   simp only [List.cons_append, tok]
   rw [if_neg hk]
   exact h2 hr m
theorem good_named {f : Bs → List Tk → R} (hf : ∀ s, Good (f s)) : Good (fun l => named l f) := good_tok (fun t => hf t.text) good_none
theorem good_and {p : List Tk → R} {q : Node → List Tk → R} (hp : Good p) (hq : ∀ x, Good (q x)) : Good (fun l => andThen (p l) q) := by
 intro l x r h
 cases hi : p l with
 | none => simp only [andThen, hi] at h; cases h
 | some y =>
  obtain ⟨y, l1⟩ := y
  simp only [andThen, hi] at h
  obtain ⟨⟨u, hu⟩, h2⟩ := hp l y l1 hi
  obtain ⟨⟨u', hu'⟩, h2'⟩ := hq y l1 x r h
  refine ⟨⟨u ++ u', by rw [hu, hu']; simp⟩, fun hr m => ?_⟩
  simp only [andThen, h2 (by rintro rfl; exact hr (nil_back hu')) m]
  exact h2' hr m
theorem good_signs {ss : List Bs} {f : Bs → List Tk → R} {g : List Tk → R} (hf : ∀ s, Good (f s)) (hg : Good g) : Good (fun l => signs ss l f (g l)) := by
 intro l x r h
 cases hi : anyOf ss l with
 | none =>
  simp only [signs, hi] at h
  obtain ⟨⟨u, hu⟩, h2⟩ := hg l x r h
  refine ⟨⟨u, hu⟩, fun hr m => ?_⟩
  simp only [signs, any_none hi (by rintro rfl; exact hr (nil_back hu)) m]
  exact h2 hr m
 | some y =>
  obtain ⟨s, l'⟩ := y
  simp only [signs, hi] at h
  obtain ⟨⟨u, hu⟩, h2⟩ := hf s l' x r h
  obtain ⟨⟨t, ht⟩, h3⟩ := any_some hi
  refine ⟨⟨t :: u, by rw [ht, hu]; rfl⟩, fun hr m => ?_⟩
  simp only [signs, h3 m]
  exact h2 hr m
theorem good_peek {s : Bs} {a b : List Tk → R} (ha : Good a) (hb : Good b) : Good (fun l => peek s l (a l) (b l)) := by
 intro l x r h
 cases l with
 | nil =>
  simp only [peek] at h
  obtain ⟨⟨u, hu⟩, h2⟩ := hb [] x r h
  have : r = [] := nil_back hu
  exact ⟨⟨u, hu⟩, fun hr => absurd this hr⟩
 | cons t l =>
  simp only [peek] at h
  by_cases hk : t.kind = 4 ∧ t.text = s
  ·rw [if_pos hk] at h
   obtain ⟨hu, h2⟩ := ha (t :: l) x r h
   refine ⟨hu, fun hr m => ?_⟩
   simp only [List.cons_append, peek]
   rw [if_pos hk]
   exact h2 hr m
  ·rw [if_neg hk] at h
   obtain ⟨hu, h2⟩ := hb (t :: l) x r h
   refine ⟨hu, fun hr m => ?_⟩
   simp only [List.cons_append, peek]
   rw [if_neg hk]
   exact h2 hr m
theorem good_sep {more : Bool} {f : List Tk → R} (hf : Good f) : Good (fun l => sep more l f) := by
 cases more
 ·exact hf
 ·exact good_must hf
theorem good_ite {c : Prop} [Decidable c] {p q : List Tk → R} (hp : Good p) (hq : Good q) : Good (fun l => if c then p l else q l) := by
 by_cases h : c
 ·simpa [h] using hp
 ·simpa [h] using hq
theorem good_ended (x : Node) : Good (fun l => ended x l) := good_must (good_pure x)
theorem run_good : ∀ n nt fn lp, Good (fun l => run n nt fn lp l)
 | 0, nt, fn, lp => by simp only [run]; exact good_none
 | n + 1, nt, fn, lp => by
  have ih := run_good n
  cases nt <;> simp only [run] <;>
  repeat' first
   | exact ih _ _ _
   | exact good_none
   | exact good_pure _
   | exact good_ended _
   | (refine good_must ?_)
   | (refine good_named fun _ => ?_)
   | (refine good_alt ?_ ?_)
   | (refine good_and ?_ fun _ => ?_)
   | (refine good_tok (fun _ => ?_) ?_)
   | (refine good_signs (fun _ => ?_) ?_)
   | (refine good_peek ?_ ?_)
   | (refine good_sep ?_)
   | (refine good_ite ?_ ?_)
def Less (p q : List Tk → R) : Prop := ∀ l y, p l = some y → q l = some y
theorem less_refl (p : List Tk → R) : Less p p := fun _ _ h => h
theorem less_none (q : List Tk → R) : Less (fun _ => none) q := fun l y h => by cases h
theorem less_alt {s : Bs} {f g f' g' : List Tk → R} (hf : Less f f') (hg : Less g g') : Less (fun l => alt s l f (g l)) (fun l => alt s l f' (g' l)) := by
 intro l y h
 cases hi : is s l with
 | none => simp only [alt, hi] at h ⊢; exact hg l y h
 | some r => simp only [alt, hi] at h ⊢; exact hf r y h
theorem less_must {s : Bs} {f f' : List Tk → R} (hf : Less f f') : Less (fun l => must s l f) (fun l => must s l f') := less_alt hf (less_none _)
theorem less_tok {k : Nat} {f f' : Tk → List Tk → R} {g g' : List Tk → R} (hf : ∀ t, Less (f t) (f' t)) (hg : Less g g') : Less (fun l => tok k l f (g l)) (fun l => tok k l f' (g' l)) := by
 intro l y h
 cases l with
 | nil => exact hg [] y h
 | cons t l =>
  simp only [tok] at h ⊢
  by_cases hk : t.kind = k
  ·rw [if_pos hk] at h ⊢; exact hf t l y h
  ·rw [if_neg hk] at h ⊢; exact hg _ y h
theorem less_named {f f' : Bs → List Tk → R} (hf : ∀ s, Less (f s) (f' s)) : Less (fun l => named l f) (fun l => named l f') := less_tok (fun t => hf t.text) (less_none _)
theorem less_and {p p' : List Tk → R} {q q' : Node → List Tk → R} (hp : Less p p') (hq : ∀ x, Less (q x) (q' x)) : Less (fun l => andThen (p l) q) (fun l => andThen (p' l) q') := by
 intro l y h
 cases hi : p l with
 | none => simp only [andThen, hi] at h; cases h
 | some z =>
  obtain ⟨z, l1⟩ := z
  simp only [andThen, hi] at h
  simp only [andThen, hp l _ hi]
  exact hq z l1 y h
theorem less_signs {ss : List Bs} {f f' : Bs → List Tk → R} {g g' : List Tk → R} (hf : ∀ s, Less (f s) (f' s)) (hg : Less g g') : Less (fun l => signs ss l f (g l)) (fun l => signs ss l f' (g' l)) := by
 intro l y h
 cases hi : anyOf ss l with
 | none => simp only [signs, hi] at h ⊢; exact hg l y h
 | some z => obtain ⟨s, r⟩ := z; simp only [signs, hi] at h ⊢; exact hf s r y h
theorem less_peek {s : Bs} {a b a' b' : List Tk → R} (ha : Less a a') (hb : Less b b') : Less (fun l => peek s l (a l) (b l)) (fun l => peek s l (a' l) (b' l)) := by
 intro l y h
 cases l with
 | nil => exact hb [] y h
 | cons t l =>
  simp only [peek] at h ⊢
  by_cases hk : t.kind = 4 ∧ t.text = s
  ·rw [if_pos hk] at h ⊢; exact ha _ y h
  ·rw [if_neg hk] at h ⊢; exact hb _ y h
theorem less_sep {more : Bool} {f f' : List Tk → R} (hf : Less f f') : Less (fun l => sep more l f) (fun l => sep more l f') := by
 cases more
 ·exact hf
 ·exact less_must hf
theorem less_ite {c : Prop} [Decidable c] {p q p' q' : List Tk → R} (hp : Less p p') (hq : Less q q') : Less (fun l => if c then p l else q l) (fun l => if c then p' l else q' l) := by
 by_cases h : c
 ·simpa [h] using hp
 ·simpa [h] using hq
theorem run_step (n m : Nat) (ih : ∀ nt fn lp, Less (fun l => run n nt fn lp l) (fun l => run m nt fn lp l)) (nt : Nt) (fn lp : Bool) : Less (fun l => run (n + 1) nt fn lp l) (fun l => run (m + 1) nt fn lp l) := by
 cases nt <;> simp only [run] <;>
 repeat' first
  | exact ih _ _ _
  | exact less_refl _
  | (refine less_must ?_)
  | (refine less_named fun _ => ?_)
  | (refine less_alt ?_ ?_)
  | (refine less_and ?_ fun _ => ?_)
  | (refine less_tok (fun _ => ?_) ?_)
  | (refine less_signs (fun _ => ?_) ?_)
  | (refine less_peek ?_ ?_)
  | (refine less_sep ?_)
  | (refine less_ite ?_ ?_)
theorem run_less1 : ∀ n nt fn lp, Less (fun l => run n nt fn lp l) (fun l => run (n + 1) nt fn lp l)
 | 0, nt, fn, lp => fun l y h => by simp [run] at h
 | n + 1, nt, fn, lp => run_step n (n + 1) (run_less1 n) nt fn lp
theorem run_less {n m : Nat} (h : n ≤ m) {nt : Nt} {fn lp : Bool} {l : List Tk} {y : Node × List Tk} (hr : run n nt fn lp l = some y) : run m nt fn lp l = some y := by
 induction h with
 | refl => exact hr
 | step _ ih => exact run_less1 _ _ _ _ l y ih
end Pars
namespace Pars
open Lexy (Tk)
def Short (s : Bool) (p : List Tk → R) : Prop := ∀ l x r, p l = some (x, r) → r.length ≤ l.length ∧ (s = true → r.length < l.length)
theorem Short.weak {s : Bool} {p : List Tk → R} (h : Short s p) : Short false p := fun l x r e => ⟨(h l x r e).1, fun h => by cases h⟩
theorem short_none (s : Bool) : Short s (fun _ => none) := fun l x r h => by cases h
theorem short_pure (x : Node) : Short false (fun l => some (x, l)) := fun l y r h => by
 injection h with h; injection h with h1 h2; subst h2; exact ⟨Nat.le_refl _, fun h => by cases h⟩
theorem short_alt {s : Bool} {w : Bs} {f g : List Tk → R} (hf : Short false f) (hg : Short s g) : Short s (fun l => alt w l f (g l)) := by
 intro l x r h
 cases hi : is w l with
 | none => simp only [alt, hi] at h; exact hg l x r h
 | some l' =>
  simp only [alt, hi] at h
  obtain ⟨⟨t, ht, _⟩, _⟩ := is_some hi
  have := (hf l' x r h).1
  subst ht
  exact ⟨by simp; omega, fun _ => by simp; omega⟩
theorem short_must {s : Bool} {w : Bs} {f : List Tk → R} (hf : Short false f) : Short s (fun l => must w l f) := short_alt hf (short_none _)
theorem short_tok {s : Bool} {k : Nat} {f : Tk → List Tk → R} {g : List Tk → R} (hf : ∀ t, Short false (f t)) (hg : Short s g) : Short s (fun l => tok k l f (g l)) := by
 intro l x r h
 cases l with
 | nil => exact hg [] x r h
 | cons t l =>
  simp only [tok] at h
  by_cases hk : t.kind = k
  ·rw [if_pos hk] at h
   have := (hf t l x r h).1
   exact ⟨by simp; omega, fun _ => by simp; omega⟩
  ·rw [if_neg hk] at h; exact hg _ x r h
theorem short_named {s : Bool} {f : Bs → List Tk → R} (hf : ∀ n, Short false (f n)) : Short s (fun l => named l f) := short_tok (fun t => hf t.text) (short_none _)
theorem short_and {s : Bool} {p : List Tk → R} {q : Node → List Tk → R} (hp : Short s p) (hq : ∀ x, Short false (q x)) : Short s (fun l => andThen (p l) q) := by
 intro l x r h
 cases hi : p l with
 | none => simp only [andThen, hi] at h; cases h
 | some y =>
  obtain ⟨y, l1⟩ := y
  simp only [andThen, hi] at h
  have h1 := hp l y l1 hi
  have h2 := (hq y l1 x r h).1
  exact ⟨by omega, fun hs => by have := h1.2 hs; omega⟩
theorem short_signs {s : Bool} {ss : List Bs} {f : Bs → List Tk → R} {g : List Tk → R} (hf : ∀ n, Short false (f n)) (hg : Short s g) : Short s (fun l => signs ss l f (g l)) := by
 intro l x r h
 cases hi : anyOf ss l with
 | none => simp only [signs, hi] at h; exact hg l x r h
 | some y =>
  obtain ⟨w, l'⟩ := y
  simp only [signs, hi] at h
  obtain ⟨⟨t, ht⟩, _⟩ := any_some hi
  have := (hf w l' x r h).1
  subst ht
  exact ⟨by simp; omega, fun _ => by simp; omega⟩
theorem short_peek {s : Bool} {w : Bs} {a b : List Tk → R} (ha : Short s a) (hb : Short s b) : Short s (fun l => peek w l (a l) (b l)) := by
 intro l x r h
 cases l with
 | nil => exact hb [] x r h
 | cons t l =>
  simp only [peek] at h
  by_cases hk : t.kind = 4 ∧ t.text = w
  ·rw [if_pos hk] at h; exact ha _ x r h
  ·rw [if_neg hk] at h; exact hb _ x r h
theorem short_sep {more : Bool} {f : List Tk → R} (hf : Short false f) : Short false (fun l => sep more l f) := by
 cases more
 ·exact hf
 ·exact (short_must (s := false) hf)
theorem short_ite {s : Bool} {c : Prop} [Decidable c] {p q : List Tk → R} (hp : Short s p) (hq : Short s q) : Short s (fun l => if c then p l else q l) := by
 by_cases h : c
 ·simpa [h] using hp
 ·simpa [h] using hq
def passes : Nt → Bool
 | .binGo _ _ => false
 | .post _ => false
 | .some _ _ _ _ => false
 | _ => true
theorem run_short : ∀ n nt fn lp, Short (passes nt) (fun l => run n nt fn lp l)
 | 0, nt, fn, lp => by simp only [run]; exact short_none _
 | n + 1, nt, fn, lp => by
  have ih : ∀ nt fn lp, passes nt = true → Short true (fun l => run n nt fn lp l) := fun nt fn lp h => by have := run_short n nt fn lp; rw [h] at this; exact this
  have iw : ∀ nt fn lp, Short false (fun l => run n nt fn lp l) := fun nt fn lp => (run_short n nt fn lp).weak
  cases nt <;> simp only [run, passes] <;>
  repeat' first
   | exact ih _ _ _ rfl
   | exact iw _ _ _
   | exact short_none _
   | exact short_pure _
   | (refine short_must ?_)
   | (refine short_named fun _ => ?_)
   | (refine short_alt ?_ ?_)
   | (refine short_and ?_ fun _ => ?_)
   | (refine short_tok (fun _ => ?_) ?_)
   | (refine short_signs (fun _ => ?_) ?_)
   | (refine short_peek ?_ ?_)
   | (refine short_sep ?_)
   | (refine short_ite ?_ ?_)
theorem run_passes {n : Nat} {nt : Nt} {fn lp : Bool} {l r : List Tk} {x : Node} (h : run n nt fn lp l = some (x, r)) (hp : passes nt = true) : r.length < l.length := (run_short n nt fn lp l x r h).2 hp
theorem must_some {s : Bs} {l r : List Tk} {f : List Tk → R} (h : is s l = some r) : must s l f = f r := by simp only [must, alt, h]
theorem must_no {s : Bs} {l : List Tk} {f : List Tk → R} (h : is s l = none) : must s l f = none := by simp only [must, alt, h]
theorem alt_some {s : Bs} {l r : List Tk} {f : List Tk → R} {g : R} (h : is s l = some r) : alt s l f g = f r := by simp only [alt, h]
theorem alt_no {s : Bs} {l : List Tk} {f : List Tk → R} {g : R} (h : is s l = none) : alt s l f g = g := by simp only [alt, h]
theorem and_some {p : R} {x : Node} {l : List Tk} {f : Node → List Tk → R} (h : p = some (x, l)) : andThen p f = f x l := by simp only [andThen, h]
theorem and_no {p : R} {f : Node → List Tk → R} (h : p = none) : andThen p f = none := by simp only [andThen, h]
end Pars
namespace Go.Proofs.YtonjdlialejedaaGreatDoor
open Go.Lib (hid)
open Go.RowKit
theorem gen_world {P : Program} {c : Code} {Q : Exit → Act → World → Prop} {a : Act} {w0 : World} {F : World → Prop} (hf : F w0) (h : ∀ W, F W → Code.wp P c Q a W) : Code.wp P c Q a w0 := h w0 hf
theorem NodeAt.weak {w : World} {S S1 : Nat → Prop} {n : Pars.Node} {cs : Array Value} (h : NodeAt w S n cs) (hs : ∀ g, S g → S1 g) : NodeAt w S1 n cs := NodeAt.keep (fun g h _ => hs g h) (Nat.le_refl _) (fun _ _ _ => rfl) h
theorem NodeAt.below {w w1 : World} {S : Nat → Prop} {n : Pars.Node} {cs : Array Value} (h : NodeAt w S n cs) (hb : Below w.heap.size w w1) : NodeAt w1 S n cs := NodeAt.keep (fun _ h _ => h) hb.size (fun g _ hg => hb.block g hg) h
theorem NodeAt.upd {w w1 : World} {S : Nat → Prop} {n : Pars.Node} {cs : Array Value} {r : Nat} (h : NodeAt w S n cs) (hu : Upd w w1 r) (hr : ∀ g, S g → g ≠ r) : NodeAt w1 S n cs := NodeAt.keep (fun _ h _ => h) hu.size (fun g hs hg => hu.block g hg (by intro e; injection e with e; exact hr g hs e)) h
theorem Upd.fresh {w w1 w2 : World} {b r : Nat} (h : Upd w w1 b) (hu : Upd w1 w2 r) (hr : w.heap.size ≤ r) : Upd w w2 b := by
 have hz := h.size
 refine ⟨hu.os.trans h.os, hu.tape.trans h.tape, hu.output.trans h.output, Nat.le_trans h.size hu.size, fun i hi hn => ?_⟩
 rw [hu.block i (by omega) (by intro e; injection e with e; omega), h.block i hi hn]
theorem left_len (ts : List KT) (k : Nat) : (left ts k).length = ts.length - k := by unfold left toks; simp
def Got (w : World) (b : Nat) (ts : List KT) (A : Option Addr) (c k : Nat) (fn lp : Bool) (r : Pars.R) (e : Ending) (w' : World) : Prop :=
 (∃ x k' cs, r = some (x, left ts k') ∧ k ≤ k' ∧ k' ≤ ts.length ∧ e = .returned (.agg cs) ∧ NodeAt w' (fun g => w.heap.size ≤ g) x cs ∧ Box w' b 76 (pc (.slice A ts.length c) k' fn lp) ∧ Upd w w' b) ∨
 (r = none ∧ e = .panicked slipped ∧ Upd w w' b)
theorem got_lt {n : Nat} {nt : Pars.Nt} {fn lp : Bool} {ts : List KT} {k k' : Nat} {x : Pars.Node} (h : Pars.run n nt fn lp (left ts k) = some (x, left ts k')) (hp : Pars.passes nt = true) : k < k' := by
 have := Pars.run_passes h hp
 rw [left_len, left_len] at this
 omega
structure All (n : Nat) : Prop where
 block : ∀ {w : World} {b : Nat} {ts : List KT} {A : Option Addr} {c k : Nat} {fn lp : Bool}, PSt w b ts A c k fn lp → 20 * (ts.length - k) + 1 < n → Calls Tryz.prog 60 #[.pointer (some ⟨b, 0, none⟩)] w (Got w b ts A c k fn lp (Pars.run n .block fn lp (left ts k)))
 stmt : ∀ {w : World} {b : Nat} {ts : List KT} {A : Option Addr} {c k : Nat} {fn lp : Bool}, PSt w b ts A c k fn lp → 20 * (ts.length - k) + 14 < n → Calls Tryz.prog 28 #[.pointer (some ⟨b, 0, none⟩)] w (Got w b ts A c k fn lp (Pars.run n .statement fn lp (left ts k)))
 expr : ∀ {w : World} {b : Nat} {ts : List KT} {A : Option Addr} {c k : Nat} {fn lp : Bool}, PSt w b ts A c k fn lp → 20 * (ts.length - k) + 12 < n → Calls Tryz.prog 50 #[.pointer (some ⟨b, 0, none⟩)] w (Got w b ts A c k fn lp (Pars.run n .expression fn lp (left ts k)))
 cond : ∀ {w : World} {b : Nat} {ts : List KT} {A : Option Addr} {c k : Nat} {fn lp : Bool}, PSt w b ts A c k fn lp → 20 * (ts.length - k) + 11 < n → Calls Tryz.prog 79 #[.pointer (some ⟨b, 0, none⟩)] w (Got w b ts A c k fn lp (Pars.run n .cond fn lp (left ts k)))
 un : ∀ {w : World} {b : Nat} {ts : List KT} {A : Option Addr} {c k : Nat} {fn lp : Bool}, PSt w b ts A c k fn lp → 20 * (ts.length - k) + 3 < n → Calls Tryz.prog 97 #[.pointer (some ⟨b, 0, none⟩)] w (Got w b ts A c k fn lp (Pars.run n .unary fn lp (left ts k)))
 first : ∀ {w : World} {b : Nat} {ts : List KT} {A : Option Addr} {c k : Nat} {fn lp : Bool}, PSt w b ts A c k fn lp → 20 * (ts.length - k) + 2 < n → Calls Tryz.prog 106 #[.pointer (some ⟨b, 0, none⟩)] w (Got w b ts A c k fn lp (Pars.run n .first fn lp (left ts k)))
 inner : ∀ {w : World} {b : Nat} {ts : List KT} {A : Option Addr} {c k : Nat} {fn lp : Bool}, PSt w b ts A c k fn lp → 20 * (ts.length - k) + 1 < n → Calls Tryz.prog 54 #[.pointer (some ⟨b, 0, none⟩)] w (Got w b ts A c k fn lp (Pars.run n .inner fn lp (left ts k)))
 ifs : ∀ {w : World} {b : Nat} {ts : List KT} {A : Option Addr} {c k : Nat} {fn lp : Bool}, PSt w b ts A c k fn lp → 20 * (ts.length - k) + 2 < n → Calls Tryz.prog 53 #[.pointer (some ⟨b, 0, none⟩)] w (Got w b ts A c k fn lp (Pars.run n .ifs fn lp (left ts k)))
 loops : ∀ {w : World} {b : Nat} {ts : List KT} {A : Option Addr} {c k : Nat} {fn lp : Bool}, PSt w b ts A c k fn lp → 20 * (ts.length - k) + 1 < n → Calls Tryz.prog 56 #[.pointer (some ⟨b, 0, none⟩)] w (Got w b ts A c k fn lp (Pars.run n .loops fn lp (left ts k)))
 tries : ∀ {w : World} {b : Nat} {ts : List KT} {A : Option Addr} {c k : Nat} {fn lp : Bool}, PSt w b ts A c k fn lp → 20 * (ts.length - k) + 2 < n → Calls Tryz.prog 58 #[.pointer (some ⟨b, 0, none⟩)] w (Got w b ts A c k fn lp (Pars.run n .tries fn lp (left ts k)))
 bin : ∀ (r : Nat), r ≤ 6 → ∀ {w : World} {b : Nat} {ts : List KT} {A : Option Addr} {c k : Nat} {fn lp : Bool}, PSt w b ts A c k fn lp → 20 * (ts.length - k) + (10 - r) < n → Calls Tryz.prog 92 #[.pointer (some ⟨b, 0, none⟩), .int .i64 (r : Int)] w (Got w b ts A c k fn lp (Pars.run n (.binary r) fn lp (left ts k)))
 body : ∀ (f : Bool), ∀ {w : World} {b : Nat} {ts : List KT} {A : Option Addr} {c k : Nat} {fn lp : Bool}, PSt w b ts A c k fn lp → 20 * (ts.length - k) + 2 < n → Calls Tryz.prog 55 #[.pointer (some ⟨b, 0, none⟩), .bool f] w (Got w b ts A c k fn lp (Pars.run n (.body f) fn lp (left ts k)))
 func : ∀ (nm : List UInt8), ∀ {w : World} {b : Nat} {ts : List KT} {A : Option Addr} {c k : Nat} {fn lp : Bool}, PSt w b ts A c k fn lp → 20 * (ts.length - k) + 1 < n → Calls Tryz.prog 52 #[.pointer (some ⟨b, 0, none⟩), .string (byt nm)] w (Got w b ts A c k fn lp (Pars.run n (.function nm) fn lp (left ts k)))
set_option maxRecDepth 100000 in
set_option maxHeartbeats 4000000 in
theorem inner_step {n : Nat} (h : All n) : ∀ {w : World} {b : Nat} {ts : List KT} {A : Option Addr} {c k : Nat} {fn lp : Bool}, PSt w b ts A c k fn lp → 20 * (ts.length - k) + 1 < n + 1 → Calls Tryz.prog 54 #[.pointer (some ⟨b, 0, none⟩)] w (Got w b ts A c k fn lp (Pars.run (n + 1) .inner fn lp (left ts k))) := by
 intro w b ts A c k fn lp hP hm
 have HR : Hid (Pars.run (n + 1) .inner fn lp (left ts k) = _) := hid (by rw [Pars.run])
 have hbl := hP.box.lt
 have hle := hP.kle
 go_enter Tryz.func54, Tryz.ntmps54
 go_upto_region 1 with fail
 refine gen_world (F := fun W => Box W w.heap.size 24 #[.int .i64 0, .int .i64 0, .string ⟨#[]⟩, .slice none 0 0] ∧ Below w.heap.size w W) ⟨Box.new w _ _, below1 w _⟩ ?_
 rintro W0 ⟨r0, hU⟩
 have RB := hid r0
 have HP := hid (hP.below hU)
 have HU : Hid (Upd w W0 b) := hid (Upd.below hU b)
 have HZ : Hid (w.heap.size < W0.heap.size) := hid r0.lt
 have hz0 := r0.lt
 have HZW : Hid (W0.heap.size ≤ W0.heap.size) := hid (Nat.le_refl _)
 clear r0 hU hP
 go_wp2_with fail
 refine (must_any [40] _ b ts A c (k) fn lp HP.out).mono ?_
 rintro e w1 (⟨hi, hk, rfl, hx, hu⟩ | ⟨hi, rfl, hu⟩)
 rotate_left
 ·exact ⟨rfl, .inr ⟨HR.out.trans (Pars.must_no hi), rfl, HU.out.trans hu⟩⟩
 replace HR := hid (HR.out.trans (Pars.must_some hi))
 replace RB := bg RB hu
 replace HP := hid (HP.out.upd hx hu (by omega))
 replace HU := hid (HU.out.trans hu)
 replace HZW := hid (Nat.le_trans HZW.out hu.size)
 clear hi hx hu
 have hle1 := HP.out.kle
 go_wp2_with fail
 refine (h.expr HP.out (by omega)).mono ?_
 rintro e w2 (⟨x1, k1, cs1, hr, hk1, hk2, rfl, hn, hx, hu⟩ | ⟨hr, rfl, hu⟩)
 rotate_left
 ·exact ⟨rfl, .inr ⟨HR.out.trans (Pars.and_no hr), rfl, HU.out.trans hu⟩⟩
 have hlt1 := got_lt hr rfl
 replace HR := hid (HR.out.trans (Pars.and_some hr))
 have HN1 : Hid (NodeAt _ (fun g => W0.heap.size ≤ g) x1 cs1) := hid (hn.weak (fun g hg => by have := HZW.out; omega))
 have hcs1 : (Tryz.prog.info? 24).map (·.size) = some cs1.size := by rw [NodeAt.size hn]; exact info_nod
 have h41 : (4 : Nat) = cs1.size := (NodeAt.size hn).symm
 have hone1 := NodeAt.one hn
 have HCS1 := hid hcs1
 have H41 := hid h41
 have HONE1 := hid hone1
 replace RB := bg RB hu
 replace HP := hid (HP.out.upd hx hu (by omega))
 replace HU := hid (HU.out.trans hu)
 replace HZW := hid (Nat.le_trans HZW.out hu.size)
 clear hr hn hx hu hcs1 h41 hone1
 have hle2 := HP.out.kle
 go_upto_region 3 with (refine wpList_store_box rfl 24 (.tmp 3) (.tmp 7) rfl w2.heap.size cs1 rfl rfl 24 _ (Box.new w2 _ _) HCS1.out H41.out HONE1.out ?_; intro w3 hx hv hz; have HZ1 := hid hz; clear hz)
 have hb : Below w2.heap.size w2 w3 := ((Below.refl _ w2).alloc (Nat.le_refl _) _).trans (hv.own (Nat.le_refl _) (by simp))
 have EB1 := hid hx
 have hzE1 := Nat.lt_of_lt_of_le HZ.out HZW.out
 replace RB := bl RB hb
 replace HN1 := hid (HN1.out.below hb)
 replace HP := hid (HP.out.below hb)
 replace HU := hid (HU.out.step hb)
 replace HZW := hid (Nat.le_trans HZW.out hb.size)
 clear hx hv hb
 go_wp2_with fail
 refine (must_any [41] _ b ts A c (k1) fn lp HP.out).mono ?_
 rintro e w4 (⟨hi, hk, rfl, hx, hu⟩ | ⟨hi, rfl, hu⟩)
 rotate_left
 ·exact ⟨rfl, .inr ⟨HR.out.trans (Pars.must_no hi), rfl, HU.out.trans hu⟩⟩
 replace HR := hid (HR.out.trans (Pars.must_some hi))
 replace RB := bg RB hu
 replace EB1 := bg EB1 hu
 replace HN1 := hid (HN1.out.upd hu (fun g hg => by first | omega | (simp only at hg; omega)))
 replace HP := hid (HP.out.upd hx hu (by omega))
 replace HU := hid (HU.out.trans hu)
 replace HZW := hid (Nat.le_trans HZW.out hu.size)
 clear hi hx hu
 have eb1 := EB1.out
 go_wp2_with (first | (refine wpList_load_row rfl 24 (.tmp 3) rfl w2.heap.size rfl _ cs1 (0, 0) _ eb1 Tryz.underlying24 rfl HCS1.out ?_) | (refine wpList_store_box rfl 24 (.tmp 2) (.tmp 10) rfl w.heap.size cs1 rfl rfl 24 _ RB.out HCS1.out H41.out HONE1.out ?_; intro wz hxz huz hzz; have HZZ := hid hzz; clear hzz))
 refine bodyPost_ret (results_box rfl _ _ w.heap.size 24 _ _ rfl hxz Tryz.underlying24 rfl HCS1.out) rfl ?_
 exact .inl ⟨x1, k1 + 1, cs1, HR.out, by omega, HP.out.kle, rfl, (HN1.out.upd huz (fun g hg => by first | omega | (simp only at hg; omega))).weak (fun g hg => by first | omega | (simp only at hg; omega)), Box.grown HP.out.box huz (by intro h; injection h with h; omega), Upd.fresh HU.out huz (Nat.le_refl _)⟩
end Go.Proofs.YtonjdlialejedaaGreatDoor
namespace Go.Proofs.YtonjdlialejedaaGreatDoor
open Go.Lib (hid)
open Go.RowKit
theorem plain_fn (n : Nat) : Ending.returned (.tuple #[.string ((⟨(Lib.repeatL [113] (n - 1)).toArray⟩ : ByteArray) ++ ⟨#[103]⟩), .bool true]) = .returned (.tuple #[.string (byt (Wri.plain 9 n).1), .bool (Wri.plain 9 n).2]) := by
 have e : ∀ q, Lib.repeatL [113] q = List.replicate q 113 := by
  intro q
  induction q with
  | zero => rfl
  | succ q ih => simp only [Lib.repeatL, ih]; rfl
 have h1 : (⟨(Lib.repeatL [113] (n - 1)).toArray⟩ : ByteArray) = byt (List.replicate (n - 1) 113) := by
  show (⟨(Lib.repeatL [113] (n - 1)).toArray⟩ : ByteArray) = _
  rw [e]; rfl
 have h2 : (⟨#[103]⟩ : ByteArray) = byt [103] := rfl
 rw [h1, h2, byt_append]
 rfl
set_option maxRecDepth 100000 in
set_option maxHeartbeats 4000000 in
theorem plain_nine (nu : Int) (t : List UInt8) (A : Option Addr) (n c : Nat) (hn : n ≤ 70368744177664) (w : World) : Calls Tryz.prog 82 #[.agg (nc 9 nu t (.slice A n c))] w fun e w' => e = .returned (.tuple #[.string (byt (Wri.plain 9 n).1), .bool (Wri.plain 9 n).2]) ∧ Below w.heap.size w w' := by
 have hz : IntKind.i64.wrap ((n : Int) - 1) = (n : Int) - 1 := by rw [IntKind.wrap_i64]; omega
 obtain ⟨q, hq⟩ : ∃ q : Nat, q = n - 1 := ⟨_, rfl⟩
 have HQ := hid hq
 have HM : Hid (max ((n : Int) - 1) 0 = (q : Int)) := hid (by omega)
 have hqn : q ≤ 70368744177664 := by omega
 clear hq
 have HRP : Hid (∀ W, Calls Tryz.prog 93 #[.string ⟨#[113]⟩, .int .i64 (q : Int)] W fun e w' => e = .returned (.string ⟨(Lib.repeatL [113] q).toArray⟩) ∧ Below W.heap.size W w') := hid (fun W => Tryz.strings_Repeat ⟨#[113]⟩ q W (by omega) (by rw [show (⟨#[113]⟩ : ByteArray).size = 1 from rfl]; omega))
 go_enter Tryz.func82, Tryz.ntmps82
 go_upto_region 1 with fail
 refine gen_world (F := fun W => Box W w.heap.size 24 (nc 9 nu t (.slice A n c)) ∧ Below w.heap.size w W) ⟨Box.new w _ _, below1 w _⟩ ?_
 rintro W0 ⟨b0, hU⟩
 have NB := hid b0
 have HU := hid hU
 have c0 := b0.cell 0
 have c3 := b0.cell 3
 simp [nc] at c0 c3
 clear b0 hU
 go_wp2_with (refine wpList_max2 rfl (.tmp 54) (.const (.int .i64 0)) _ rfl _ _ _ rfl rfl HM.out ?_)
 refine (HRP.out _).mono ?_
 rintro e w1 ⟨rfl, hb⟩
 have HU1 := hid (HU.out.trans (hb.mono HU.out.size))
 clear hb
 obtain ⟨RS, hRS⟩ : ∃ RS : ByteArray, (⟨(Lib.repeatL [113] q).toArray⟩ : ByteArray) = RS := ⟨_, rfl⟩
 have hsz : RS.size = q := by rw [← hRS]; show (Lib.repeatL _ q).toArray.size = q; rw [List.size_toArray, Lib.repeatL_length]; simp
 rw [hRS]
 have HRS := hid hRS
 clear hRS
 have hz0 : RS.size ≤ 70368744177664 := by omega
 clear hsz
 have hg1 : (⟨#[103]⟩ : ByteArray).size = 1 := rfl
 go_wp2
 go_ret2
 refine ⟨?_, HU1.out⟩
 rw [← HRS.out, HQ.out]
 exact plain_fn n
set_option maxRecDepth 100000 in
set_option maxHeartbeats 4000000 in
theorem plain_any (k nu : Int) (t : List UInt8) (A : Option Addr) (n c : Nat) (hn : n ≤ 70368744177664) (w : World) : Calls Tryz.prog 82 #[.agg (nc k nu t (.slice A n c))] w fun e w' => e = .returned (.tuple #[.string (byt (Wri.plain k n).1), .bool (Wri.plain k n).2]) ∧ Below w.heap.size w w' := by
 by_cases y : k = 9
 ·subst y
  exact plain_nine nu t A n c hn w
 have n9 : (k == 9) = false := by rw [beq_eq_false_iff_ne]; omega
 have m9 : ¬ k = 9 := by omega
 clear y
 go_enter Tryz.func82, Tryz.ntmps82
 go_upto_region 1 with fail
 refine gen_world (F := fun W => Box W w.heap.size 24 (nc k nu t (.slice A n c)) ∧ Below w.heap.size w W) ⟨Box.new w _ _, below1 w _⟩ ?_
 rintro W0 ⟨b0, hU⟩
 have NB := hid b0
 have HU := hid hU
 have c0 := b0.cell 0
 have c3 := b0.cell 3
 simp [nc] at c0 c3
 clear b0 hU
 go_upto_region 2 with fail
 by_cases y : k = 1
 ·subst y
  go_wp2
  go_ret2
  exact ⟨by first | rfl | simp [Wri.plain, byt], HU.out⟩
 have n1 : (k == 1) = false := by rw [beq_eq_false_iff_ne]; omega
 have m1 : ¬ k = 1 := by omega
 clear y
 go_upto_region 3 with fail
 by_cases y : k = 2
 ·subst y
  go_wp2
  go_ret2
  exact ⟨by first | rfl | simp [Wri.plain, byt], HU.out⟩
 have n2 : (k == 2) = false := by rw [beq_eq_false_iff_ne]; omega
 have m2 : ¬ k = 2 := by omega
 clear y
 go_upto_region 4 with fail
 by_cases y : k = 3
 ·subst y
  go_wp2
  go_ret2
  exact ⟨by first | rfl | simp [Wri.plain, byt], HU.out⟩
 have n3 : (k == 3) = false := by rw [beq_eq_false_iff_ne]; omega
 have m3 : ¬ k = 3 := by omega
 clear y
 go_upto_region 5 with fail
 by_cases y : k = 4
 ·subst y
  go_wp2
  go_ret2
  exact ⟨by first | rfl | simp [Wri.plain, byt], HU.out⟩
 have n4 : (k == 4) = false := by rw [beq_eq_false_iff_ne]; omega
 have m4 : ¬ k = 4 := by omega
 clear y
 go_upto_region 6 with fail
 by_cases y : k = 5
 ·subst y
  go_wp2
  go_ret2
  exact ⟨by first | rfl | simp [Wri.plain, byt], HU.out⟩
 have n5 : (k == 5) = false := by rw [beq_eq_false_iff_ne]; omega
 have m5 : ¬ k = 5 := by omega
 clear y
 go_upto_region 7 with fail
 by_cases y : k = 10
 ·subst y
  go_wp2
  go_ret2
  exact ⟨by first | rfl | simp [Wri.plain, byt], HU.out⟩
 have n10 : (k == 10) = false := by rw [beq_eq_false_iff_ne]; omega
 have m10 : ¬ k = 10 := by omega
 clear y
 go_upto_region 8 with fail
 by_cases y : k = 25
 ·subst y
  go_wp2
  go_ret2
  exact ⟨by first | rfl | simp [Wri.plain, byt], HU.out⟩
 have n25 : (k == 25) = false := by rw [beq_eq_false_iff_ne]; omega
 have m25 : ¬ k = 25 := by omega
 clear y
 go_upto_region 9 with fail
 by_cases y : k = 26
 ·subst y
  go_wp2
  go_ret2
  exact ⟨by first | rfl | simp [Wri.plain, byt], HU.out⟩
 have n26 : (k == 26) = false := by rw [beq_eq_false_iff_ne]; omega
 have m26 : ¬ k = 26 := by omega
 clear y
 go_upto_region 10 with fail
 by_cases y : k = 27
 ·subst y
  go_wp2
  go_ret2
  exact ⟨by first | rfl | simp [Wri.plain, byt], HU.out⟩
 have n27 : (k == 27) = false := by rw [beq_eq_false_iff_ne]; omega
 have m27 : ¬ k = 27 := by omega
 clear y
 go_upto_region 12 with fail
 by_cases y : k = 6
 ·subst y
  go_wp2
  go_ret2
  exact ⟨by first | rfl | simp [Wri.plain, byt], HU.out⟩
 have n6 : (k == 6) = false := by rw [beq_eq_false_iff_ne]; omega
 have m6 : ¬ k = 6 := by omega
 clear y
 go_upto_region 14 with fail
 by_cases y : k = 7
 ·subst y
  go_wp2
  go_ret2
  exact ⟨by first | rfl | simp [Wri.plain, byt], HU.out⟩
 have n7 : (k == 7) = false := by rw [beq_eq_false_iff_ne]; omega
 have m7 : ¬ k = 7 := by omega
 clear y
 go_upto_region 16 with fail
 by_cases y : k = 8
 ·subst y
  go_wp2
  go_ret2
  exact ⟨by first | rfl | simp [Wri.plain, byt], HU.out⟩
 have n8 : (k == 8) = false := by rw [beq_eq_false_iff_ne]; omega
 have m8 : ¬ k = 8 := by omega
 clear y
 go_upto_region 17 with fail
 by_cases y : k = 13
 ·subst y
  go_wp2
  go_ret2
  exact ⟨by first | rfl | simp [Wri.plain, byt], HU.out⟩
 have n13 : (k == 13) = false := by rw [beq_eq_false_iff_ne]; omega
 have m13 : ¬ k = 13 := by omega
 clear y
 go_upto_region 18 with fail
 by_cases y : k = 14
 ·subst y
  go_wp2
  go_ret2
  exact ⟨by first | rfl | simp [Wri.plain, byt], HU.out⟩
 have n14 : (k == 14) = false := by rw [beq_eq_false_iff_ne]; omega
 have m14 : ¬ k = 14 := by omega
 clear y
 go_upto_region 19 with fail
 by_cases y : k = 20
 ·subst y
  go_wp2
  go_ret2
  exact ⟨by first | rfl | simp [Wri.plain, byt], HU.out⟩
 have n20 : (k == 20) = false := by rw [beq_eq_false_iff_ne]; omega
 have m20 : ¬ k = 20 := by omega
 clear y
 go_upto_region 20 with fail
 by_cases y : k = 28
 ·subst y
  go_wp2
  go_ret2
  exact ⟨by first | rfl | simp [Wri.plain, byt], HU.out⟩
 have n28 : (k == 28) = false := by rw [beq_eq_false_iff_ne]; omega
 have m28 : ¬ k = 28 := by omega
 clear y
 go_upto_region 21 with fail
 by_cases y : k = 31
 ·subst y
  go_wp2
  go_ret2
  exact ⟨by first | rfl | simp [Wri.plain, byt], HU.out⟩
 have n31 : (k == 31) = false := by rw [beq_eq_false_iff_ne]; omega
 have m31 : ¬ k = 31 := by omega
 clear y
 go_upto_region 23 with fail
 by_cases y : k = 11
 ·subst y
  go_wp2
  go_ret2
  exact ⟨by first | rfl | simp [Wri.plain, byt], HU.out⟩
 have n11 : (k == 11) = false := by rw [beq_eq_false_iff_ne]; omega
 have m11 : ¬ k = 11 := by omega
 clear y
 go_upto_region 25 with fail
 by_cases y : k = 12
 ·subst y
  go_wp2
  go_ret2
  exact ⟨by first | rfl | simp [Wri.plain, byt], HU.out⟩
 have n12 : (k == 12) = false := by rw [beq_eq_false_iff_ne]; omega
 have m12 : ¬ k = 12 := by omega
 clear y
 go_upto_region 26 with fail
 by_cases y : k = 15
 ·subst y
  go_wp2
  go_ret2
  exact ⟨by first | rfl | simp [Wri.plain, byt], HU.out⟩
 have n15 : (k == 15) = false := by rw [beq_eq_false_iff_ne]; omega
 have m15 : ¬ k = 15 := by omega
 clear y
 go_upto_region 27 with fail
 by_cases y : k = 16
 ·subst y
  go_wp2
  go_ret2
  exact ⟨by first | rfl | simp [Wri.plain, byt], HU.out⟩
 have n16 : (k == 16) = false := by rw [beq_eq_false_iff_ne]; omega
 have m16 : ¬ k = 16 := by omega
 clear y
 go_upto_region 28 with fail
 by_cases y : k = 17
 ·subst y
  go_wp2
  go_ret2
  exact ⟨by first | rfl | simp [Wri.plain, byt], HU.out⟩
 have n17 : (k == 17) = false := by rw [beq_eq_false_iff_ne]; omega
 have m17 : ¬ k = 17 := by omega
 clear y
 go_upto_region 30 with fail
 by_cases y : k = 18
 ·subst y
  go_wp2
  go_ret2
  exact ⟨by first | rfl | simp [Wri.plain, byt], HU.out⟩
 have n18 : (k == 18) = false := by rw [beq_eq_false_iff_ne]; omega
 have m18 : ¬ k = 18 := by omega
 clear y
 go_upto_region 32 with fail
 by_cases y : k = 19
 ·subst y
  go_wp2
  go_ret2
  exact ⟨by first | rfl | simp [Wri.plain, byt], HU.out⟩
 have n19 : (k == 19) = false := by rw [beq_eq_false_iff_ne]; omega
 have m19 : ¬ k = 19 := by omega
 clear y
 go_upto_region 34 with fail
 by_cases y : k = 21
 ·subst y
  go_wp2
  go_ret2
  exact ⟨by first | rfl | simp [Wri.plain, byt], HU.out⟩
 have n21 : (k == 21) = false := by rw [beq_eq_false_iff_ne]; omega
 have m21 : ¬ k = 21 := by omega
 clear y
 go_upto_region 36 with fail
 by_cases y : k = 22
 ·subst y
  go_wp2
  go_ret2
  exact ⟨by first | rfl | simp [Wri.plain, byt], HU.out⟩
 have n22 : (k == 22) = false := by rw [beq_eq_false_iff_ne]; omega
 have m22 : ¬ k = 22 := by omega
 clear y
 go_upto_region 38 with fail
 by_cases y : k = 23
 ·subst y
  go_wp2
  go_ret2
  exact ⟨by first | rfl | simp [Wri.plain, byt], HU.out⟩
 have n23 : (k == 23) = false := by rw [beq_eq_false_iff_ne]; omega
 have m23 : ¬ k = 23 := by omega
 clear y
 go_upto_region 39 with fail
 by_cases y : k = 24
 ·subst y
  go_wp2
  go_ret2
  exact ⟨by first | rfl | simp [Wri.plain, byt], HU.out⟩
 have n24 : (k == 24) = false := by rw [beq_eq_false_iff_ne]; omega
 have m24 : ¬ k = 24 := by omega
 clear y
 go_upto_region 41 with fail
 by_cases y : k = 29
 ·subst y
  go_wp2
  go_ret2
  exact ⟨by first | rfl | simp [Wri.plain, byt], HU.out⟩
 have n29 : (k == 29) = false := by rw [beq_eq_false_iff_ne]; omega
 have m29 : ¬ k = 29 := by omega
 clear y
 go_upto_region 43 with fail
 by_cases y : k = 30
 ·subst y
  go_wp2
  go_ret2
  exact ⟨by first | rfl | simp [Wri.plain, byt], HU.out⟩
 have n30 : (k == 30) = false := by rw [beq_eq_false_iff_ne]; omega
 have m30 : ¬ k = 30 := by omega
 clear y
 go_wp2
 go_ret2
 refine ⟨?_, HU.out⟩
 have e : Wri.plain k n = ([], false) := by unfold Wri.plain; simp only [m1, m2, m3, m4, m5, m6, m7, m8, m9, m10, m11, m12, m13, m14, m15, m16, m17, m18, m19, m20, m21, m22, m23, m24, m25, m26, m27, m28, m29, m30, m31, or_self, if_false]
 rw [e]
 rfl
end Go.Proofs.YtonjdlialejedaaGreatDoor
