/-
  Texts that the law leans on: PlA, PlD, PxG, PlF, PlO, PlK. Conditions: as each says.
-/
import Derived.Test.YtonjdlialejedaaGreatDoorSAb
import Derived.Test.YtonjdlialejedaaGreatDoorSBh
import Derived.Test.YtonjdlialejedaaGreatDoorSBf
import Derived.Test.YtonjdlialejedaaGreatDoorSBj
import Derived.Test.YtonjdlialejedaaGreatDoorSBk
import Derived.Test.YtonjdlialejedaaGreatDoorSAy
import Derived.Test.YtonjdlialejedaaGreatDoorSAd
import Derived.Test.YtonjdlialejedaaGreatDoorSAt
import Derived.Test.YtonjdlialejedaaGreatDoorSBi
import Derived.Test.YtonjdlialejedaaGreatDoorSAa
set_option linter.unusedSimpArgs false
set_option linter.unusedVariables false
namespace Lexy
theorem lexT_nil : LexT [] [] := ⟨[], .done _ _ rfl, rfl⟩
end Lexy
namespace Wri
open Pars (Node Bs)
open Lexy (Tk sg kw nm W noN all IsName LexT)
def ttext (n : Node) : List Tk := n.kids.flatMap fun x => tw x .stmt
end Wri
namespace Go.Proofs.YtonjdlialejedaaGreatDoor
open Go.Lib (hid)
open Go.RowKit
theorem parse_c (s : List UInt8) (w : World) (he : EnvW w) (hm : s.length ≤ 9223372036854775807) :
  Calls Tryz.prog 9 #[.string (byt s)] w fun e w' => ∃ n cs k, e = .returned (.tuple #[.agg cs, .int .i64 k]) ∧ NodeAt w' (fun _ => True) n cs ∧ Below w.heap.size w w' ∧ PC s n k :=
 (parse_any s w he.sp (by have := he.big; omega) hm).mono (by
  rintro e w' (⟨n, cs, hp, rfl, hn, hb⟩ | ⟨k, hp, hk, rfl, hb⟩)
  ·exact ⟨n, cs, 0, rfl, hn.weak (fun _ _ => trivial), hb, .inl ⟨hp, rfl⟩⟩
  ·refine ⟨.mk 0 0 [] [], _, k, rfl, NodeAt.leaf _ _ 0 0 [], hb, .inr ⟨rfl, ?_⟩⟩
   rcases hk with rfl | rfl
   ·exact .inl ⟨rfl, hp⟩
   ·exact .inr ⟨rfl, hp⟩)
end Go.Proofs.YtonjdlialejedaaGreatDoor
namespace Pars
open Lexy (Tk sg kw nm)
theorem ev_run {nt : Nt} {fn lp : Bool} {l r : List Tk} {x : Node} {F : Nat} (h : run F nt fn lp l = some (x, r)) : Ev nt fn lp l x r := ⟨F, fun G hG => run_less hG h⟩
theorem no_nm (s t : Bs) (l : List Tk) : is s (nm t :: l) = none := by simp [is, nm]
end Pars
namespace Pars
open Lexy (Tk sg)
theorem ct_none : Ct (fun _ => none) := ⟨good_none, fun u w r x h => by cases h⟩
theorem ct_pure (x : Node) : Ct (fun l => some (x, l)) := ⟨good_pure x, fun u w r y h => by
 injection h with h; injection h with h1 h2
 rw [h1, List.append_cancel_right h2]⟩
theorem is_cut {s : Bs} {u r l' : List Tk} (h : is s (u ++ r) = some l') (hu : u ≠ []) : ∃ u', l' = u' ++ r ∧ is s u = some u' := by
 cases u with
 | nil => exact absurd rfl hu
 | cons t u =>
  simp only [List.cons_append, is] at h ⊢
  by_cases hc : (t.kind = 4 ∨ t.kind = 5) ∧ t.text = s
  ·rw [if_pos hc] at h ⊢
   injection h with h
   exact ⟨u, h.symm, rfl⟩
  ·rw [if_neg hc] at h; cases h
theorem is_cut_no {s : Bs} {u r : List Tk} (h : is s (u ++ r) = none) : is s u = none := by
 cases u with
 | nil => rfl
 | cons t u =>
  simp only [List.cons_append, is] at h ⊢
  by_cases hc : (t.kind = 4 ∨ t.kind = 5) ∧ t.text = s
  ·rw [if_pos hc] at h; cases h
  ·rw [if_neg hc]
theorem good_long {p : List Tk → R} (h : Good p) {t : Tk} {l w : List Tk} {x : Node} (e : p l = some (x, w ++ t :: l)) : False := by
 obtain ⟨⟨u, hu⟩, _⟩ := h _ _ _ e
 have := congrArg List.length hu
 simp at this
 omega
theorem ct_alt {s : Bs} {f g : List Tk → R} (hf : Ct f) (hg : Ct g) : Ct (fun l => alt s l f (g l)) := by
 refine ⟨good_alt hf.good hg.good, fun u w r x h => ?_⟩
 cases hi : is s (u ++ r) with
 | none =>
  simp only [alt, hi] at h
  simp only [alt, is_cut_no hi]
  exact hg.cut u w r x h
 | some l' =>
  simp only [alt, hi] at h
  by_cases hu : u = []
  ·subst hu
   obtain ⟨⟨t, ht, _⟩, _⟩ := is_some hi
   simp only [List.nil_append] at ht
   rw [ht] at h
   exact (good_long hf.good h).elim
  ·obtain ⟨u', h1, h2⟩ := is_cut hi hu
   rw [h1] at h
   simp only [alt, h2]
   exact hf.cut u' w r x h
theorem ct_must {s : Bs} {f : List Tk → R} (hf : Ct f) : Ct (fun l => must s l f) := ct_alt hf ct_none
theorem ct_tok {k : Nat} {f : Tk → List Tk → R} {g : List Tk → R} (hf : ∀ t, Ct (f t)) (hg : Ct g) : Ct (fun l => tok k l f (g l)) := by
 refine ⟨good_tok (fun t => (hf t).good) hg.good, fun u w r x h => ?_⟩
 cases u with
 | nil =>
  cases r with
  | nil => exact hg.cut [] w [] x h
  | cons t r =>
   simp only [List.nil_append, tok] at h
   by_cases hk : t.kind = k
   ·rw [if_pos hk] at h; exact (good_long (hf t).good h).elim
   ·rw [if_neg hk] at h; exact hg.cut [] w (t :: r) x h
 | cons t u =>
  simp only [List.cons_append, tok] at h ⊢
  by_cases hk : t.kind = k
  ·rw [if_pos hk] at h ⊢; exact (hf t).cut u w r x h
  ·rw [if_neg hk] at h ⊢; exact hg.cut (t :: u) w r x h
theorem ct_named {f : Bs → List Tk → R} (hf : ∀ s, Ct (f s)) : Ct (fun l => named l f) := ct_tok (fun t => hf t.text) ct_none
theorem ct_and {p : List Tk → R} {q : Node → List Tk → R} (hp : Ct p) (hq : ∀ x, Ct (q x)) : Ct (fun l => andThen (p l) q) := by
 refine ⟨good_and hp.good fun x => (hq x).good, fun u w r x h => ?_⟩
 cases hi : p (u ++ r) with
 | none => simp only [andThen, hi] at h; cases h
 | some y =>
  obtain ⟨y, l1⟩ := y
  simp only [andThen, hi] at h
  obtain ⟨⟨u2, hu2⟩, _⟩ := (hq y).good _ _ _ h
  rw [← List.append_assoc] at hu2
  subst hu2
  simp only [andThen, hp.cut u (u2 ++ w) r y hi]
  exact (hq y).cut (u2 ++ w) w r x h
theorem ct_signs {ss : List Bs} {f : Bs → List Tk → R} {g : List Tk → R} (hf : ∀ s, Ct (f s)) (hg : Ct g) : Ct (fun l => signs ss l f (g l)) := by
 have key : ∀ ss, Ct (fun l => signs ss l f (g l)) := by
  intro ss
  induction ss with
  | nil => exact hg
  | cons a ss ih =>
   have e : (fun l => signs (a :: ss) l f (g l)) = fun l => alt a l (f a) (signs ss l f (g l)) := by
    funext l
    simp only [signs, anyOf, alt]
    cases is a l <;> rfl
   rw [e]
   exact ct_alt (hf a) ih
 exact key ss
theorem ct_peek {s : Bs} {a b : List Tk → R} (ha : Ct a) (hs : Short true a) (hb : Ct b) : Ct (fun l => peek s l (a l) (b l)) := by
 refine ⟨good_peek ha.good hb.good, fun u w r x h => ?_⟩
 cases u with
 | nil =>
  cases r with
  | nil => exact hb.cut [] w [] x h
  | cons t r =>
   simp only [List.nil_append, peek] at h
   by_cases hk : t.kind = 4 ∧ t.text = s
   ·rw [if_pos hk] at h
    have := (hs _ _ _ h).2 rfl
    simp only [List.length_append, List.length_cons] at this
    omega
   ·rw [if_neg hk] at h; exact hb.cut [] w (t :: r) x h
 | cons t u =>
  simp only [List.cons_append, peek] at h ⊢
  by_cases hk : t.kind = 4 ∧ t.text = s
  ·rw [if_pos hk] at h ⊢; exact ha.cut (t :: u) w r x h
  ·rw [if_neg hk] at h ⊢; exact hb.cut (t :: u) w r x h
theorem ct_sep {more : Bool} {f : List Tk → R} (hf : Ct f) : Ct (fun l => sep more l f) := by
 cases more
 ·exact hf
 ·exact ct_must hf
theorem ct_ite {c : Prop} [Decidable c] {p q : List Tk → R} (hp : Ct p) (hq : Ct q) : Ct (fun l => if c then p l else q l) := by
 by_cases h : c
 ·simpa [h] using hp
 ·simpa [h] using hq
theorem ct_ended (x : Node) : Ct (fun l => ended x l) := ct_must (ct_pure x)
theorem run_ct : ∀ n nt fn lp, Ct (fun l => run n nt fn lp l)
 | 0, nt, fn, lp => by simp only [run]; exact ct_none
 | n + 1, nt, fn, lp => by
  have ih := run_ct n
  have hb : ∀ fn lp, Short true (fun l => run n .block fn lp l) := fun fn lp => run_short n .block fn lp
  cases nt <;> simp only [run] <;>
  repeat' first
   | exact ih _ _ _
   | exact hb _ _
   | exact ct_none
   | exact ct_pure _
   | exact ct_ended _
   | (refine ct_must ?_)
   | (refine ct_named fun _ => ?_)
   | (refine ct_alt ?_ ?_)
   | (refine ct_and ?_ fun _ => ?_)
   | (refine ct_tok (fun _ => ?_) ?_)
   | (refine ct_signs (fun _ => ?_) ?_)
   | (refine ct_peek ?_ ?_ ?_)
   | (refine ct_sep ?_)
   | (refine ct_ite ?_ ?_)
theorem fin_none : Fin (fun _ => none) := fun l x h => by cases h
theorem fin_pure (x : Node) : Fin (fun l => some (x, l)) := fun l y h m hm => by
 injection h with h; injection h with h1 h2; subst h1 h2; rfl
theorem fin_alt_f {s : Bs} {f g : List Tk → R} (hs : ∀ m, NoE m → is s m = none) (hf : Fin f) (hg : Fin g) : Fin (fun l => alt s l f (g l)) := by
 intro l x h m hm
 cases hi : is s l with
 | none =>
  simp only [alt, hi] at h
  have h2 : is s (l ++ m) = none := by
   cases l with
   | nil => exact hs m hm
   | cons t l => exact is_none hi (by simp) m
  simp only [alt, h2]
  exact hg l x h m hm
 | some l' =>
  simp only [alt, hi] at h
  simp only [alt, (is_some hi).2 m]
  exact hf l' x h m hm
theorem fin_alt_e {s : Bs} {f g : List Tk → R} (hg0 : g [] = none) (hf : Fin f) (hg : Fin g) : Fin (fun l => alt s l f (g l)) := by
 intro l x h m hm
 cases hi : is s l with
 | none =>
  simp only [alt, hi] at h
  have hl : l ≠ [] := by rintro rfl; rw [hg0] at h; cases h
  simp only [alt, is_none hi hl m]
  exact hg l x h m hm
 | some l' =>
  simp only [alt, hi] at h
  simp only [alt, (is_some hi).2 m]
  exact hf l' x h m hm
theorem fin_must {s : Bs} {f : List Tk → R} (hf : Fin f) : Fin (fun l => must s l f) := fin_alt_e rfl hf fin_none
theorem fin_tok {k : Nat} {f : Tk → List Tk → R} {g : List Tk → R} (hg0 : g [] = none) (hf : ∀ t, Fin (f t)) (hg : Fin g) : Fin (fun l => tok k l f (g l)) := by
 intro l x h m hm
 cases l with
 | nil => simp only [tok] at h; rw [hg0] at h; cases h
 | cons t l =>
  simp only [tok, List.cons_append] at h ⊢
  by_cases hk : t.kind = k
  ·rw [if_pos hk] at h ⊢; exact hf t l x h m hm
  ·rw [if_neg hk] at h ⊢; exact hg (t :: l) x h m hm
theorem fin_named {f : Bs → List Tk → R} (hf : ∀ s, Fin (f s)) : Fin (fun l => named l f) := fin_tok rfl (fun t => hf t.text) fin_none
theorem fin_and_a {p : List Tk → R} {q : Node → List Tk → R} (hp : Good p) (hp2 : Fin p) (hq : ∀ x, Fin (q x)) : Fin (fun l => andThen (p l) q) := by
 intro l x h m hm
 cases hi : p l with
 | none => simp only [andThen, hi] at h; cases h
 | some y =>
  obtain ⟨y, l1⟩ := y
  simp only [andThen, hi] at h
  by_cases h1 : l1 = []
  ·subst h1
   simp only [andThen, hp2 l y hi m hm]
   simpa using hq y [] x h m hm
  ·simp only [andThen, (hp l y l1 hi).2 h1 m]
   exact hq y l1 x h m hm
theorem fin_and_b {p : List Tk → R} {q : Node → List Tk → R} (hp : Good p) (hq0 : ∀ x, q x [] = none) (hq : ∀ x, Fin (q x)) : Fin (fun l => andThen (p l) q) := by
 intro l x h m hm
 cases hi : p l with
 | none => simp only [andThen, hi] at h; cases h
 | some y =>
  obtain ⟨y, l1⟩ := y
  simp only [andThen, hi] at h
  have h1 : l1 ≠ [] := by rintro rfl; rw [hq0] at h; cases h
  simp only [andThen, (hp l y l1 hi).2 h1 m]
  exact hq y l1 x h m hm
theorem fin_signs_f {ss : List Bs} {f : Bs → List Tk → R} {g : List Tk → R} (hs : ∀ s ∈ ss, ∀ m, NoE m → is s m = none) (hf : ∀ s, Fin (f s)) (hg : Fin g) : Fin (fun l => signs ss l f (g l)) := by
 induction ss with
 | nil => exact hg
 | cons a ss ih =>
  have e : (fun l => signs (a :: ss) l f (g l)) = fun l => alt a l (f a) (signs ss l f (g l)) := by
   funext l
   simp only [signs, anyOf, alt]
   cases is a l <;> rfl
  rw [e]
  exact fin_alt_f (hs a (by simp)) (hf a) (ih fun s h => hs s (by simp [h]))
theorem fin_signs_e {ss : List Bs} {f : Bs → List Tk → R} {g : List Tk → R} (hg0 : g [] = none) (hf : ∀ s, Fin (f s)) (hg : Fin g) : Fin (fun l => signs ss l f (g l)) := by
 have h0 : ∀ ss : List Bs, signs ss [] f (g []) = none := by
  intro ss
  induction ss with
  | nil => exact hg0
  | cons a ss ih => simp only [signs, anyOf, is] at ih ⊢; exact ih
 induction ss with
 | nil => exact hg
 | cons a ss ih =>
  have e : (fun l => signs (a :: ss) l f (g l)) = fun l => alt a l (f a) (signs ss l f (g l)) := by
   funext l
   simp only [signs, anyOf, alt]
   cases is a l <;> rfl
  rw [e]
  exact fin_alt_e (h0 ss) (hf a) ih
theorem fin_sep {more : Bool} {f : List Tk → R} (hf : Fin f) : Fin (fun l => sep more l f) := by
 cases more
 ·exact hf
 ·exact fin_must hf
theorem fin_ends {n : Nat} {nt : Nt} {fn lp : Bool} (h : ender nt = true) : Fin (fun l => run n nt fn lp l) := fun l x e m hm => run_ends n nt fn lp h l x e m hm.1
def exN : Nt → Bool
 | .inner => true
 | .expression => true
 | .cond => true
 | .binary _ => true
 | .binGo _ _ => true
 | .unary => true
 | .post _ => true
 | .first => true
 | .some _ .expression _ _ => true
 | .some _ .pair _ _ => true
 | .pair => true
 | _ => false
theorem some_nil (n : Nat) (f : Bs) (one : Nt) (h : eater one = true) (m : Bool) (acc : List Node) (fn lp : Bool) : run n (.some f one m acc) fn lp [] = none := by
 cases n with
 | zero => rfl
 | succ n => cases m <;> simp [run, alt, is, sep, must, eats n one fn lp h, andThen]
theorem run_fin : ∀ n nt fn lp, exN nt = true → Fin (fun l => run n nt fn lp l)
 | 0, nt, fn, lp, _ => by simp only [run]; exact fin_none
 | n + 1, nt, fn, lp, h => by
  have ih := run_fin n
  have ig := run_good n
  have ie := eats n
  have f61 : ∀ m, NoE m → is [61] m = none := fun m h => h.2.2.1
  have f63 : ∀ m, NoE m → is [63] m = none := fun m h => h.2.2.2
  have fp : ∀ m, NoE m → is [40] m = none ∧ is [91] m = none ∧ is [46] m = none := fun m h => h.2.1.post
  have frk : ∀ r, ∀ s ∈ ranks.getD r [], ∀ m, NoE m → is s m = none := fun r s hs m hm => (hm.2.1.le (Nat.zero_le r)).rank s hs
  cases nt <;> simp only [exN, Bool.false_eq_true] at h
  case inner =>
   simp only [run]
   exact fin_must (fin_and_b (ig _ _ _) (fun e => rfl) fun e => fin_must (fin_pure _))
  case expression =>
   simp only [run]
   refine fin_and_a (ig _ _ _) (ih _ _ _ rfl) fun e => fin_alt_f f61 ?_ (fin_pure _)
   by_cases hk : e.kind = 5 ∨ e.kind = 12 ∨ e.kind = 13
   ·simp only [if_pos hk]
    exact fin_and_a (ig _ _ _) (ih _ _ _ rfl) fun v => fin_pure _
   ·simp only [if_neg hk]; exact fin_none
  case cond =>
   simp only [run]
   exact fin_and_a (ig _ _ _) (ih _ _ _ rfl) fun e => fin_alt_f f63 (fin_and_b (ig _ _ _) (fun a => rfl) fun a => fin_must (fin_and_a (ig _ _ _) (ih _ _ _ rfl) fun b => fin_pure _)) (fin_pure _)
  case binary r =>
   simp only [run]
   by_cases hr : r = 6
   ·simp only [if_pos hr]; exact ih _ _ _ rfl
   ·simp only [if_neg hr]; exact fin_and_a (ig _ _ _) (ih _ _ _ rfl) fun e => ih _ _ _ rfl
  case binGo r e =>
   simp only [run]
   exact fin_signs_f (frk r) (fun s => fin_and_a (ig _ _ _) (ih _ _ _ rfl) fun b => ih _ _ _ rfl) (fin_pure _)
  case unary =>
   simp only [run]
   exact fin_signs_e (by rw [ie _ _ _ rfl]; rfl) (fun s => fin_and_a (ig _ _ _) (ih _ _ _ rfl) fun e => fin_pure _) (fin_and_a (ig _ _ _) (ih _ _ _ rfl) fun e => ih _ _ _ rfl)
  case post e =>
   simp only [run]
   refine fin_alt_f (fun m hm => (fp m hm).1) (fin_and_a (ig _ _ _) (ih _ _ _ rfl) fun ar => ih _ _ _ rfl) (fin_alt_f (fun m hm => (fp m hm).2.1) (fin_and_b (ig _ _ _) (fun i => rfl) fun i => fin_must (ih _ _ _ rfl)) (fin_alt_f (fun m hm => (fp m hm).2.2) (fin_named fun s => ih _ _ _ rfl) (fin_pure _)))
  case first =>
   have en : ∀ nt, eater nt = true → run n nt fn lp [] = none := fun nt h => ie nt fn lp h
   have e0 : run n .inner fn lp [] = none := en _ rfl
   simp only [run]
   refine fin_tok (by simp [tok, alt, is, e0]) (fun t => fin_pure _) (fin_tok (by simp [tok, alt, is, e0]) (fun t => fin_pure _) (fin_tok (by simp [alt, is, e0]) (fun t => fin_pure _) ?_))
   refine fin_alt_e (by simp [alt, is, e0]) (fin_pure _) (fin_alt_e (by simp [alt, is, e0]) (fin_pure _) (fin_alt_e (by simp [alt, is, e0]) (fin_pure _) (fin_alt_e (by simp [alt, is, e0]) (fin_ends rfl) ?_)))
   refine fin_alt_e (by simp [alt, is, e0]) (fin_and_a (ig _ _ _) (ih _ _ _ rfl) fun ar => fin_pure _) (fin_alt_e e0 (fin_and_a (ig _ _ _) (ih _ _ _ rfl) fun ar => fin_pure _) (ih _ _ _ rfl))
  case some fin one more acc =>
   cases one <;> simp only [exN, Bool.false_eq_true] at h
   ·simp only [run]
    refine fin_alt_e (by cases more <;> simp [sep, must, alt, is, andThen, eats n .expression fn lp rfl]) (fin_pure _) (fin_sep (fin_and_b (ig _ _ _) (fun x => some_nil n _ _ rfl _ _ _ _) fun x => ih _ _ _ rfl))
   ·simp only [run]
    refine fin_alt_e (by cases more <;> simp [sep, must, alt, is, andThen, eats n .pair fn lp rfl]) (fin_pure _) (fin_sep (fin_and_b (ig _ _ _) (fun x => some_nil n _ _ rfl _ _ _ _) fun x => ih _ _ _ rfl))
  case pair =>
   simp only [run]
   exact fin_named fun s => fin_must (fin_and_a (ig _ _ _) (ih _ _ _ rfl) fun e => fin_pure _)
theorem ev_swap {fn lp : Bool} {u r : List Tk} {x : Node} (h : Ev .expression fn lp (u ++ r) x r) {m : List Tk} (hm : NoE m) : Ev .expression fn lp (u ++ m) x m := by
 obtain ⟨n, h⟩ := h.one
 have h1 := (run_ct (n + 1) .expression fn lp).cut u [] r x (by simpa using h)
 exact ev_run (run_fin (n + 1) .expression fn lp rfl u x h1 m hm)
theorem ev_cut {fn lp : Bool} {u r : List Tk} {x : Node} (h : Ev .expression fn lp (u ++ r) x r) : Ev .expression fn lp u x [] := by
 obtain ⟨n, h⟩ := h.one
 exact ev_run ((run_ct (n + 1) .expression fn lp).cut u [] r x (by simpa using h))
theorem ev_split {fn lp : Bool} {nt : Nt} {l r : List Tk} {x : Node} (h : Ev nt fn lp l x r) : ∃ u, l = u ++ r := by
 obtain ⟨n, h⟩ := h.one
 exact (run_good (n + 1) nt fn lp l x r h).1
theorem ev_more {fn lp : Bool} {nt : Nt} {l r : List Tk} {x : Node} (h : Ev nt fn lp l x r) (hr : r ≠ []) (m : List Tk) : Ev nt fn lp (l ++ m) x (r ++ m) := by
 obtain ⟨n, h⟩ := h.one
 exact ev_run ((run_good (n + 1) nt fn lp l x r h).2 hr m)
theorem ev_uniq {fn lp : Bool} {nt : Nt} {l r r' : List Tk} {x x' : Node} (h : Ev nt fn lp l x r) (h' : Ev nt fn lp l x' r') : x = x' ∧ r = r' := by
 obtain ⟨F, h⟩ := h
 obtain ⟨F', h'⟩ := h'
 have := (h (max F F') (by omega)).symm.trans (h' (max F F') (by omega))
 injection this with this
 injection this with h1 h2
 exact ⟨h1, h2⟩
end Pars
namespace Wri
open Go (ln bn)
open Pars
open Lexy (Tk sg kw nm)
section
variable {H : List Tk → Prop} {d : Int} {f : Node → Int} {P : Node → Prop}
theorem cw_none : Cw H d f P (fun _ => none) := fun l x r _ _ h => by cases h
theorem cw_pure {x : Node} (hp : P x) (hx : f x ≤ d) : Cw H d f P (fun l => some (x, l)) := fun l y r ht _ h => by
 injection h with h; injection h with h1 h2; subst h1 h2; exact ⟨hp, by omega, ht⟩
theorem cw_alt {s : Bs} {F G : List Tk → R} (hF : (∃ l r, TGs l ∧ H l ∧ is s l = some r) → Cw Tr (d + 1) f P F) (hG : Cw (fun l => H l ∧ is s l = none) d f P G) : Cw H d f P (fun l => alt s l F (G l)) := by
 intro l x r ht hl h
 cases hi : is s l with
 | none => simp only [alt, hi] at h; exact hG l x r ht ⟨hl, hi⟩ h
 | some l' =>
  simp only [alt, hi] at h
  have hc := hF ⟨l, l', ht, hl, hi⟩
  obtain ⟨⟨t, rfl, _⟩, _⟩ := is_some hi
  obtain ⟨h1, h2, h3⟩ := hc l' x r ht.tail trivial h
  exact ⟨h1, by simp only [List.length_cons]; omega, h3⟩
theorem cw_must {s : Bs} {F : List Tk → R} (hF : Cw Tr (d + 1) f P F) : Cw H d f P (fun l => must s l F) := cw_alt (fun _ => hF) cw_none
theorem cw_tok {k : Nat} {F : Tk → List Tk → R} {G : List Tk → R} (hF : ∀ t, TG t → t.kind = k → Cw Tr (d + 1) f P (F t)) (hG : Cw H d f P G) : Cw H d f P (fun l => tok k l F (G l)) := by
 intro l x r ht hl h
 cases l with
 | nil => exact hG [] x r ht hl h
 | cons t l =>
  simp only [tok] at h
  by_cases hk : t.kind = k
  ·rw [if_pos hk] at h
   obtain ⟨h1, h2, h3⟩ := hF t (ht t (by simp)) hk l x r ht.tail trivial h
   exact ⟨h1, by simp only [List.length_cons]; omega, h3⟩
  ·rw [if_neg hk] at h; exact hG _ x r ht hl h
theorem cw_named {F : Bs → List Tk → R} (hF : ∀ s, name s = true → Cw Tr (d + 1) f P (F s)) : Cw H d f P (fun l => named l F) := cw_tok (fun t ht hk => hF t.text (ht.1 hk)) cw_none
theorem cw_and {a : Int} {g : Node → Int} {Q : Node → Prop} {p : List Tk → R} {q : Node → List Tk → R} (hp : Cw H a g Q p) (hq : ∀ x, Q x → Cw Tr (d - a + g x) f P (q x)) : Cw H d f P (fun l => andThen (p l) q) := by
 intro l x r ht hl h
 cases hi : p l with
 | none => simp only [andThen, hi] at h; cases h
 | some y =>
  obtain ⟨y, l1⟩ := y
  simp only [andThen, hi] at h
  obtain ⟨h1, h2, h3⟩ := hp l y l1 ht hl hi
  obtain ⟨h4, h5, h6⟩ := hq y h1 l1 x r h3 trivial h
  exact ⟨h4, by omega, h6⟩
theorem any_mem {ss : List Bs} {s : Bs} {l r : List Tk} (h : anyOf ss l = some (s, r)) : s ∈ ss := by
 induction ss with
 | nil => simp [anyOf] at h
 | cons a ss ih =>
  unfold anyOf at h
  cases hi : is a l with
  | none => rw [hi] at h; simp only at h; exact List.mem_cons_of_mem _ (ih h)
  | some q => rw [hi] at h; injection h with h; injection h with h1 _; rw [h1]; exact List.mem_cons_self
theorem cw_signs {ss : List Bs} {F : Bs → List Tk → R} {G : List Tk → R} (hF : ∀ s ∈ ss, Cw Tr (d + 1) f P (F s)) (hG : Cw H d f P G) : Cw H d f P (fun l => signs ss l F (G l)) := by
 intro l x r ht hl h
 cases hi : anyOf ss l with
 | none => simp only [signs, hi] at h; exact hG l x r ht hl h
 | some y =>
  obtain ⟨s, l'⟩ := y
  simp only [signs, hi] at h
  have hs := any_mem hi
  obtain ⟨⟨t, rfl⟩, _⟩ := any_some hi
  obtain ⟨h1, h2, h3⟩ := hF s hs l' x r ht.tail trivial h
  exact ⟨h1, by simp only [List.length_cons]; omega, h3⟩
theorem cw_peek {s : Bs} {a b : List Tk → R} (ha : Cw H d f P a) (hb : Cw (fun l => H l ∧ ∀ t r, l = t :: r → ¬ (t.kind = 4 ∧ t.text = s)) d f P b) : Cw H d f P (fun l => peek s l (a l) (b l)) := by
 intro l x r ht hl h
 cases l with
 | nil => exact hb [] x r ht ⟨hl, fun t r h => by cases h⟩ h
 | cons t l =>
  simp only [peek] at h
  by_cases hk : t.kind = 4 ∧ t.text = s
  ·rw [if_pos hk] at h; exact ha (t :: l) x r ht hl h
  ·rw [if_neg hk] at h; exact hb (t :: l) x r ht ⟨hl, fun t' r' he => by injection he with h1 _; rw [← h1]; exact hk⟩ h
theorem cw_sep {more : Bool} {F : List Tk → R} (h0 : more = false → Cw H d f P F) (h1 : more = true → Cw Tr (d + 1) f P F) : Cw H d f P (fun l => sep more l F) := by
 cases more
 ·exact h0 rfl
 ·exact cw_must (h1 rfl)
theorem cw_ite {c : Prop} [Decidable c] {p q : List Tk → R} (hp : c → Cw H d f P p) (hq : ¬ c → Cw H d f P q) : Cw H d f P (fun l => if c then p l else q l) := by
 by_cases h : c
 ·simpa [h] using hp h
 ·simpa [h] using hq h
theorem cw_ended {x : Node} (hp : P x) (hx : f x ≤ d + 1) : Cw H d f P (fun l => ended x l) := cw_must (cw_pure hp hx)
end
def fr (q : Int) (x : Node) : Int := if rank x < q then 0 else front x
def dq (h : Bool) (q : Int) (x : Node) : Int := cq q x + if h then 0 else ext (fr q x)
theorem ext_le (f : Int) : 0 ≤ ext f ∧ ext f ≤ 2 := by unfold ext; split <;> omega
theorem ext0 : ext 0 = 0 := rfl
theorem cq_eq (q : Int) (x : Node) : cq q x = if q ≤ rank x then ((tw x .ex).length : Int) else (tw x .ex).length + 2 := by
 unfold cq; rw [tw_at]
 split
 ·rfl
 ·simp; omega
theorem dq_true (q : Int) (x : Node) : dq true q x = cq q x := by simp [dq]
theorem dq_up (h : Bool) (q p : Int) (hq : q ≤ p) (x : Node) : dq h q x ≤ dq h p x := by
 unfold dq fr
 rw [cq_eq, cq_eq]
 have := ext_le (front x)
 cases h <;> simp only [if_true, if_false, Bool.false_eq_true]
 ·by_cases h1 : rank x < q
  ·rw [if_neg (by omega), if_pos h1, if_neg (by omega), if_pos (by omega)]; omega
  ·rw [if_pos (by omega), if_neg h1]
   by_cases h2 : rank x < p
   ·rw [if_neg (by omega), if_pos h2, ext0]; omega
   ·rw [if_pos (by omega), if_neg h2]; omega
 ·by_cases h1 : q ≤ rank x
  ·rw [if_pos h1]; split <;> omega
  ·rw [if_neg h1, if_neg (by omega)]; omega
theorem dq_inner (h : Bool) (q : Int) (x : Node) : dq h q x ≤ cq (-2) x + 2 := by
 have hr := (rank_ge x).1
 unfold dq fr
 rw [cq_eq, cq_eq, if_pos hr]
 have := ext_le (front x)
 by_cases h1 : rank x < q
 ·rw [if_neg (by omega), if_pos h1, ext0]; cases h <;> simp
 ·rw [if_pos (by omega), if_neg h1]
  cases h <;> simp only [if_true, if_false, Bool.false_eq_true] <;> omega
theorem dq_false_two (x : Node) : dq false (-2) x = cq (-2) x + ext (front x) := by
 have hr := (rank_ge x).1
 have e : fr (-2) x = front x := by unfold fr; rw [if_neg (by omega)]
 unfold dq; rw [e]; simp
theorem dq_high (h : Bool) {x : Node} (hr : 7 ≤ rank x) (q : Int) (hq : q ≤ 7) : dq h q x = dq h 7 x := by
 have e1 : fr q x = front x := by unfold fr; rw [if_neg (by omega)]
 have e2 : fr 7 x = front x := by unfold fr; rw [if_neg (by omega)]
 have e3 : cq q x = ((tw x .ex).length : Int) := by rw [cq_eq, if_pos (by omega)]
 have e4 : cq 7 x = ((tw x .ex).length : Int) := by rw [cq_eq, if_pos (by omega)]
 unfold dq; rw [e1, e2, e3, e4]
theorem ranks_mem : ∀ r, r < 6 → ∀ s ∈ Pars.ranks.getD r [], s = [124, 124] ∧ r = 0 ∨ s = [38, 38] ∧ r = 1 ∨ s ∈ binS ∧ rankOf 0 Pars.ranks s = (r : Int) ∧ s ≠ [124, 124] ∧ s ≠ [38, 38] := by decide
theorem joined_is {r : Nat} (hr : r < 6) {s : Bs} (hs : s ∈ Pars.ranks.getD r []) (a b : Node) : rank (joined s a b) = r ∧ tw (joined s a b) .ex = tw a (.at (r : Int)) ++ [sg s] ++ tw b (.at ((r : Int) + 1)) ∧ front (joined s a b) = fr r a ∧
  ∀ fn lp, isE a → Rt fn lp a → isE b → Rt fn lp b → isE (joined s a b) ∧ Rt fn lp (joined s a b) := by
 rcases ranks_mem r hr s hs with ⟨rfl, rfl⟩ | ⟨rfl, rfl⟩ | ⟨h1, h2, h3, h4⟩
 ·exact ⟨rfl, rfl, rfl, fun fn lp h1 h2 h3 h4 => ⟨by simp [joined, isE, Node.kind], .or_ fn lp a b h1 h2 h3 h4⟩⟩
 ·exact ⟨rfl, rfl, rfl, fun fn lp h1 h2 h3 h4 => ⟨by simp [joined, isE, Node.kind], .and_ fn lp a b h1 h2 h3 h4⟩⟩
 ·have e : joined s a b = .mk 15 0 s [a, b] := by unfold joined; rw [if_neg h3, if_neg h4]
  rw [e]
  refine ⟨h2, ?_, ?_, fun fn lp g1 g2 g3 g4 => ⟨by simp [isE, Node.kind], .binary fn lp s a b h1 g1 g2 g3 g4⟩⟩
  ·show tw a (.at (rankOf 0 Pars.ranks s)) ++ [sg s] ++ tw b (.at (rankOf 0 Pars.ranks s + 1)) = _
   rw [h2]
  ·show (if rank a < rankOf 0 Pars.ranks s then 0 else front a) = _
   rw [h2]; rfl
theorem dq_joined (h : Bool) {r : Nat} (hr : r < 6) {s : Bs} (hs : s ∈ Pars.ranks.getD r []) (a b : Node) : dq h r (joined s a b) = dq h r a + 1 + cq ((r : Int) + 1) b := by
 obtain ⟨h1, h2, h3, _⟩ := joined_is hr hs a b
 have hf : fr (r : Int) (joined s a b) = fr r a := by
  rw [show fr (r : Int) (joined s a b) = if rank (joined s a b) < (r : Int) then 0 else front (joined s a b) from rfl, h1, if_neg (by omega), h3]
 unfold dq
 rw [hf, cq_eq, h1, if_pos (by omega), h2]
 unfold cq
 simp only [ln]
 omega
end Wri
