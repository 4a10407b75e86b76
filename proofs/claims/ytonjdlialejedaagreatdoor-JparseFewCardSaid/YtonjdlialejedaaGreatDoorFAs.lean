/-
  Texts that the law leans on: PlL, PlI, PlH, PlJ, LexB. Conditions: as each says.
-/
import Derived.Test.YtonjdlialejedaaGreatDoorFAr
import Derived.Test.YtonjdlialejedaaGreatDoorFAq
import Derived.Test.YtonjdlialejedaaGreatDoorFAa
set_option linter.unusedSimpArgs false
set_option linter.unusedVariables false
namespace Wri
open Go (ln bn)
open Pars
open Lexy (Tk sg kw nm)
def RP (fn lp : Bool) : Nt → Node → Prop
 | .block, x => x.kind = 30 ∧ Rt fn lp x
 | .blockGo _, x => x.kind = 30 ∧ Rt fn lp x
 | .body f, x => x.kind = 30 ∧ Rt (fn || f) (!f) x
 | .function s, x => x.kind = 9 ∧ x.text = s ∧ Rt fn lp x
 | .ifs, x => x.kind = 22 ∧ Rt fn lp x
 | .loops, x => x.kind = 24 ∧ Rt fn lp x
 | .tries, x => x.kind = 29 ∧ Rt fn lp x
 | .statement, x => (20 ≤ x.kind ∧ x.kind ≤ 31) ∧ Rt fn lp x
 | .some _ one _ _, x => ∀ y ∈ x.kids, RP fn lp one y
 | .param, x => ∃ p, x = .mk 10 0 p [] ∧ name p = true
 | .pair, x => x.kind = 8 ∧ Rt fn lp x
 | _, x => isE x ∧ Rt fn lp x
def TT : Nt → Node → List Tk
 | .param, y => [nm y.text]
 | .pair, y => tw y .pair
 | _, y => tw y (.at (-2))
def fc (h : Bool) : Nt → Node → Int
 | .block, x => (tw x .block).length
 | .blockGo _, x => (tw x .block).length
 | .body _, x => (tw x .block).length
 | .function _, x => (tw x .fn).length
 | .inner, x => cq (-2) x + 2
 | .ifs, x => (tw x .ifs).length
 | .loops, x => (tw x .stmt).length
 | .tries, x => (tw x .stmt).length
 | .statement, x => (tw x .stmt).length
 | .expression, x => dq h (-2) x
 | .cond, x => dq h (-2) x
 | .binary r, x => dq h r x
 | .binGo r _, x => dq h r x
 | .unary, x => dq h 6 x
 | .post _, x => dq h 7 x
 | .first, x => dq h 7 x
 | .some _ one _ _, x => (tjoin (x.kids.map (TT one))).length + 1
 | .param, _ => 1
 | .pair, x => (tw x .pair).length
def ow (h : Bool) : Nt → Int
 | .blockGo acc => 1 + (acc.flatMap fun x => tw x .stmt).length
 | .function s => 1 + if s = [] then 0 else 1
 | .ifs => 1
 | .loops => 1
 | .tries => 1
 | .binGo r e => dq h r e
 | .post e => dq h 7 e
 | .some _ one _ acc => (tjoin (acc.map (TT one))).length
 | _ => 0
def PRE (fn lp : Bool) : Nt → Prop
 | .blockGo acc => ∀ y ∈ acc, (20 ≤ y.kind ∧ y.kind ≤ 31) ∧ Rt fn lp y
 | .function s => s = [] ∨ name s = true
 | .binGo r e => r < 6 ∧ isE e ∧ Rt fn lp e
 | .post e => isE e ∧ Rt fn lp e
 | .binary r => r ≤ 6
 | .some _ one more acc => (one = .param ∨ one = .expression ∨ one = .pair) ∧ (∀ y ∈ acc, RP fn lp one y) ∧ (more = true ↔ acc ≠ [])
 | _ => True
def HN (h : Bool) : Nt → List Tk → Prop
 | .expression => HH h
 | .cond => HH h
 | .binary _ => HH h
 | .unary => HH h
 | .first => HH h
 | _ => Tr
theorem Cw.tr {q : Int} {P : Node → Prop} {p : List Tk → R} (h : Cw (HH true) 0 (dq true q) P p) : Cw Tr 0 (cq q) P p :=
 (h.imp fun _ _ => .inl rfl).weak (fun x _ => by rw [dq_true]; exact Int.le_refl _) fun _ h => h
theorem Cw.any {d : Int} {f : Node → Int} {P : Node → Prop} {p : List Tk → R} {H : List Tk → Prop} (h : Cw Tr d f P p) : Cw H d f P p := h.imp fun _ _ => trivial
theorem tjoin_snoc : ∀ (l : List (List Tk)) (a : List Tk), l ≠ [] → (tjoin (l ++ [a])).length = (tjoin l).length + 1 + a.length
 | [], _, h => absurd rfl h
 | [b], a, _ => by simp [tjoin]; omega
 | b :: c :: l, a, _ => by
  have ih := tjoin_snoc (c :: l) a (by simp)
  simp only [List.cons_append, tjoin, List.length_append, List.length_cons, List.length_nil] at ih ⊢
  omega
theorem kids_params {fn lp : Bool} : ∀ l : List Node, (∀ y ∈ l, RP fn lp .param y) → ∃ ps : List Bs, l = ps.map (fun p => .mk 10 0 p []) ∧ (∀ p ∈ ps, name p = true) ∧ l.map (TT .param) = ps.map fun p => [nm p]
 | [], _ => ⟨[], rfl, (fun p hp => by cases hp), rfl⟩
 | y :: l, h => by
  obtain ⟨ps, h1, h2, h3⟩ := kids_params l fun z hz => h z (by simp [hz])
  obtain ⟨p, rfl, hp⟩ := h y (by simp)
  refine ⟨p :: ps, by rw [h1]; rfl, fun q hq => ?_, by rw [List.map_cons, h3]; rfl⟩
  rcases List.mem_cons.1 hq with rfl | hq
  ·exact hp
  ·exact h2 q hq
theorem isT_E {e : Node} (h : e.kind = 5 ∨ e.kind = 12 ∨ e.kind = 13) : 7 ≤ rank e := by
 unfold rank; rcases h with h | h | h <;> simp [h]
set_option maxHeartbeats 4000000 in
theorem run_cw : ∀ (n : Nat) nt fn lp h, PRE fn lp nt → Cw (HN h nt) (ow h nt) (fc h nt) (RP fn lp nt) (fun l => run n nt fn lp l)
 | 0, nt, fn, lp, h, _ => by simp only [run]; exact cw_none
 | n + 1, nt, fn, lp, h, hpre => by
  have ih := run_cw n
  have iE : ∀ fn lp, Cw Tr 0 (cq (-2)) (fun x => isE x ∧ Rt fn lp x) (fun l => run n .expression fn lp l) := fun fn lp => (ih .expression fn lp true trivial).tr
  have iB : ∀ fn lp, Cw Tr 0 (fun x => ((tw x .block).length : Int)) (fun x => x.kind = 30 ∧ Rt fn lp x) (fun l => run n .block fn lp l) := fun fn lp => ih .block fn lp true trivial
  have iI : Cw Tr 0 (fun x => cq (-2) x + 2) (fun x => isE x ∧ Rt fn lp x) (fun l => run n .inner fn lp l) := ih .inner fn lp true trivial
  have iY : ∀ f, Cw Tr 0 (fun x => ((tw x .block).length : Int)) (fun x => x.kind = 30 ∧ Rt (fn || f) (!f) x) (fun l => run n (.body f) fn lp l) := fun f => ih (.body f) fn lp true trivial
  have iS : ∀ fin one, (one = .param ∨ one = .expression ∨ one = .pair) → Cw Tr 0 (fun x => ((tjoin (x.kids.map (TT one))).length : Int) + 1) (fun x => ∀ y ∈ x.kids, RP fn lp one y) (fun l => run n (.some fin one false []) fn lp l) := fun fin one ho => ih (.some fin one false []) fn lp true ⟨ho, fun y hy => by (cases hy), by simp⟩
  cases nt
  case block =>
   simp only [run]
   exact cw_must ((ih (.blockGo []) fn lp h (fun y hy => by cases hy)).weak (fun x _ => by simp [ow, fc]) fun _ h => h)
  case blockGo acc =>
   simp only [run]
   refine cw_alt (fun _ => cw_pure ⟨rfl, .block fn lp acc (fun y hy => (hpre y hy).1) fun y hy => (hpre y hy).2⟩ ?_) (cw_and (ih .statement fn lp h trivial).any fun k hk => ?_)
   ·simp only [fc, ow, tw_blk, List.length_append, List.length_cons, List.length_nil]; omega
   ·refine (ih (.blockGo (acc ++ [k])) fn lp h fun y hy => ?_).weak (fun x _ => ?_) fun _ h => h
    ·rcases List.mem_append.1 hy with hy | hy
     ·exact hpre y hy
     ·rw [List.mem_singleton.1 hy]; exact hk
    ·simp only [ow, fc, List.flatMap_append, List.flatMap_cons, List.flatMap_nil, List.append_nil, List.length_append]; omega
  case body f =>
   simp only [run]
   exact iB (fn || f) (!f)
  case function s =>
   simp only [run]
   refine cw_must (cw_and (iS [41] .param (by simp)) fun ps hps => cw_and (iY true) fun b hb => ?_)
   obtain ⟨pl, e1, e2, e3⟩ := kids_params ps.kids hps
   refine cw_pure ⟨rfl, rfl, ?_⟩ ?_
   ·rw [e1]
    refine .func fn lp s pl b hpre e2 hb.1 ?_
    have := hb.2
    rwa [Bool.or_true] at this
   ·rw [e3, e1]
    simp only [fc, ow, tw_func, tlisted, List.length_append, List.length_cons, List.length_nil]
    by_cases hs : s = []
    ·rw [if_pos hs, if_pos hs]; simp only [List.length_nil]; omega
    ·rw [if_neg hs, if_neg hs]; simp only [List.length_cons, List.length_nil]; omega
  case inner =>
   simp only [run]
   exact cw_must (cw_and (iE fn lp) fun e he => cw_must (cw_pure he (by simp only [fc, ow]; omega)))
  case ifs =>
   simp only [run]
   refine cw_and iI fun c hc => cw_and (iB fn lp) fun b hb => cw_alt (fun _ => cw_alt (fun _ => ?_) ?_) ?_
   ·refine cw_and (ih .ifs fn lp h trivial) fun e he => cw_pure ⟨rfl, .if3 fn lp c b e hc.1 hc.2 hb.1 hb.2 (.inr he.1) he.2⟩ ?_
    have e2 : tw (.mk 22 0 [] [c, b, e]) .ifs = [kw Pars.wIf, sg [40]] ++ tw c (.at (-2)) ++ [sg [41]] ++ tw b .block ++ ([kw Pars.wElse] ++ (if e.kind = 22 then tw e .ifs else tw e .block)) := rfl
    rw [show fc h .ifs (.mk 22 0 [] [c, b, e]) = ((tw (.mk 22 0 [] [c, b, e]) .ifs).length : Int) from rfl, e2, if_pos he.1]
    simp only [fc, ow, cq, List.length_append, List.length_cons, List.length_nil]; omega
   ·refine Cw.any (cw_and (iB fn lp) fun e he => cw_pure ⟨rfl, .if3 fn lp c b e hc.1 hc.2 hb.1 hb.2 (.inl he.1) he.2⟩ ?_)
    have e2 : tw (.mk 22 0 [] [c, b, e]) .ifs = [kw Pars.wIf, sg [40]] ++ tw c (.at (-2)) ++ [sg [41]] ++ tw b .block ++ ([kw Pars.wElse] ++ (if e.kind = 22 then tw e .ifs else tw e .block)) := rfl
    have hk := he.1
    rw [show fc h .ifs (.mk 22 0 [] [c, b, e]) = ((tw (.mk 22 0 [] [c, b, e]) .ifs).length : Int) from rfl, e2, if_neg (by omega)]
    simp only [fc, ow, cq, List.length_append, List.length_cons, List.length_nil]; omega
   ·refine cw_pure ⟨rfl, .if2 fn lp c b hc.1 hc.2 hb.1 hb.2⟩ ?_
    have e2 : tw (.mk 22 0 [] [c, b]) .ifs = [kw Pars.wIf, sg [40]] ++ tw c (.at (-2)) ++ [sg [41]] ++ tw b .block ++ [] := rfl
    rw [show fc h .ifs (.mk 22 0 [] [c, b]) = ((tw (.mk 22 0 [] [c, b]) .ifs).length : Int) from rfl, e2]
    simp only [ow, cq, List.length_append, List.length_cons, List.length_nil]; omega
  case loops =>
   simp only [run]
   refine cw_must (cw_must (cw_named fun s hs => cw_must (cw_and (iE fn lp) fun c hc => cw_must (cw_and (iY false) fun b hb => cw_pure ⟨rfl, .for_ fn lp s c b hs hc.1 hc.2 hb.1 ?_⟩ ?_))))
   ·have := hb.2; rwa [Bool.or_false] at this
   ·have e2 : tw (.mk 24 0 s [c, b]) .stmt = [kw Pars.wFor, sg [40], kw Pars.wLet, nm s, kw Pars.wOf] ++ tw c (.at (-2)) ++ [sg [41]] ++ tw b .block := rfl
    rw [show fc h .loops (.mk 24 0 s [c, b]) = ((tw (.mk 24 0 s [c, b]) .stmt).length : Int) from rfl, e2]
    simp only [ow, cq, List.length_append, List.length_cons, List.length_nil]; omega
  case tries =>
   simp only [run]
   refine cw_and (iB fn lp) fun b hb => cw_alt (fun _ => cw_must (cw_named fun s hs => cw_must (cw_and (iB fn lp) fun c hc => cw_alt (fun _ => cw_and (iB fn lp) fun d hd => cw_pure ⟨rfl, .try3 fn lp s b c d hs hb.1 hb.2 hc.1 hc.2 hd.1 hd.2⟩ ?_) (cw_pure ⟨rfl, .try1 fn lp s b c hs hb.1 hb.2 hc.1 hc.2⟩ ?_)))) (cw_alt (fun _ => cw_and (iB fn lp) fun d hd => cw_pure ⟨rfl, .try2 fn lp b d hb.1 hb.2 hd.1 hd.2⟩ ?_) cw_none)
   ·have e2 : tw (.mk 29 3 s [b, c, d]) .stmt = [kw Pars.wTry] ++ tw b .block ++ ([kw Pars.wCatch, sg [40], nm s, sg [41]] ++ tw c .block) ++ ([kw Pars.wFinally] ++ tw d .block) := rfl
    rw [show fc h .tries (.mk 29 3 s [b, c, d]) = ((tw (.mk 29 3 s [b, c, d]) .stmt).length : Int) from rfl, e2]
    simp only [ow, cq, List.length_append, List.length_cons, List.length_nil]; omega
   ·have e2 : tw (.mk 29 1 s [b, c]) .stmt = [kw Pars.wTry] ++ tw b .block ++ ([kw Pars.wCatch, sg [40], nm s, sg [41]] ++ tw c .block) ++ [] := rfl
    rw [show fc h .tries (.mk 29 1 s [b, c]) = ((tw (.mk 29 1 s [b, c]) .stmt).length : Int) from rfl, e2]
    simp only [ow, cq, List.length_append, List.length_cons, List.length_nil]; omega
   ·have e2 : tw (.mk 29 2 [] [b, d]) .stmt = [kw Pars.wTry] ++ tw b .block ++ [] ++ ([kw Pars.wFinally] ++ tw d .block) := rfl
    rw [show fc h .tries (.mk 29 2 [] [b, d]) = ((tw (.mk 29 2 [] [b, d]) .stmt).length : Int) from rfl, e2]
    simp only [ow, cq, List.length_append, List.length_cons, List.length_nil]; omega
  case statement =>
   simp only [run]
   refine cw_alt (fun _ => cw_named fun s hs => cw_must (cw_and (iE fn lp) fun e he => cw_ended ⟨by simp [Node.kind], .let_ fn lp s e hs he.1 he.2⟩ ?_)) ?_
   ·have e2 : tw (.mk 20 0 s [e]) .stmt = [kw Pars.wLet, nm s, sg [61]] ++ tw e (.at (-2)) ++ [sg [59]] := rfl
    rw [show fc h .statement (.mk 20 0 s [e]) = ((tw (.mk 20 0 s [e]) .stmt).length : Int) from rfl, e2]
    simp only [ow, cq, List.length_append, List.length_cons, List.length_nil]; omega
   refine cw_alt (fun _ => cw_named fun s hs => cw_and (ih (.function s) fn lp h (.inr hs)) fun f hf => cw_pure ⟨by simp [Node.kind], .def_ fn lp f hf.1 (by rw [hf.2.1]; exact not3 hs) hf.2.2⟩ ?_) ?_
   ·rw [show fc h .statement (.mk 21 0 [] [f]) = ((tw f .fn).length : Int) from rfl]
    simp only [ow, fc, if_neg (not3 hs)]; omega
   refine cw_alt (fun _ => (ih .ifs fn lp h trivial).weak (fun x hx => ?_) fun x hx => ⟨by rw [hx.1]; decide, hx.2⟩) ?_
   ·have : tw x .stmt = tw x .ifs := by
     obtain ⟨hk, _⟩ := hx
     cases x with | mk k nu t l => obtain rfl : k = 22 := hk; rfl
    simp only [fc, ow, this]; omega
   refine cw_alt (fun _ => cw_and iI fun c hc => cw_and (iY false) fun b hb => cw_pure ⟨by simp [Node.kind], .while_ fn lp c b hc.1 hc.2 hb.1 (by have := hb.2; rwa [Bool.or_false] at this)⟩ ?_) ?_
   ·have e2 : tw (.mk 23 0 [] [c, b]) .stmt = [kw Pars.wWhile, sg [40]] ++ tw c (.at (-2)) ++ [sg [41]] ++ tw b .block := rfl
    rw [show fc h .statement (.mk 23 0 [] [c, b]) = ((tw (.mk 23 0 [] [c, b]) .stmt).length : Int) from rfl, e2]
    simp only [ow, cq, List.length_append, List.length_cons, List.length_nil]; omega
   refine cw_alt (fun _ => (ih .loops fn lp h trivial).weak (fun x hx => by simp only [fc, ow]; omega) fun x hx => ⟨by rw [hx.1]; decide, hx.2⟩) ?_
   refine cw_alt (fun _ => cw_ite (fun _ => cw_none) fun hfn => cw_alt (fun _ => ?_) (Cw.any (cw_and (iE fn lp) fun e he => cw_ended ⟨by simp [Node.kind], ?_⟩ ?_))) ?_
   ·have hfn2 : fn = true := by simpa using hfn
    subst hfn2
    exact cw_pure ⟨by simp [Node.kind], .ret0 lp⟩ (by simp [fc, ow, show tw (.mk 25 0 [] []) .stmt = [kw Pars.wReturn, sg [59]] from rfl])
   ·have hfn2 : fn = true := by simpa using hfn
    subst hfn2
    exact .ret1 lp e he.1 he.2
   ·have e2 : tw (.mk 25 0 [] [e]) .stmt = [kw Pars.wReturn] ++ tw e (.at (-2)) ++ [sg [59]] := rfl
    rw [show fc h .statement (.mk 25 0 [] [e]) = ((tw (.mk 25 0 [] [e]) .stmt).length : Int) from rfl, e2]
    simp only [ow, cq, List.length_append, List.length_cons, List.length_nil]; omega
   refine cw_alt (fun _ => cw_ite (fun _ => cw_none) fun hlp => ?_) ?_
   ·have hlp2 : lp = true := by simpa using hlp
    subst hlp2
    exact cw_ended ⟨by simp [Node.kind], .brk fn⟩ (by simp [fc, ow, show tw (.mk 26 0 [] []) .stmt = [kw Pars.wBreak, sg [59]] from rfl])
   refine cw_alt (fun _ => cw_ite (fun _ => cw_none) fun hlp => ?_) ?_
   ·have hlp2 : lp = true := by simpa using hlp
    subst hlp2
    exact cw_ended ⟨by simp [Node.kind], .cont fn⟩ (by simp [fc, ow, show tw (.mk 27 0 [] []) .stmt = [kw Pars.wContinue, sg [59]] from rfl])
   refine cw_alt (fun _ => cw_and (iE fn lp) fun e he => cw_ended ⟨by simp [Node.kind], .throw fn lp e he.1 he.2⟩ ?_) ?_
   ·have e2 : tw (.mk 28 0 [] [e]) .stmt = [kw Pars.wThrow] ++ tw e (.at (-2)) ++ [sg [59]] := rfl
    rw [show fc h .statement (.mk 28 0 [] [e]) = ((tw (.mk 28 0 [] [e]) .stmt).length : Int) from rfl, e2]
    simp only [ow, cq, List.length_append, List.length_cons, List.length_nil]; omega
   refine cw_alt (fun _ => (ih .tries fn lp h trivial).weak (fun x hx => by simp only [fc, ow]; omega) fun x hx => ⟨by rw [hx.1]; decide, hx.2⟩) ?_
   refine cw_peek (Cw.any ((iB fn lp).weak (fun x hx => ?_) fun x hx => ⟨by rw [hx.1]; decide, hx.2⟩)) ?_
   ·have : tw x .stmt = tw x .block := by
     obtain ⟨hk, _⟩ := hx
     cases x with | mk k nu t l => obtain rfl : k = 30 := hk; rfl
    simp only [fc, ow, this]; omega
   refine cw_and ((ih .expression fn lp false trivial).imp fun l hl => .inr ⟨hl.1.1.1.1.1.1.1.1.1.2, hl.2⟩) fun e he => cw_ended ⟨by simp [Node.kind], .expr fn lp e he.1 he.2⟩ ?_
   have e2 : tw (.mk 31 0 [] [e]) .stmt = (if front e = 7 ∨ front e = 9 then [sg [40]] ++ tw e (.at (-2)) ++ [sg [41]] else tw e (.at (-2))) ++ [sg [59]] := rfl
   rw [show fc h .statement (.mk 31 0 [] [e]) = ((tw (.mk 31 0 [] [e]) .stmt).length : Int) from rfl, e2, show fc false .expression e = dq false (-2) e from rfl, dq_false_two]
   unfold ext cq
   by_cases hf : front e = 7 ∨ front e = 9
   ·rw [if_pos hf, if_pos hf]
    simp only [ow, List.length_append, List.length_cons, List.length_nil]; omega
   ·rw [if_neg hf, if_neg hf]
    simp only [ow, List.length_append, List.length_cons, List.length_nil]; omega
  case expression =>
   simp only [run]
   refine cw_and (ih .cond fn lp h trivial) fun e he => cw_alt (fun _ => cw_ite (fun hk => cw_and (iE fn lp) fun v hv => cw_pure ⟨by simp [isE, Node.kind], .assign fn lp e v hk he.2 hv.1 hv.2⟩ ?_) fun _ => cw_none) (cw_pure he (by simp only [fc, ow]; omega))
   have hr := isT_E hk
   have e3 : fc h .expression (.mk 19 0 [] [e, v]) = dq h 7 e + 1 + cq (-2) v := by
    show ((tw e (.at 7) ++ [sg [61]] ++ tw v (.at (-2))).length : Int) + (if h then 0 else ext (fr 7 e)) = _
    unfold dq cq
    simp only [ln]; omega
   rw [e3, ← dq_high h hr (-2) (by omega)]
   simp only [fc, ow]; omega
  case cond =>
   simp only [run]
   refine cw_and (ih (.binary 0) fn lp h (by simp [PRE])) fun e he => cw_alt (fun _ => cw_and (iE fn lp) fun a ha => cw_must (cw_and (iE fn lp) fun b hb => cw_pure ⟨by simp [isE, Node.kind], .cond fn lp e a b he.1 he.2 ha.1 ha.2 hb.1 hb.2⟩ ?_)) (cw_pure he ?_)
   ·have e3 : fc h .cond (.mk 18 0 [] [e, a, b]) = dq h 0 e + 1 + cq (-2) a + 1 + cq (-2) b := by
     show ((tw e (.at 0) ++ [sg [63]] ++ tw a (.at (-2)) ++ [sg [58]] ++ tw b (.at (-2))).length : Int) + (if h then 0 else ext (fr 0 e)) = _
     unfold dq cq
     simp only [ln]; omega
    rw [e3]
    simp only [fc, ow]
    rw [show ((0 : Nat) : Int) = 0 from rfl]; omega
   ·have := dq_up h (-2) 0 (by omega) e
    simp only [fc, ow]
    rw [show ((0 : Nat) : Int) = 0 from rfl]; omega
  case binary r =>
   simp only [run]
   have hr6 : r ≤ 6 := hpre
   by_cases hr : r = 6
   ·subst hr
    simp only [if_true]
    exact ih .unary fn lp h trivial
   ·simp only [if_neg hr]
    refine cw_and (ih (.binary (r + 1)) fn lp h (by simp only [PRE]; omega)) fun e he => (ih (.binGo r e) fn lp h ⟨by omega, he⟩).weak (fun x _ => ?_) fun _ h => h
    have := dq_up h r ((r + 1 : Nat) : Int) (by omega) e
    simp only [fc, ow]; omega
  case binGo r e =>
   obtain ⟨hr, h1, h2⟩ := hpre
   simp only [run]
   refine cw_signs (fun s hs => cw_and (ih (.binary (r + 1)) fn lp true (by simp only [PRE]; omega)).tr fun b hb => ?_) (cw_pure ⟨h1, h2⟩ (by simp only [fc, ow]; omega))
   have hj := joined_is hr hs e b
   refine (ih (.binGo r (joined s e b)) fn lp h ⟨hr, hj.2.2.2 fn lp h1 h2 hb.1 hb.2⟩).weak (fun x _ => ?_) fun _ h => h
   have := dq_joined h hr hs e b
   simp only [fc, ow]
   rw [this, show ((r + 1 : Nat) : Int) = (r : Int) + 1 from rfl]; omega
  case unary =>
   simp only [run]
   refine cw_signs (fun s hs => cw_and (ih .unary fn lp true trivial).tr fun e he => cw_pure ⟨by simp [isE, Node.kind], .unary fn lp s e (by simpa using hs) he.1 he.2⟩ ?_) (cw_and (ih .first fn lp h trivial) fun e he => ((ih (.post e) fn lp h he).weak (fun x _ => ?_) fun _ h => h))
   ·have e3 : fc h .unary (.mk 14 0 s [e]) = 1 + cq 6 e := by
     show ((([sg s] : List Tk) ++ tw e (.at 6)).length : Int) + (if h then 0 else ext 14) = _
     unfold cq
     cases h <;> simp [ext] <;> omega
    rw [e3]; simp only [ow]; omega
   ·have := dq_up h 6 7 (by omega) x
    simp only [fc, ow]; omega
  case post e =>
   obtain ⟨h1, h2⟩ := hpre
   simp only [run]
   refine cw_alt (fun _ => cw_and (iS [41] .expression (by simp)) fun ar has => ?_) (cw_alt (fun _ => cw_and (iE fn lp) fun i hi => cw_must ?_) (cw_alt (fun _ => cw_named fun s hs => ?_) (cw_pure ⟨h1, h2⟩ (by simp only [fc, ow]; omega))))
   ·refine (ih (.post (.mk 11 0 [] (e :: ar.kids))) fn lp h ⟨by simp [isE, Node.kind], .call fn lp e ar.kids h1 h2 (fun x hx => (has x hx).1) fun x hx => (has x hx).2⟩).weak (fun x _ => ?_) fun _ h => h
    have e3 : ow h (.post (.mk 11 0 [] (e :: ar.kids))) = dq h 7 e + 1 + (tjoin (ar.kids.map (TT .expression))).length + 1 := by
     have e4 : tw (.mk 11 0 [] (e :: ar.kids)) (.at 7) = tw e (.at 7) ++ tlisted [40] [41] (ar.kids.map (TT .expression)) := by
      show tw e (.at 7) ++ tlisted [40] [41] ((tws ar.kids).map (· (.at (-2)))) = _
      rw [tws_map, List.map_map]; rfl
     show ((tw (.mk 11 0 [] (e :: ar.kids)) (.at 7)).length : Int) + (if h then 0 else ext (fr 7 e)) = _
     rw [e4]
     unfold dq cq tlisted
     simp only [ln]; omega
    rw [e3]; simp only [ow, fc]; omega
   ·refine (ih (.post (.mk 12 0 [] [e, i])) fn lp h ⟨by simp [isE, Node.kind], .index fn lp e i h1 h2 hi.1 hi.2⟩).weak (fun x _ => ?_) fun _ h => h
    have e3 : ow h (.post (.mk 12 0 [] [e, i])) = dq h 7 e + 1 + cq (-2) i + 1 := by
     show ((tw e (.at 7) ++ [sg [91]] ++ tw i (.at (-2)) ++ [sg [93]]).length : Int) + (if h then 0 else ext (fr 7 e)) = _
     unfold dq cq
     simp only [ln]; omega
    rw [e3]; simp only [ow, fc]; omega
   ·refine (ih (.post (.mk 13 0 s [e])) fn lp h ⟨by simp [isE, Node.kind], .dot fn lp s e hs h1 h2⟩).weak (fun x _ => ?_) fun _ h => h
    have e3 : ow h (.post (.mk 13 0 s [e])) = dq h 7 e + 2 := by
     show ((tw e (.at 7) ++ [sg [46], nm s]).length : Int) + (if h then 0 else ext (fr 7 e)) = _
     unfold dq cq
     simp only [ln]; omega
    rw [e3]; simp only [ow, fc]; omega
  case first =>
   simp only [run]
   have one : ∀ (y : Node) (t : Tk), 7 ≤ rank y → tw y .ex = [t] → front y ≠ 7 → front y ≠ 9 → fc h .first y ≤ ow h .first + 1 := by
    intro y t h1 h2 h3 h4
    show dq h 7 y ≤ _
    have e1 : ext (fr 7 y) = 0 := by unfold fr ext; rw [if_neg (by omega)]
    unfold dq
    rw [e1, cq_eq, if_pos h1, h2]
    simp [ow]
   refine cw_tok (fun t ht hk => cw_pure ⟨by simp [isE, Node.kind], .num fn lp t.num (by omega) (by have := ht.2.1 hk; omega)⟩ (one _ ⟨2, [], t.num⟩ (by show (7 : Int) ≤ 8; decide) rfl (by show (1 : Int) ≠ 7; decide) (by show (1 : Int) ≠ 9; decide))) ?_
   refine cw_tok (fun t ht hk => cw_pure ⟨by simp [isE, Node.kind], .str fn lp t.text⟩ (one _ ⟨3, t.text, 0⟩ (by show (7 : Int) ≤ 8; decide) rfl (by show (2 : Int) ≠ 7; decide) (by show (2 : Int) ≠ 9; decide))) ?_
   refine cw_tok (fun t ht hk => cw_pure ⟨by simp [isE, Node.kind], .var fn lp t.text (ht.1 hk)⟩ (one _ (nm t.text) (by show (7 : Int) ≤ 8; decide) rfl (by show (5 : Int) ≠ 7; decide) (by show (5 : Int) ≠ 9; decide))) ?_
   refine cw_alt (fun _ => cw_pure ⟨by simp [isE, Node.kind], .bool fn lp 1 (.inr rfl)⟩ (one _ (kw Pars.wTrue) (by decide) rfl (by decide) (by decide))) ?_
   refine cw_alt (fun _ => cw_pure ⟨by simp [isE, Node.kind], .bool fn lp 0 (.inl rfl)⟩ (one _ (kw Pars.wFalse) (by decide) rfl (by decide) (by decide))) ?_
   refine cw_alt (fun _ => cw_pure ⟨by simp [isE, Node.kind], .null fn lp⟩ (one _ (kw Pars.wNull) (by decide) rfl (by decide) (by decide))) ?_
   refine cw_alt (fun hx => (ih (.function []) fn lp h (.inl rfl)).weak (fun x hxx => ?_) fun x hx => ⟨?_, hx.2.2⟩) ?_
   ·obtain ⟨l, r, hg, hl, hi⟩ := hx
    have hh : h = true := by
     rcases hl.1.1.1 with hl | hl
     ·exact hl
     ·rw [hl.1] at hi; cases hi
    subst hh
    obtain ⟨hk, htx, _⟩ := hxx
    cases x with
    | mk k nu t l =>
     obtain rfl : k = 9 := hk
     show ow true (.function []) - fc true (.function []) (.mk 9 nu t l) ≤ ow true .first + 1 - dq true 7 (.mk 9 nu t l)
     rw [dq_true, show cq 7 (.mk 9 nu t l) = ((tw (.mk 9 nu t l) .fn).length : Int) from rfl]
     simp only [fc, ow, if_true]; omega
   ·have hk := hx.1
    have ht := hx.2.1
    unfold isE
    rw [hk, ht]
    decide
   refine cw_alt (fun _ => cw_and (iS [93] .expression (by simp)) fun ar has => cw_pure ⟨by simp [isE, Node.kind], .list fn lp ar.kids (fun x hx => (has x hx).1) fun x hx => (has x hx).2⟩ ?_) ?_
   ·have e4 : tw (.mk 6 0 [] ar.kids) (.at 7) = tlisted [91] [93] (ar.kids.map (TT .expression)) := by
     show tlisted [91] [93] ((tws ar.kids).map (· (.at (-2)))) = _
     rw [tws_map, List.map_map]; rfl
    show ((tw (.mk 6 0 [] ar.kids) (.at 7)).length : Int) + (if h then 0 else ext 6) ≤ _
    rw [e4]
    unfold tlisted
    simp only [ow, List.length_append, List.length_cons, List.length_nil]
    cases h <;> simp [ext] <;> omega
   refine cw_alt (fun hx => cw_and (iS [125] .pair (by simp)) fun ar has => cw_pure ⟨by simp [isE, Node.kind], .recd fn lp ar.kids (fun x hx => (has x hx).1) fun x hx => (has x hx).2⟩ ?_) ?_
   ·have hh : h = true := by
     obtain ⟨l, r, hg, hl, hi⟩ := hx
     rcases hl.1.1.1.1.1 with hl | hl
     ·exact hl
     ·obtain ⟨⟨t, rfl, hk, ht⟩, _⟩ := is_some hi
      exfalso
      rcases hk with hk | hk
      ·exact hl.2 t r rfl ⟨hk, ht⟩
      ·have := (hg t (by simp)).2.2 hk
       rw [ht] at this
       exact absurd this (by decide)
    subst hh
    have e4 : tw (.mk 7 0 [] ar.kids) (.at 7) = tlisted [123] [125] (ar.kids.map (TT .pair)) := by
     show tlisted [123] [125] ((tws ar.kids).map (· .pair)) = _
     rw [tws_map, List.map_map]; rfl
    show ((tw (.mk 7 0 [] ar.kids) (.at 7)).length : Int) + (if true then 0 else ext 7) ≤ _
    rw [e4]
    unfold tlisted
    simp only [ow, if_true, List.length_append, List.length_cons, List.length_nil]; omega
   refine Cw.any (iI.weak (fun x _ => ?_) fun _ h => h)
   have := dq_inner h 7 x
   show _ ≤ ow h .first - dq h 7 x
   simp only [ow]; omega
  case some fin one more acc =>
   obtain ⟨h1, h2, h3⟩ := hpre
   simp only [run]
   have hone : Cw Tr 0 (fun x => ((TT one x).length : Int)) (RP fn lp one) (fun l => run n one fn lp l) := by
    rcases h1 with rfl | rfl | rfl
    ·exact ih .param fn lp true trivial
    ·exact iE fn lp
    ·exact ih .pair fn lp true trivial
   have hnext : ∀ x, RP fn lp one x → ∀ d : Int, d = (tjoin ((acc ++ [x]).map (TT one))).length → Cw Tr d (fc h (.some fin one more acc)) (RP fn lp (.some fin one more acc)) (fun r => run n (.some fin one true (acc ++ [x])) fn lp r) := by
    intro x hx d hd
    rw [hd]
    refine ih (.some fin one true (acc ++ [x])) fn lp h ⟨h1, fun y hy => ?_, by simp⟩
    rcases List.mem_append.1 hy with hy | hy
    ·exact h2 y hy
    ·rw [List.mem_singleton.1 hy]; exact hx
   refine cw_alt (fun _ => cw_pure h2 (by simp only [fc, ow, Node.kids]; omega)) (cw_sep (fun hm => ?_) fun hm => ?_)
   ·have ha : acc = [] := by
     by_cases ha : acc = []
     ·exact ha
     ·rw [h3.2 ha] at hm; cases hm
    subst ha
    exact Cw.any (cw_and hone fun x hx => hnext x hx _ (by simp [ow, tjoin]))
   ·have ha := h3.1 hm
    refine cw_and hone fun x hx => hnext x hx _ ?_
    rw [List.map_append, List.map_cons, List.map_nil, tjoin_snoc _ _ (by simpa using ha)]
    simp only [ow]; omega
  case param =>
   simp only [run]
   exact cw_named fun s hs => cw_pure ⟨s, rfl, hs⟩ (by simp [fc, ow])
  case pair =>
   simp only [run]
   refine cw_named fun s hs => cw_must (cw_and (iE fn lp) fun e he => cw_pure ⟨rfl, .pair fn lp s e hs he.1 he.2⟩ ?_)
   rw [show fc h .pair (.mk 8 0 s [e]) = ((([nm s, sg [58]] : List Tk) ++ tw e (.at (-2))).length : Int) from rfl]
   unfold cq
   simp only [ow, List.length_append, List.length_cons, List.length_nil]; omega
end Wri
namespace Pars
open Lexy (Tk)
def Sm (k : Int) (p q : List Tk → R) : Prop := ∀ l, (l.length : Int) ≤ k → p l = q l
theorem sm_refl {k : Int} (p : List Tk → R) : Sm k p p := fun _ _ => rfl
theorem sm_alt {k : Int} {s : Bs} {f g f' g' : List Tk → R} (hf : Sm (k - 1) f f') (hg : Sm k g g') : Sm k (fun l => alt s l f (g l)) (fun l => alt s l f' (g' l)) := by
 intro l hl
 cases hi : is s l with
 | none => simp only [alt, hi]; exact hg l hl
 | some r =>
  simp only [alt, hi]
  obtain ⟨⟨t, rfl, _⟩, _⟩ := is_some hi
  exact hf r (by simp only [List.length_cons] at hl; omega)
theorem sm_must {k : Int} {s : Bs} {f f' : List Tk → R} (hf : Sm (k - 1) f f') : Sm k (fun l => must s l f) (fun l => must s l f') := sm_alt hf (sm_refl _)
theorem sm_tok {k : Int} {j : Nat} {f f' : Tk → List Tk → R} {g g' : List Tk → R} (hf : ∀ t, Sm (k - 1) (f t) (f' t)) (hg : Sm k g g') : Sm k (fun l => tok j l f (g l)) (fun l => tok j l f' (g' l)) := by
 intro l hl
 cases l with
 | nil => exact hg [] hl
 | cons t l =>
  simp only [tok]
  by_cases hk : t.kind = j
  ·rw [if_pos hk, if_pos hk]; exact hf t l (by simp only [List.length_cons] at hl; omega)
  ·rw [if_neg hk, if_neg hk]; exact hg _ hl
theorem sm_named {k : Int} {f f' : Bs → List Tk → R} (hf : ∀ s, Sm (k - 1) (f s) (f' s)) : Sm k (fun l => named l f) (fun l => named l f') := sm_tok (fun t => hf t.text) (sm_refl _)
theorem sm_and {k j : Int} {p p' : List Tk → R} {q q' : Node → List Tk → R} (hp : Sm k p p') (hs : ∀ l x r, p l = some (x, r) → (r.length : Int) + (k - j) ≤ l.length) (hq : ∀ x, Sm j (q x) (q' x)) : Sm k (fun l => andThen (p l) q) (fun l => andThen (p' l) q') := by
 intro l hl
 have e := hp l hl
 simp only [andThen]
 cases h : p l with
 | none => rw [h] at e; rw [← e]
 | some y =>
  obtain ⟨x, r⟩ := y
  rw [h] at e
  rw [← e]
  exact hq x r (by have := hs l x r h; omega)
theorem sm_and1 {k : Int} {n : Nat} {nt : Nt} {fn lp : Bool} {p' : List Tk → R} {q q' : Node → List Tk → R} (hpa : passes nt = true) (hp : Sm k (fun l => run n nt fn lp l) p') (hq : ∀ x, Sm (k - 1) (q x) (q' x)) : Sm k (fun l => andThen (run n nt fn lp l) q) (fun l => andThen (p' l) q') :=
 sm_and hp (fun l x r h => by have := (run_short n nt fn lp l x r h).2 hpa; omega) hq
theorem sm_and0 {k : Int} {n : Nat} {nt : Nt} {fn lp : Bool} {p' : List Tk → R} {q q' : Node → List Tk → R} (hp : Sm k (fun l => run n nt fn lp l) p') (hq : ∀ x, Sm k (q x) (q' x)) : Sm k (fun l => andThen (run n nt fn lp l) q) (fun l => andThen (p' l) q') :=
 sm_and hp (fun l x r h => by have := (run_short n nt fn lp l x r h).1; omega) hq
theorem sm_signs {k : Int} {ss : List Bs} {f f' : Bs → List Tk → R} {g g' : List Tk → R} (hf : ∀ s, Sm (k - 1) (f s) (f' s)) (hg : Sm k g g') : Sm k (fun l => signs ss l f (g l)) (fun l => signs ss l f' (g' l)) := by
 intro l hl
 cases hi : anyOf ss l with
 | none => simp only [signs, hi]; exact hg l hl
 | some z =>
  obtain ⟨s, r⟩ := z
  simp only [signs, hi]
  obtain ⟨⟨t, rfl⟩, _⟩ := any_some hi
  exact hf s r (by simp only [List.length_cons] at hl; omega)
theorem sm_peek {k : Int} {s : Bs} {a b a' b' : List Tk → R} (ha : Sm k a a') (hb : Sm k b b') : Sm k (fun l => peek s l (a l) (b l)) (fun l => peek s l (a' l) (b' l)) := by
 intro l hl
 cases l with
 | nil => exact hb [] hl
 | cons t l =>
  simp only [peek]
  split
  ·exact ha _ hl
  ·exact hb _ hl
theorem Sm.down {k j : Int} {p q : List Tk → R} (h : Sm k p q) (hj : j ≤ k) : Sm j p q := fun l hl => h l (by omega)
theorem sm_sep {k : Int} {more : Bool} {f f' : List Tk → R} (hf : Sm k f f') : Sm k (fun l => sep more l f) (fun l => sep more l f') := by
 cases more
 ·exact hf
 ·exact sm_must (hf.down (by omega))
theorem sm_ite {k : Int} {c : Prop} [Decidable c] {p q p' q' : List Tk → R} (hp : Sm k p p') (hq : Sm k q q') : Sm k (fun l => if c then p l else q l) (fun l => if c then p' l else q' l) := by
 by_cases h : c
 ·simpa [h] using hp
 ·simpa [h] using hq
def ord : Nt → Int
 | .blockGo _ => 14
 | .body _ => 2
 | .ifs => 2
 | .tries => 2
 | .statement => 13
 | .expression => 12
 | .cond => 11
 | .binary r => 10 - r
 | .unary => 3
 | .first => 2
 | .some _ _ _ _ => 13
 | _ => 1
def okN : Nt → Bool
 | .binary r => decide (r ≤ 6)
 | .binGo r _ => decide (r < 6)
 | .some _ .param _ _ => true
 | .some _ .expression _ _ => true
 | .some _ .pair _ _ => true
 | .some _ _ _ _ => false
 | _ => true
theorem ok_some {f : Bs} {one : Nt} {m : Bool} {acc : List Node} (h : okN (.some f one m acc) = true) : okN one = true ∧ ord one ≤ 12 ∧ passes one = true ∧ ∀ m acc, okN (.some f one m acc) = true := by
 cases one <;> first | (simp [okN] at h; done) | exact ⟨rfl, by simp [ord], rfl, fun _ _ => rfl⟩
theorem run_same : ∀ (n : Nat) nt fn lp (k : Int), okN nt = true → 20 * k + ord nt ≤ n → Sm k (fun l => run n nt fn lp l) (fun l => run (n + 1) nt fn lp l)
 | 0, nt, fn, lp, k, ho, hk => by
  intro l hl
  have : 0 < ord nt := by
   cases nt <;> simp only [ord] <;> try omega
   simp only [okN, decide_eq_true_eq] at ho; omega
  omega
 | n + 1, nt, fn, lp, k, ho, hk => by
  have ih := run_same n
  have hk' : 20 * k + ord nt ≤ (n : Int) + 1 := by simpa using hk
  clear hk
  cases nt
  case some fin one more acc =>
   obtain ⟨h1, h2, h3, h4⟩ := ok_some ho
   simp only [ord] at hk'
   simp only [run]
   exact sm_alt (sm_refl _) (sm_sep (sm_and1 h3 (ih _ _ _ _ h1 (by omega)) fun x => ih _ _ _ _ (h4 _ _) (by simp only [ord]; omega)))
  case binary r =>
   simp only [okN, decide_eq_true_eq] at ho
   simp only [ord] at hk'
   simp only [run]
   by_cases hr : r = 6
   ·simp only [hr, if_true]
    exact ih _ _ _ _ rfl (by simp only [ord]; omega)
   ·simp only [if_neg hr]
    exact sm_and1 rfl (ih _ _ _ _ (by simp only [okN, decide_eq_true_eq]; omega) (by simp only [ord]; omega)) fun x => ih _ _ _ _ (by simp only [okN, decide_eq_true_eq]; omega) (by simp only [ord]; omega)
  case binGo r e =>
   simp only [okN, decide_eq_true_eq] at ho
   simp only [ord] at hk'
   simp only [run]
   exact sm_signs (fun s => sm_and1 rfl (ih _ _ _ _ (by simp only [okN, decide_eq_true_eq]; omega) (by simp only [ord]; omega)) fun x => ih _ _ _ _ (by simp only [okN, decide_eq_true_eq]; omega) (by simp only [ord]; omega)) (sm_refl _)
  all_goals
   simp only [ord] at hk'
   simp only [run]
   repeat' first
    | exact sm_refl _
    | exact ih _ _ _ _ rfl (by simp only [ord]; omega)
    | (refine sm_must ?_)
    | (refine sm_named fun _ => ?_)
    | (refine sm_alt ?_ ?_)
    | (refine sm_and1 rfl ?_ fun _ => ?_)
    | (refine sm_and0 ?_ fun _ => ?_)
    | (refine sm_tok (fun _ => ?_) ?_)
    | (refine sm_signs (fun _ => ?_) ?_)
    | (refine sm_peek ?_ ?_)
    | (refine sm_ite ?_ ?_)
theorem ev_fuel {nt : Nt} {fn lp : Bool} {l r : List Tk} {x : Node} (h : Ev nt fn lp l x r) (ho : okN nt = true) {n : Nat} (hn : 20 * (l.length : Int) + ord nt ≤ n) : run n nt fn lp l = some (x, r) := by
 obtain ⟨F, h⟩ := h
 have key : ∀ d, run n nt fn lp l = run (n + d) nt fn lp l := by
  intro d
  induction d with
  | zero => rfl
  | succ d ih => rw [ih]; exact run_same (n + d) nt fn lp l.length ho (by omega) l (Int.le_refl _)
 rw [key F]
 exact h _ (by omega)
theorem ev_stmt {l r : List Tk} {x : Node} (h : Ev .statement false false l x r) : run (fuel l) .statement false false l = some (x, r) := ev_fuel h rfl (by unfold fuel; simp only [ord]; omega)
end Pars
namespace Wri
open Pars
open Lexy (Tk sg kw nm)
variable {fn lp : Bool}
def Sepd (fin : Bs) (m : List Tk) : Prop := ∃ z, m = sg [44] :: z ∨ m = sg fin :: z
theorem some_more {one : Nt} {fin : Bs} (hf : fin ≠ [44]) (T : Node → List Tk) : ∀ (l acc : List Node) (m : List Tk), (∀ x ∈ l, ∀ m', Sepd fin m' → Ev one fn lp (T x ++ m') x m') →
  Ev (.some fin one true acc) fn lp ((l.flatMap fun x => sg [44] :: T x) ++ sg fin :: m) (.mk 0 0 [] (acc ++ l)) m
 | [], acc, m, _ => ev_of 0 fun G _ => by
  simp only [List.flatMap_nil, List.nil_append, List.append_nil, run]
  rw [alt_some (is_sg _ _)]
 | x :: l, acc, m, h => by
  obtain ⟨F2, h2⟩ := some_more hf T l (acc ++ [x]) m fun y hy => h y (by simp [hy])
  have hs : Sepd fin ((l.flatMap fun x => sg [44] :: T x) ++ sg fin :: m) := by
   cases l with
   | nil => exact ⟨m, .inr rfl⟩
   | cons y l => exact ⟨_, .inl rfl⟩
  obtain ⟨F1, h1⟩ := h x (by simp) _ hs
  have e : ((x :: l).flatMap fun x => sg [44] :: T x) ++ sg fin :: m = sg [44] :: (T x ++ ((l.flatMap fun x => sg [44] :: T x) ++ sg fin :: m)) := by simp
  rw [e]
  refine ev_of (max F1 F2) fun G hG => ?_
  simp only [run, sep, if_true]
  rw [alt_no (no_sg (fun h => hf h.symm) _), must_some (is_sg _ _), and_some (h1 G (by omega)), h2 G (by omega)]
  simp
theorem tjoin_cons (a : List Tk) : ∀ l : List (List Tk), tjoin (a :: l) = a ++ l.flatMap fun x => sg [44] :: x
 | [] => by simp [tjoin]
 | b :: l => by
  have := tjoin_cons b l
  simp only [tjoin, List.flatMap_cons]
  rw [this]
  simp
theorem some_all {one : Nt} {fin : Bs} (hf : fin ≠ [44]) (hfs : fin ∉ starts) (hone : one = .statement ∨ one = .expression ∨ one = .cond ∨ (∃ k, one = .binary k) ∨ one = .unary ∨ one = .first ∨ one = .inner ∨ one = .block ∨ one = .param ∨ one = .pair) (T : Node → List Tk) (l : List Node) (m : List Tk) (h : ∀ x ∈ l, ∀ m', Sepd fin m' → Ev one fn lp (T x ++ m') x m') :
  Ev (.some fin one false []) fn lp (tjoin (l.map T) ++ sg fin :: m) (.mk 0 0 [] l) m := by
 cases l with
 | nil =>
  exact ev_of 0 fun G _ => by
   simp only [List.map_nil, tjoin, List.nil_append, run]
   rw [alt_some (is_sg _ _)]
 | cons x l =>
  obtain ⟨F2, h2⟩ := some_more hf T l [x] m fun y hy => h y (by simp [hy])
  have hs : Sepd fin ((l.flatMap fun x => sg [44] :: T x) ++ sg fin :: m) := by
   cases l with
   | nil => exact ⟨m, .inr rfl⟩
   | cons y l => exact ⟨_, .inl rfl⟩
  have hx := h x (by simp) _ hs
  have hno := is_no hfs hx hone
  obtain ⟨F1, h1⟩ := hx
  have e : tjoin ((x :: l).map T) ++ sg fin :: m = T x ++ ((l.flatMap fun x => sg [44] :: T x) ++ sg fin :: m) := by
   rw [List.map_cons, tjoin_cons, List.flatMap_map]; simp
  rw [e]
  refine ev_of (max F1 F2) fun G hG => ?_
  simp only [run, sep, if_false, Bool.false_eq_true, List.nil_append]
  rw [alt_no hno, and_some (h1 G (by omega)), h2 G (by omega)]
  rfl
theorem stopE_sep {fin : Bs} (h : fin ∉ fol 0) (h1 : fin ≠ [61]) (h2 : fin ≠ [63]) {m : List Tk} (hs : Sepd fin m) : StopE m := by
 obtain ⟨z, rfl | rfl⟩ := hs
 ·exact stopE_sg (by decide) (by decide) (by decide) z
 ·exact stopE_sg h h1 h2 z
def okHead (t : Tk) : Prop := (t.kind = 1 ∨ t.kind = 2 ∨ t.kind = 3) ∨ t ∈ [kw wTrue, kw wFalse, kw wNull, kw Pars.wFn, sg [91], sg [123], sg [40], sg [33], sg [45]]
def HT (n : Node) (l : List Tk) (f : Int) : Prop := ∃ t r, l = t :: r ∧ okHead t ∧ (t = kw Pars.wFn → f = 9) ∧ (t = sg [123] → f = 7)
theorem HT.app {n : Node} {l : List Tk} {f : Int} (h : HT n l f) (m : List Tk) : HT n (l ++ m) f := by
 obtain ⟨t, r, rfl, h1, h2⟩ := h; exact ⟨t, r ++ m, rfl, h1, h2⟩
theorem HT.at_ {n : Node} (h : HT n (tw n .ex) (front n)) (q : Int) : HT n (tw n (.at q)) (if rank n < q then 0 else front n) := by
 rw [tw_at]
 by_cases hq : q ≤ rank n
 ·rw [if_pos hq, if_neg (by omega)]; exact h
 ·rw [if_neg hq]; exact ⟨sg [40], _, rfl, .inr (by decide), fun e => absurd e (by decide), fun e => absurd e (by decide)⟩
theorem HT.head {n m : Node} {l : List Tk} {f : Int} (h : HT n l f) : HT m l f := h
theorem ht {n : Node} (h : Rt fn lp n) : isE n → HT n (tw n .ex) (front n) := by
 induction h with
 | num fn lp nu h1 h2 => intro _; exact ⟨_, _, rfl, .inl (.inr (.inl rfl)), fun e => absurd (congrArg Tk.kind e) (by simp [kw, nm]), fun e => absurd (congrArg Tk.kind e) (by simp [sg, nm])⟩
 | str fn lp t => intro _; exact ⟨_, _, rfl, .inl (.inr (.inr rfl)), fun e => absurd (congrArg Tk.kind e) (by simp [kw, nm]), fun e => absurd (congrArg Tk.kind e) (by simp [sg, nm])⟩
 | bool fn lp nu h => intro _; rcases h with rfl | rfl <;> exact ⟨_, _, rfl, .inr (by decide), by decide, by decide⟩
 | null => intro _; exact ⟨_, _, rfl, .inr (by decide), by decide, by decide⟩
 | var fn lp t h => intro _; exact ⟨_, _, rfl, .inl (.inl rfl), fun e => absurd (congrArg Tk.kind e) (by simp [kw, nm]), fun e => absurd (congrArg Tk.kind e) (by simp [sg, nm])⟩
 | list fn lp l h1 h2 ih => intro _; exact ⟨sg [91], _, rfl, .inr (by decide), fun e => absurd e (by decide), fun e => absurd e (by decide)⟩
 | recd fn lp l h1 h2 ih => intro _; exact ⟨sg [123], _, rfl, .inr (by decide), fun e => absurd e (by decide), fun _ => rfl⟩
 | func fn lp t ps b h1 h2 h3 h4 ih => intro _; exact ⟨kw Pars.wFn, _, rfl, .inr (by decide), fun _ => rfl, fun e => absurd e (by decide)⟩
 | call fn lp a l h1 h2 h3 h4 ih1 ih2 => intro _; exact ((ih1 h1).at_ 7).app _
 | index fn lp a b h1 h2 h3 h4 ih1 ih2 => intro _; exact ((((ih1 h1).at_ 7).app _).app _).app _
 | dot fn lp t a h1 h2 h3 ih => intro _; exact ((ih h2).at_ 7).app _
 | unary fn lp t a h1 h2 h3 ih => intro _; rcases h1 with rfl | rfl <;> exact ⟨_, _, rfl, .inr (by decide), fun e => absurd e (by decide), fun e => absurd e (by decide)⟩
 | binary fn lp t a b h1 h2 h3 h4 h5 ih1 ih2 => intro _; exact (((ih1 h2).at_ (rank (.mk 15 0 t []))).app _).app _
 | and_ fn lp a b h1 h2 h3 h4 ih1 ih2 => intro _; exact (((ih1 h1).at_ (rank (.mk 16 0 [] []))).app _).app _
 | or_ fn lp a b h1 h2 h3 h4 ih1 ih2 => intro _; exact (((ih1 h1).at_ (rank (.mk 17 0 [] []))).app _).app _
 | cond fn lp a b c h1 h2 h3 h4 h5 h6 ih1 ih2 ih3 => intro _; exact (((((ih1 h1).at_ 0).app _).app _).app _).app _
 | assign fn lp a b h1 h2 h3 h4 ih1 ih2 =>
  intro _
  have : isE a := by unfold isT at h1; unfold isE; omega
  exact (((ih1 this).at_ 7).app _).app _
 | _ => intro h; unfold isE at h; simp [Node.kind] at h
theorem ok_no {t : Tk} (h : okHead t) (hf : t ≠ kw Pars.wFn) (l : List Tk) : ∀ s ∈ [wLet, Pars.wFn, wIf, wWhile, wFor, wReturn, wBreak, wContinue, wThrow, wTry], is s (t :: l) = none := by
 intro s hs
 rcases h with h | h
 ·exact no_k (by omega) (by omega) s l
 ·simp only [List.mem_cons, List.not_mem_nil, or_false] at h
  rcases h with rfl | rfl | rfl | rfl | rfl | rfl | rfl | rfl | rfl
  ·exact no_kw (by rintro rfl; exact absurd hs (by decide)) l
  ·exact no_kw (by rintro rfl; exact absurd hs (by decide)) l
  ·exact no_kw (by rintro rfl; exact absurd hs (by decide)) l
  ·exact absurd rfl hf
  ·exact no_sg (by rintro rfl; exact absurd hs (by decide)) l
  ·exact no_sg (by rintro rfl; exact absurd hs (by decide)) l
  ·exact no_sg (by rintro rfl; exact absurd hs (by decide)) l
  ·exact no_sg (by rintro rfl; exact absurd hs (by decide)) l
  ·exact no_sg (by rintro rfl; exact absurd hs (by decide)) l
theorem ok_peek {t : Tk} (h : okHead t) (hf : t ≠ sg [123]) (l : List Tk) (a b : R) : peek [123] (t :: l) a b = b := by
 simp only [peek]
 rw [if_neg]
 rintro ⟨h4, h5⟩
 rcases h with h | h
 ·omega
 ·simp only [List.mem_cons, List.not_mem_nil, or_false] at h
  rcases h with rfl | rfl | rfl | rfl | rfl | rfl | rfl | rfl | rfl
  ·cases h4
  ·cases h4
  ·cases h4
  ·cases h4
  ·exact absurd h5 (by decide)
  ·exact absurd rfl hf
  ·exact absurd h5 (by decide)
  ·exact absurd h5 (by decide)
  ·exact absurd h5 (by decide)
structure PS (fn lp : Bool) (n : Node) : Prop where
 ex : isE n → EX fn lp n
 fn_ : n.kind = 9 → ∀ m, ∃ l, tw n .fn ++ m = kw Pars.wFn :: (if n.text = [] then l else nm n.text :: l) ∧ Ev (.function n.text) fn lp l n m
 pair : n.kind = 8 → ∀ m, StopE m → Ev .pair fn lp (tw n .pair ++ m) n m
 block : n.kind = 30 → ∀ m, Ev .block fn lp (tw n .block ++ m) n m
 ifs : n.kind = 22 → ∀ m, NoF m → ∃ l, tw n .ifs ++ m = kw wIf :: l ∧ Ev .ifs fn lp l n m
 stmt : 20 ≤ n.kind → ∀ m, NoF m → Ev .statement fn lp (tw n .stmt ++ m) n m
theorem PS.e {n : Node} (h : EX fn lp n) (hk : n.kind ≤ 19 := by simp [Node.kind]) (h8 : n.kind ≠ 8 := by simp [Node.kind]) (h9 : n.kind ≠ 9 := by simp [Node.kind]) : PS fn lp n :=
 ⟨fun _ => h, fun e => absurd e h9, fun e => absurd e h8, fun e => by omega, fun e => by omega, fun e => by omega⟩
theorem PS.s {n : Node} (h : ∀ m, NoF m → Ev .statement fn lp (tw n .stmt ++ m) n m) (hk : 20 ≤ n.kind := by simp [Node.kind]) (h2 : n.kind ≠ 22 := by simp [Node.kind]) (h3 : n.kind ≠ 30 := by simp [Node.kind]) : PS fn lp n :=
 ⟨fun e => by unfold isE at e; omega, fun e => by omega, fun e => by omega, fun e => absurd e h3, fun e => absurd e h2, fun _ => h⟩
theorem ev_body {f : Bool} {l m : List Tk} {n : Node} (h : Ev .block (fn || f) (!f) l n m) : Ev (.body f) fn lp l n m := by
 obtain ⟨F, h⟩ := h
 exact ev_of F fun G hG => by simp only [run]; exact h G hG
theorem block_go : ∀ (l acc : List Node) (m : List Tk), (∀ x ∈ l, ∀ m', NoF m' → Ev .statement fn lp (tw x .stmt ++ m') x m') →
  NoF ((l.flatMap fun x => tw x .stmt) ++ sg [125] :: m) ∧ Ev (.blockGo acc) fn lp ((l.flatMap fun x => tw x .stmt) ++ sg [125] :: m) (.mk 30 0 [] (acc ++ l)) m
 | [], acc, m, _ => ⟨noF_sg _ (by decide) m, ev_of 0 fun G _ => by
  simp only [List.flatMap_nil, List.nil_append, List.append_nil, run]
  rw [alt_some (is_sg _ _)]⟩
 | x :: l, acc, m, h => by
  obtain ⟨hn, F2, h2⟩ := block_go l (acc ++ [x]) m fun y hy => h y (by simp [hy])
  have hx := h x (by simp) _ hn
  have e : ((x :: l).flatMap fun x => tw x .stmt) ++ sg [125] :: m = tw x .stmt ++ ((l.flatMap fun x => tw x .stmt) ++ sg [125] :: m) := by simp
  rw [e]
  refine ⟨noF_ev hx, ?_⟩
  have hno := is_no (s := [125]) (by decide) hx (.inl rfl)
  obtain ⟨F1, h1⟩ := hx
  refine ev_of (max F1 F2) fun G hG => ?_
  simp only [run]
  rw [alt_no hno, and_some (h1 G (by omega)), h2 G (by omega)]
  simp
theorem rank15 {t : Bs} : ∀ t ∈ binS, (rankOf 0 Pars.ranks t).toNat < 6 ∧ t ∈ Pars.ranks.getD (rankOf 0 Pars.ranks t).toNat [] ∧ rankOf 0 Pars.ranks t = ((rankOf 0 Pars.ranks t).toNat : Int) ∧ t ≠ [124, 124] ∧ t ≠ [38, 38] := by decide
theorem ev_semi {a : Node} (h : EX fn lp a) (m : List Tk) : ∃ F, ∀ G, F ≤ G → run G .expression fn lp (tw a (.at (-2)) ++ sg [59] :: m) = some (a, sg [59] :: m) :=
 h.ex _ (stopE_sg (by decide) (by decide) (by decide) m)
theorem ev_close {a : Node} (h : EX fn lp a) (m : List Tk) : Ev .expression fn lp (tw a (.at (-2)) ++ sg [41] :: m) a (sg [41] :: m) :=
 h.ex _ (stopE_sg (by decide) (by decide) (by decide) m)
theorem rest_ex {c : Bs} (h : c ∉ fol 0) (h1 : c ≠ [61]) (h2 : c ≠ [63]) {a : Node} (ha : EX fn lp a) (m : List Tk) : Ev .expression fn lp (tw a (.at (-2)) ++ sg c :: m) a (sg c :: m) := ha.ex _ (stopE_sg h h1 h2 m)
set_option maxHeartbeats 2000000 in
theorem ps {n : Node} (h : Rt fn lp n) : PS fn lp n := by
 induction h with
 | num fn lp nu h1 h2 =>
  refine .e (.atom (by rfl) fun m => ev_of 0 fun G _ => ?_)
  rw [show tw _ .ex ++ m = ⟨2, [], nu.toNat⟩ :: m from rfl]
  simp only [run, tok, if_true]
  rw [Int.toNat_of_nonneg h1]
 | str fn lp t =>
  refine .e (.atom (by rfl) fun m => ev_of 0 fun G _ => ?_)
  rw [show tw _ .ex ++ m = ⟨3, t, 0⟩ :: m from rfl]
  simp [run, tok]
 | bool fn lp nu h =>
  rcases h with rfl | rfl
  ·refine .e (.atom (by rfl) fun m => ev_of 0 fun G _ => ?_)
   rw [show tw _ .ex ++ m = kw wFalse :: m from rfl]
   simp [run, tok, alt, is, kw]
  ·refine .e (.atom (by rfl) fun m => ev_of 0 fun G _ => ?_)
   rw [show tw _ .ex ++ m = kw wTrue :: m from rfl]
   simp [run, tok, alt, is, kw]
 | null fn lp =>
  refine .e (.atom (by rfl) fun m => ev_of 0 fun G _ => ?_)
  rw [show tw _ .ex ++ m = kw wNull :: m from rfl]
  simp [run, tok, alt, is, kw]
 | var fn lp t h =>
  refine .e (.atom (by rfl) fun m => ev_of 0 fun G _ => ?_)
  rw [show tw _ .ex ++ m = nm t :: m from rfl]
  simp [run, tok, nm]
 | list fn lp l h1 h2 ih =>
  refine .e (.atom (by rfl) fun m => ?_)
  have e : tw (.mk 6 0 [] l) .ex ++ m = sg [91] :: (tjoin (l.map fun x => tw x (.at (-2))) ++ sg [93] :: m) := by
   show tlisted [91] [93] ((tws l).map (· (.at (-2)))) ++ m = _
   rw [tws_map, List.map_map]
   unfold tlisted
   simp [Function.comp_def]
  rw [e]
  obtain ⟨F, h⟩ := some_all (fn := fn) (lp := lp) (one := .expression) (fin := [93]) (by decide) (by decide) (by simp) (fun x => tw x (.at (-2))) l m (fun x hx m' hs => ((ih x hx).ex (h1 x hx)).ex _ (stopE_sep (by decide) (by decide) (by decide) hs))
  refine ev_of F fun G hG => ?_
  simp only [run]
  have e2 : ∀ s : Bs, [91] ≠ s → is s (sg [91] :: (tjoin (l.map fun x => tw x (.at (-2))) ++ sg [93] :: m)) = none := fun s hs => no_sg hs _
  simp only [tok, show (sg [91]).kind = 4 from rfl, show ¬ (4 = 2) from by decide, show ¬ (4 = 3) from by decide, show ¬ (4 = 1) from by decide, if_false]
  rw [alt_no (e2 wTrue (by decide)), alt_no (e2 wFalse (by decide)), alt_no (e2 wNull (by decide)), alt_no (e2 Pars.wFn (by decide)), alt_some (is_sg _ _), and_some (h G hG)]
  rfl
 | recd fn lp l h1 h2 ih =>
  refine .e (.atom (by rfl) fun m => ?_)
  have e : tw (.mk 7 0 [] l) .ex ++ m = sg [123] :: (tjoin (l.map fun x => tw x .pair) ++ sg [125] :: m) := by
   show tlisted [123] [125] ((tws l).map (· .pair)) ++ m = _
   rw [tws_map, List.map_map]
   unfold tlisted
   simp [Function.comp_def]
  rw [e]
  obtain ⟨F, h⟩ := some_all (fn := fn) (lp := lp) (one := .pair) (fin := [125]) (by decide) (by decide) (by simp) (fun x => tw x .pair) l m (fun x hx m' hs => (ih x hx).pair (h1 x hx) _ (stopE_sep (by decide) (by decide) (by decide) hs))
  refine ev_of F fun G hG => ?_
  simp only [run]
  have e2 : ∀ s : Bs, [123] ≠ s → is s (sg [123] :: (tjoin (l.map fun x => tw x .pair) ++ sg [125] :: m)) = none := fun s hs => no_sg hs _
  simp only [tok, show (sg [123]).kind = 4 from rfl, show ¬ (4 = 2) from by decide, show ¬ (4 = 3) from by decide, show ¬ (4 = 1) from by decide, if_false]
  rw [alt_no (e2 wTrue (by decide)), alt_no (e2 wFalse (by decide)), alt_no (e2 wNull (by decide)), alt_no (e2 Pars.wFn (by decide)), alt_no (e2 [91] (by decide)), alt_some (is_sg _ _), and_some (h G hG)]
  rfl
 | pair fn lp t a h1 h2 h3 ih =>
  refine ⟨fun e => by simp [isE, Node.kind] at e, fun e => by simp [Node.kind] at e, fun _ m hs => ?_, fun e => by simp [Node.kind] at e, fun e => by simp [Node.kind] at e, fun e => by simp [Node.kind] at e⟩
  obtain ⟨F, h⟩ := (ih.ex h2).ex m hs
  rw [show tw (.mk 8 0 t [a]) .pair ++ m = nm t :: sg [58] :: (tw a (.at (-2)) ++ m) from by show ([nm t, sg [58]] ++ tw a (.at (-2))) ++ m = _; simp]
  refine ev_of F fun G hG => ?_
  simp only [run]
  rw [named_nm, must_some (is_sg _ _), and_some (h G hG)]
 | func fn lp t ps b h1 h2 h3 h4 ih =>
  have key : ∀ m, ∃ l, tw (.mk 9 0 t (ps.map (fun p => .mk 10 0 p []) ++ [b])) .fn ++ m = kw Pars.wFn :: (if t = [] then l else nm t :: l) ∧ Ev (.function t) fn lp l (.mk 9 0 t (ps.map (fun p => .mk 10 0 p []) ++ [b])) m := by
   intro m
   obtain ⟨F1, g1⟩ := some_all (fn := fn) (lp := lp) (one := .param) (fin := [41]) (by decide) (by decide) (by simp) (fun x => [nm x.text]) (ps.map fun p => .mk 10 0 p []) (tw b .block ++ m) (by
    intro x hx m' _
    obtain ⟨p, hp, rfl⟩ := List.mem_map.1 hx
    exact ev_of 0 fun G _ => by simp only [run, List.cons_append, List.nil_append]; exact named_nm _ _ _)
   obtain ⟨F2, g2⟩ := ev_body (fn := fn) (lp := lp) (f := true) (by rw [Bool.or_true]; exact ih.block h3 m)
   refine ⟨sg [40] :: (tjoin ((ps.map fun p => Node.mk 10 0 p []).map fun x => [nm x.text]) ++ sg [41] :: (tw b .block ++ m)), ?_, ev_of (max F1 F2) fun G hG => ?_⟩
   ·rw [tw_func, List.map_map]
    have e3 : ((fun x : Node => [nm x.text]) ∘ fun p : Bs => Node.mk 10 0 p []) = fun p => [nm p] := rfl
    rw [e3]
    unfold tlisted
    by_cases ht : t = []
    ·simp [ht]
    ·simp [ht]
   ·simp only [run]
    rw [must_some (is_sg _ _), and_some (g1 G (by omega)), and_some (g2 G (by omega))]
    rfl
  refine ⟨fun he => ?_, fun _ => key, fun e => by simp [Node.kind] at e, fun e => by simp [Node.kind] at e, fun e => by simp [Node.kind] at e, fun e => by simp [Node.kind] at e⟩
  have ht : t = [] := by have := he.2.2.2.2; simp [Node.kind, Node.text] at this; exact this
  subst ht
  refine .atom (by rfl) fun m => ?_
  obtain ⟨l, e, F, h⟩ := key m
  rw [if_pos rfl] at e
  rw [show tw (.mk 9 0 [] (ps.map (fun p => .mk 10 0 p []) ++ [b])) .ex = tw (.mk 9 0 [] (ps.map (fun p => .mk 10 0 p []) ++ [b])) .fn from rfl, e]
  refine ev_of F fun G hG => ?_
  simp only [run]
  simp only [tok, show (kw Pars.wFn).kind = 5 from rfl, show ¬ (5 = 2) from by decide, show ¬ (5 = 3) from by decide, show ¬ (5 = 1) from by decide, if_false]
  rw [alt_no (no_kw (show Pars.wFn ≠ wTrue from by decide) _), alt_no (no_kw (show Pars.wFn ≠ wFalse from by decide) _), alt_no (no_kw (show Pars.wFn ≠ wNull from by decide) _), alt_some (is_kw _ _), h G hG]
 | param fn lp t h =>
  exact ⟨fun e => by simp [isE, Node.kind] at e, fun e => by simp [Node.kind] at e, fun e => by simp [Node.kind] at e, fun e => by simp [Node.kind] at e, fun e => by simp [Node.kind] at e, fun e => by simp [Node.kind] at e⟩
 | call fn lp a l h1 h2 h3 h4 ih1 ih2 =>
  refine .e (.high (by show (7 : Int) ≤ 7; decide) ?_)
  intro m y r hp
  have e : tw (.mk 11 0 [] (a :: l)) (.at 7) ++ m = tw a (.at 7) ++ (sg [40] :: (tjoin (l.map fun x => tw x (.at (-2))) ++ sg [41] :: m)) := by
   show (tw a (.at 7) ++ tlisted [40] [41] ((tws l).map (· (.at (-2))))) ++ m = _
   rw [tws_map, List.map_map]
   unfold tlisted
   simp [Function.comp_def]
  rw [e]
  refine (ih1.ex h1).post _ y r ?_
  obtain ⟨F, h⟩ := some_all (fn := fn) (lp := lp) (one := .expression) (fin := [41]) (by decide) (by decide) (by simp) (fun x => tw x (.at (-2))) l m (fun x hx m' hs => ((ih2 x hx).ex (h3 x hx)).ex _ (stopE_sep (by decide) (by decide) (by decide) hs))
  obtain ⟨F2, hp⟩ := hp
  refine ev_of (max F F2) fun G hG => ?_
  simp only [run]
  rw [alt_some (is_sg _ _), and_some (h G (by omega))]
  exact hp G (by omega)
 | index fn lp a b h1 h2 h3 h4 ih1 ih2 =>
  refine .e (.high (by show (7 : Int) ≤ 7; decide) ?_)
  intro m y r hp
  have e : tw (.mk 12 0 [] [a, b]) (.at 7) ++ m = tw a (.at 7) ++ (sg [91] :: (tw b (.at (-2)) ++ sg [93] :: m)) := by show (tw a (.at 7) ++ [sg [91]] ++ tw b (.at (-2)) ++ [sg [93]]) ++ m = _; simp
  rw [e]
  refine (ih1.ex h1).post _ y r ?_
  obtain ⟨F, h⟩ := rest_ex (c := [93]) (by decide) (by decide) (by decide) (ih2.ex h3) m
  obtain ⟨F2, hp⟩ := hp
  refine ev_of (max F F2) fun G hG => ?_
  simp only [run]
  rw [alt_no (no_sg (show [91] ≠ [40] from by decide) _), alt_some (is_sg _ _), and_some (h G (by omega)), must_some (is_sg _ _)]
  exact hp G (by omega)
 | dot fn lp t a h1 h2 h3 ih =>
  refine .e (.high (by show (7 : Int) ≤ 7; decide) ?_)
  intro m y r hp
  have e : tw (.mk 13 0 t [a]) (.at 7) ++ m = tw a (.at 7) ++ (sg [46] :: nm t :: m) := by show (tw a (.at 7) ++ [sg [46], nm t]) ++ m = _; simp
  rw [e]
  refine (ih.ex h2).post _ y r ?_
  obtain ⟨F2, hp⟩ := hp
  refine ev_of F2 fun G hG => ?_
  simp only [run]
  rw [alt_no (no_sg (show [46] ≠ [40] from by decide) _), alt_no (no_sg (show [46] ≠ [91] from by decide) _), alt_some (is_sg _ _), named_nm]
  exact hp G (by omega)
 | unary fn lp t a h1 h2 h3 ih =>
  refine .e (.un (by rfl) ?_)
  intro m hs
  have e : tw (.mk 14 0 t [a]) (.at ((6 : Nat) : Int)) ++ m = sg t :: (tw a (.at ((6 : Nat) : Int)) ++ m) := rfl
  rw [e]
  have hb := (ih.ex h2).bin 6 (by omega) m hs
  obtain ⟨F, h⟩ := hb
  refine ev_bin6 (ev_of F fun G hG => ?_)
  have hu : run G .unary fn lp (tw a (.at ((6 : Nat) : Int)) ++ m) = some (a, m) := by have := h (G + 1) (by omega); simp only [run, if_true] at this; exact this
  simp only [run]
  rw [signs_hit (by rcases h1 with rfl | rfl <;> simp), and_some hu]
 | binary fn lp t a b h1 h2 h3 h4 h5 ih1 ih2 =>
  obtain ⟨r1, r2, r3, r4, r5⟩ := rank15 (t := t) t h1
  obtain ⟨r, hr⟩ : ∃ r, (rankOf 0 Pars.ranks t).toNat = r := ⟨_, rfl⟩
  rw [hr] at r1 r2 r3
  refine .e (.op (s := t) r1 r2 (by show rankOf 0 Pars.ranks t = _; exact r3) ?_ (by unfold joined; rw [if_neg r4, if_neg r5]) (ih1.ex h2) (ih2.ex h4))
  show tw a (.at (rankOf 0 Pars.ranks t)) ++ [sg t] ++ tw b (.at (rankOf 0 Pars.ranks t + 1)) = _
  rw [r3]; rfl
 | and_ fn lp a b h1 h2 h3 h4 ih1 ih2 =>
  exact .e (.op (s := [38, 38]) (r := 1) (by decide) (by decide) (by rfl) rfl rfl (ih1.ex h1) (ih2.ex h3))
 | or_ fn lp a b h1 h2 h3 h4 ih1 ih2 =>
  exact .e (.op (s := [124, 124]) (r := 0) (by decide) (by decide) (by rfl) rfl rfl (ih1.ex h1) (ih2.ex h3))
 | cond fn lp a b c h1 h2 h3 h4 h5 h6 ih1 ih2 ih3 =>
  refine .e (.low (by show (-1 : Int) < 0; decide) ?_)
  intro m hs
  have e : tw (.mk 18 0 [] [a, b, c]) (.at (-2)) ++ m = tw a (.at ((0 : Nat) : Int)) ++ (sg [63] :: (tw b (.at (-2)) ++ (sg [58] :: (tw c (.at (-2)) ++ m)))) := by show (tw a (.at 0) ++ [sg [63]] ++ tw b (.at (-2)) ++ [sg [58]] ++ tw c (.at (-2))) ++ m = _; simp
  rw [e]
  obtain ⟨F1, g1⟩ := (ih1.ex h1).bin 0 (by omega) (sg [63] :: (tw b (.at (-2)) ++ (sg [58] :: (tw c (.at (-2)) ++ m)))) (stop_sg (by decide) _)
  obtain ⟨F2, g2⟩ := rest_ex (c := [58]) (by decide) (by decide) (by decide) (ih2.ex h3) (tw c (.at (-2)) ++ m)
  obtain ⟨F3, g3⟩ := (ih3.ex h5).ex m hs
  refine ev_of (max F1 (max F2 F3) + 1) fun G hG => ?_
  obtain ⟨g, rfl⟩ : ∃ g, G = g + 1 := ⟨G - 1, by omega⟩
  have hc : run (g + 1) .cond fn lp (tw a (.at ((0 : Nat) : Int)) ++ (sg [63] :: (tw b (.at (-2)) ++ (sg [58] :: (tw c (.at (-2)) ++ m))))) = some (.mk 18 0 [] [a, b, c], m) := by
   simp only [run]
   rw [and_some (g1 g (by omega)), alt_some (is_sg _ _), and_some (g2 g (by omega)), must_some (is_sg _ _), and_some (g3 g (by omega))]
  rw [run, and_some hc, alt_no hs.2.1]
 | assign fn lp a b h1 h2 h3 h4 ih1 ih2 =>
  have ha : isE a := by unfold isT at h1; unfold isE; omega
  have hra : 7 ≤ rank a := by unfold isT at h1; unfold rank; rcases h1 with h | h | h <;> simp [h]
  refine .e (.low (by show (-2 : Int) < 0; decide) ?_)
  intro m hs
  have e : tw (.mk 19 0 [] [a, b]) (.at (-2)) ++ m = tw a (.at ((0 : Nat) : Int)) ++ (sg [61] :: (tw b (.at (-2)) ++ m)) := by
   show (tw a (.at 7) ++ [sg [61]] ++ tw b (.at (-2))) ++ m = _
   rw [at_same (n := a) (q := 7) (p := ((0 : Nat) : Int)) (by constructor <;> intro _ <;> omega)]; simp
  rw [e]
  obtain ⟨F1, g1⟩ := (ih1.ex ha).bin 0 (by omega) (sg [61] :: (tw b (.at (-2)) ++ m)) (stop_sg (by decide) _)
  obtain ⟨F2, g2⟩ := (ih2.ex h3).ex m hs
  refine ev_of (max F1 F2 + 1) fun G hG => ?_
  obtain ⟨g, rfl⟩ : ∃ g, G = g + 1 := ⟨G - 1, by omega⟩
  have hc : run (g + 1) .cond fn lp (tw a (.at ((0 : Nat) : Int)) ++ (sg [61] :: (tw b (.at (-2)) ++ m))) = some (a, sg [61] :: (tw b (.at (-2)) ++ m)) := by
   simp only [run]
   rw [and_some (g1 g (by omega)), alt_no (no_sg (show [61] ≠ [63] from by decide) _)]
  rw [run, and_some hc, alt_some (is_sg _ _)]
  rw [if_pos (show a.kind = 5 ∨ a.kind = 12 ∨ a.kind = 13 from h1), and_some (g2 (g + 1) (by omega))]
 | let_ fn lp t a h1 h2 h3 ih =>
  refine .s fun m hm => ?_
  have e : tw (.mk 20 0 t [a]) .stmt ++ m = kw wLet :: nm t :: sg [61] :: (tw a (.at (-2)) ++ sg [59] :: m) := by show ([kw wLet, nm t, sg [61]] ++ tw a (.at (-2)) ++ [sg [59]]) ++ m = _; simp
  rw [e]
  obtain ⟨F, h⟩ := ev_semi (ih.ex h2) m
  refine ev_of F fun G hG => ?_
  simp only [run]
  rw [alt_some (is_kw _ _), named_nm, must_some (is_sg _ _), and_some (h G hG)]
  exact must_some (is_sg _ _)
 | def_ fn lp f h1 h2 h3 ih =>
  refine .s fun m hm => ?_
  obtain ⟨l, e, F, h⟩ := ih.fn_ h1 m
  rw [if_neg h2] at e
  rw [show tw (.mk 21 0 [] [f]) .stmt = tw f .fn from rfl, e]
  refine ev_of F fun G hG => ?_
  simp only [run]
  rw [alt_no (no_kw (show Pars.wFn ≠ wLet from by decide) _), alt_some (is_kw _ _), named_nm, and_some (h G hG)]
 | if2 fn lp c b h1 h2 h3 h4 ih1 ih2 =>
  have key : ∀ m, NoF m → ∃ l, tw (.mk 22 0 [] [c, b]) .ifs ++ m = kw wIf :: l ∧ Ev .ifs fn lp l (.mk 22 0 [] [c, b]) m := by
   intro m hm
   refine ⟨sg [40] :: (tw c (.at (-2)) ++ sg [41] :: (tw b .block ++ m)), ?_, ?_⟩
   ·show ([kw wIf, sg [40]] ++ tw c (.at (-2)) ++ [sg [41]] ++ tw b .block ++ []) ++ m = _; simp
   ·obtain ⟨F1, g1⟩ := ev_inner (l' := []) (ev_close (ih1.ex h1) (tw b .block ++ m))
    obtain ⟨F2, g2⟩ := ih2.block h3 m
    refine ev_of (max F1 F2) fun G hG => ?_
    simp only [run]
    rw [and_some (g1 G (by omega)), and_some (g2 G (by omega)), alt_no hm.1]
  refine ⟨fun e => by simp [isE, Node.kind] at e, fun e => by simp [Node.kind] at e, fun e => by simp [Node.kind] at e, fun e => by simp [Node.kind] at e, fun _ => key, fun _ m hm => ?_⟩
  obtain ⟨l, e9, F, h⟩ := key m hm
  rw [show tw (.mk 22 0 [] [c, b]) .stmt = tw (.mk 22 0 [] [c, b]) .ifs from rfl, e9]
  refine ev_of F fun G hG => ?_
  simp only [run]
  rw [alt_no (no_kw (show wIf ≠ wLet from by decide) _), alt_no (no_kw (show wIf ≠ Pars.wFn from by decide) _), alt_some (is_kw _ _), h G hG]
 | if3 fn lp c b e h1 h2 h3 h4 h5 h6 ih1 ih2 ih3 =>
  have key : ∀ m, NoF m → ∃ l, tw (.mk 22 0 [] [c, b, e]) .ifs ++ m = kw wIf :: l ∧ Ev .ifs fn lp l (.mk 22 0 [] [c, b, e]) m := by
   intro m hm
   have e2 : tw (.mk 22 0 [] [c, b, e]) .ifs ++ m = kw wIf :: (sg [40] :: (tw c (.at (-2)) ++ sg [41] :: (tw b .block ++ (kw wElse :: ((if e.kind = 22 then tw e .ifs else tw e .block) ++ m))))) := by
    show ([kw wIf, sg [40]] ++ tw c (.at (-2)) ++ [sg [41]] ++ tw b .block ++ ([kw wElse] ++ (if e.kind = 22 then tw e .ifs else tw e .block))) ++ m = _; simp
   refine ⟨_, e2, ?_⟩
   obtain ⟨F1, g1⟩ := ev_inner (l' := []) (ev_close (ih1.ex h1) (tw b .block ++ (kw wElse :: ((if e.kind = 22 then tw e .ifs else tw e .block) ++ m))))
   obtain ⟨F2, g2⟩ := ih2.block h3 (kw wElse :: ((if e.kind = 22 then tw e .ifs else tw e .block) ++ m))
   by_cases hk : e.kind = 22
   ·obtain ⟨l, e3, F3, g3⟩ := ih3.ifs hk m hm
    rw [if_pos hk] at g1 g2 ⊢
    rw [e3] at g1 g2 ⊢
    refine ev_of (max F1 (max F2 F3)) fun G hG => ?_
    simp only [run]
    rw [and_some (g1 G (by omega)), and_some (g2 G (by omega)), alt_some (is_kw _ _), alt_some (is_kw _ _), and_some (g3 G (by omega))]
   ·have g3 := ih3.block (by omega) m
    have hno := is_no (s := wElse) (by decide) g3 (by simp)
    have hni : is wIf (tw e .block ++ m) = none := by
     have hb : ∃ q, tw e .block ++ m = sg [123] :: q := by cases e with | mk k nu t l => exact ⟨_, rfl⟩
     obtain ⟨q, hq⟩ := hb
     rw [hq]; exact no_sg (by decide) q
    obtain ⟨F3, g3⟩ := g3
    rw [if_neg hk] at g1 g2 ⊢
    refine ev_of (max F1 (max F2 F3)) fun G hG => ?_
    simp only [run]
    rw [and_some (g1 G (by omega)), and_some (g2 G (by omega)), alt_some (is_kw _ _), alt_no hni, and_some (g3 G (by omega))]
  refine ⟨fun e => by simp [isE, Node.kind] at e, fun e => by simp [Node.kind] at e, fun e => by simp [Node.kind] at e, fun e => by simp [Node.kind] at e, fun _ => key, fun _ m hm => ?_⟩
  obtain ⟨l, e9, F, h⟩ := key m hm
  rw [show tw (.mk 22 0 [] [c, b, e]) .stmt = tw (.mk 22 0 [] [c, b, e]) .ifs from rfl, e9]
  refine ev_of F fun G hG => ?_
  simp only [run]
  rw [alt_no (no_kw (show wIf ≠ wLet from by decide) _), alt_no (no_kw (show wIf ≠ Pars.wFn from by decide) _), alt_some (is_kw _ _), h G hG]
 | while_ fn lp c b h1 h2 h3 h4 ih1 ih2 =>
  refine .s fun m hm => ?_
  have e : tw (.mk 23 0 [] [c, b]) .stmt ++ m = kw wWhile :: (sg [40] :: (tw c (.at (-2)) ++ sg [41] :: (tw b .block ++ m))) := by show ([kw wWhile, sg [40]] ++ tw c (.at (-2)) ++ [sg [41]] ++ tw b .block) ++ m = _; simp
  rw [e]
  obtain ⟨F1, g1⟩ := ev_inner (l' := []) (ev_close (ih1.ex h1) (tw b .block ++ m))
  obtain ⟨F2, g2⟩ := ev_body (fn := fn) (lp := lp) (f := false) (by rw [Bool.or_false]; exact ih2.block h3 m)
  refine ev_of (max F1 F2) fun G hG => ?_
  simp only [run]
  rw [alt_no (no_kw (show wWhile ≠ wLet from by decide) _), alt_no (no_kw (show wWhile ≠ Pars.wFn from by decide) _), alt_no (no_kw (show wWhile ≠ wIf from by decide) _), alt_some (is_kw _ _), and_some (g1 G (by omega)), and_some (g2 G (by omega))]
 | for_ fn lp t c b h0 h1 h2 h3 h4 ih1 ih2 =>
  refine .s fun m hm => ?_
  have e : tw (.mk 24 0 t [c, b]) .stmt ++ m = kw wFor :: (sg [40] :: kw wLet :: nm t :: kw wOf :: (tw c (.at (-2)) ++ sg [41] :: (tw b .block ++ m))) := by show ([kw wFor, sg [40], kw wLet, nm t, kw wOf] ++ tw c (.at (-2)) ++ [sg [41]] ++ tw b .block) ++ m = _; simp
  rw [e]
  obtain ⟨F1, g1⟩ := ev_close (ih1.ex h1) (tw b .block ++ m)
  obtain ⟨F2, g2⟩ := ev_body (fn := fn) (lp := lp) (f := false) (by rw [Bool.or_false]; exact ih2.block h3 m)
  refine ev_of (max F1 F2 + 1) fun G hG => ?_
  obtain ⟨g, rfl⟩ : ∃ g, G = g + 1 := ⟨G - 1, by omega⟩
  rw [run]
  rw [alt_no (no_kw (show wFor ≠ wLet from by decide) _), alt_no (no_kw (show wFor ≠ Pars.wFn from by decide) _), alt_no (no_kw (show wFor ≠ wIf from by decide) _), alt_no (no_kw (show wFor ≠ wWhile from by decide) _), alt_some (is_kw _ _)]
  simp only [run]
  rw [must_some (is_sg _ _), must_some (is_kw _ _), named_nm, must_some (is_kw _ _), and_some (g1 g (by omega)), must_some (is_sg _ _), and_some (g2 g (by omega))]
 | ret0 lp =>
  refine .s fun m hm => ?_
  have e : tw (.mk 25 0 [] []) .stmt ++ m = kw wReturn :: sg [59] :: m := by show ([kw wReturn] ++ [] ++ [sg [59]]) ++ m = _; simp
  rw [e]
  refine ev_of 0 fun G hG => ?_
  simp only [run]
  rw [alt_no (no_kw (show wReturn ≠ wLet from by decide) _), alt_no (no_kw (show wReturn ≠ Pars.wFn from by decide) _), alt_no (no_kw (show wReturn ≠ wIf from by decide) _), alt_no (no_kw (show wReturn ≠ wWhile from by decide) _), alt_no (no_kw (show wReturn ≠ wFor from by decide) _), alt_some (is_kw _ _), if_neg (by decide), alt_some (is_sg _ _)]
 | ret1 lp a h1 h2 ih =>
  refine .s fun m hm => ?_
  have e : tw (.mk 25 0 [] [a]) .stmt ++ m = kw wReturn :: (tw a (.at (-2)) ++ sg [59] :: m) := by show ([kw wReturn] ++ tw a (.at (-2)) ++ [sg [59]]) ++ m = _; simp
  rw [e]
  have hx : Ev .expression true lp (tw a (.at (-2)) ++ sg [59] :: m) a (sg [59] :: m) := ev_semi (ih.ex h1) m
  have hno := is_no (s := [59]) (by decide) hx (by simp)
  obtain ⟨F, h⟩ := hx
  refine ev_of F fun G hG => ?_
  simp only [run]
  rw [alt_no (no_kw (show wReturn ≠ wLet from by decide) _), alt_no (no_kw (show wReturn ≠ Pars.wFn from by decide) _), alt_no (no_kw (show wReturn ≠ wIf from by decide) _), alt_no (no_kw (show wReturn ≠ wWhile from by decide) _), alt_no (no_kw (show wReturn ≠ wFor from by decide) _), alt_some (is_kw _ _), if_neg (by decide), alt_no hno, and_some (h G hG)]
  exact must_some (is_sg _ _)
 | brk fn =>
  refine .s fun m hm => ?_
  rw [show tw (.mk 26 0 [] []) .stmt ++ m = kw wBreak :: sg [59] :: m from rfl]
  refine ev_of 0 fun G hG => ?_
  simp only [run]
  rw [alt_no (no_kw (show wBreak ≠ wLet from by decide) _), alt_no (no_kw (show wBreak ≠ Pars.wFn from by decide) _), alt_no (no_kw (show wBreak ≠ wIf from by decide) _), alt_no (no_kw (show wBreak ≠ wWhile from by decide) _), alt_no (no_kw (show wBreak ≠ wFor from by decide) _), alt_no (no_kw (show wBreak ≠ wReturn from by decide) _), alt_some (is_kw _ _), if_neg (by decide)]
  exact must_some (is_sg _ _)
 | cont fn =>
  refine .s fun m hm => ?_
  rw [show tw (.mk 27 0 [] []) .stmt ++ m = kw wContinue :: sg [59] :: m from rfl]
  refine ev_of 0 fun G hG => ?_
  simp only [run]
  rw [alt_no (no_kw (show wContinue ≠ wLet from by decide) _), alt_no (no_kw (show wContinue ≠ Pars.wFn from by decide) _), alt_no (no_kw (show wContinue ≠ wIf from by decide) _), alt_no (no_kw (show wContinue ≠ wWhile from by decide) _), alt_no (no_kw (show wContinue ≠ wFor from by decide) _), alt_no (no_kw (show wContinue ≠ wReturn from by decide) _), alt_no (no_kw (show wContinue ≠ wBreak from by decide) _), alt_some (is_kw _ _), if_neg (by decide)]
  exact must_some (is_sg _ _)
 | throw fn lp a h1 h2 ih =>
  refine .s fun m hm => ?_
  have e : tw (.mk 28 0 [] [a]) .stmt ++ m = kw wThrow :: (tw a (.at (-2)) ++ sg [59] :: m) := by show ([kw wThrow] ++ tw a (.at (-2)) ++ [sg [59]]) ++ m = _; simp
  rw [e]
  obtain ⟨F, h⟩ := ev_semi (ih.ex h1) m
  refine ev_of F fun G hG => ?_
  simp only [run]
  rw [alt_no (no_kw (show wThrow ≠ wLet from by decide) _), alt_no (no_kw (show wThrow ≠ Pars.wFn from by decide) _), alt_no (no_kw (show wThrow ≠ wIf from by decide) _), alt_no (no_kw (show wThrow ≠ wWhile from by decide) _), alt_no (no_kw (show wThrow ≠ wFor from by decide) _), alt_no (no_kw (show wThrow ≠ wReturn from by decide) _), alt_no (no_kw (show wThrow ≠ wBreak from by decide) _), alt_no (no_kw (show wThrow ≠ wContinue from by decide) _), alt_some (is_kw _ _), and_some (h G hG)]
  exact must_some (is_sg _ _)
 | try1 fn lp t b c h0 h1 h2 h3 h4 ih1 ih2 =>
  refine .s fun m hm => ?_
  have e : tw (.mk 29 1 t [b, c]) .stmt ++ m = kw wTry :: (tw b .block ++ (kw wCatch :: sg [40] :: nm t :: sg [41] :: (tw c .block ++ m))) := by show ([kw wTry] ++ tw b .block ++ ([kw wCatch, sg [40], nm t, sg [41]] ++ tw c .block) ++ []) ++ m = _; simp
  rw [e]
  obtain ⟨F1, g1⟩ := ih1.block h1 (kw wCatch :: sg [40] :: nm t :: sg [41] :: (tw c .block ++ m))
  obtain ⟨F2, g2⟩ := ih2.block h3 m
  refine ev_of (max F1 F2 + 1) fun G hG => ?_
  obtain ⟨g, rfl⟩ : ∃ g, G = g + 1 := ⟨G - 1, by omega⟩
  rw [run]
  rw [alt_no (no_kw (show wTry ≠ wLet from by decide) _), alt_no (no_kw (show wTry ≠ Pars.wFn from by decide) _), alt_no (no_kw (show wTry ≠ wIf from by decide) _), alt_no (no_kw (show wTry ≠ wWhile from by decide) _), alt_no (no_kw (show wTry ≠ wFor from by decide) _), alt_no (no_kw (show wTry ≠ wReturn from by decide) _), alt_no (no_kw (show wTry ≠ wBreak from by decide) _), alt_no (no_kw (show wTry ≠ wContinue from by decide) _), alt_no (no_kw (show wTry ≠ wThrow from by decide) _), alt_some (is_kw _ _)]
  simp only [run]
  rw [and_some (g1 g (by omega)), alt_some (is_kw _ _), must_some (is_sg _ _), named_nm, must_some (is_sg _ _), and_some (g2 g (by omega)), alt_no hm.2.1]
 | try2 fn lp b d h1 h2 h3 h4 ih1 ih2 =>
  refine .s fun m hm => ?_
  have e : tw (.mk 29 2 [] [b, d]) .stmt ++ m = kw wTry :: (tw b .block ++ (kw wFinally :: (tw d .block ++ m))) := by show ([kw wTry] ++ tw b .block ++ [] ++ ([kw wFinally] ++ tw d .block)) ++ m = _; simp
  rw [e]
  obtain ⟨F1, g1⟩ := ih1.block h1 (kw wFinally :: (tw d .block ++ m))
  obtain ⟨F2, g2⟩ := ih2.block h3 m
  refine ev_of (max F1 F2 + 1) fun G hG => ?_
  obtain ⟨g, rfl⟩ : ∃ g, G = g + 1 := ⟨G - 1, by omega⟩
  rw [run]
  rw [alt_no (no_kw (show wTry ≠ wLet from by decide) _), alt_no (no_kw (show wTry ≠ Pars.wFn from by decide) _), alt_no (no_kw (show wTry ≠ wIf from by decide) _), alt_no (no_kw (show wTry ≠ wWhile from by decide) _), alt_no (no_kw (show wTry ≠ wFor from by decide) _), alt_no (no_kw (show wTry ≠ wReturn from by decide) _), alt_no (no_kw (show wTry ≠ wBreak from by decide) _), alt_no (no_kw (show wTry ≠ wContinue from by decide) _), alt_no (no_kw (show wTry ≠ wThrow from by decide) _), alt_some (is_kw _ _)]
  simp only [run]
  rw [and_some (g1 g (by omega)), alt_no (no_kw (show wFinally ≠ wCatch from by decide) _), alt_some (is_kw _ _), and_some (g2 g (by omega))]
 | try3 fn lp t b c d h0 h1 h2 h3 h4 h5 h6 ih1 ih2 ih3 =>
  refine .s fun m hm => ?_
  have e : tw (.mk 29 3 t [b, c, d]) .stmt ++ m = kw wTry :: (tw b .block ++ (kw wCatch :: sg [40] :: nm t :: sg [41] :: (tw c .block ++ (kw wFinally :: (tw d .block ++ m))))) := by show ([kw wTry] ++ tw b .block ++ ([kw wCatch, sg [40], nm t, sg [41]] ++ tw c .block) ++ ([kw wFinally] ++ tw d .block)) ++ m = _; simp
  rw [e]
  obtain ⟨F1, g1⟩ := ih1.block h1 (kw wCatch :: sg [40] :: nm t :: sg [41] :: (tw c .block ++ (kw wFinally :: (tw d .block ++ m))))
  obtain ⟨F2, g2⟩ := ih2.block h3 (kw wFinally :: (tw d .block ++ m))
  obtain ⟨F3, g3⟩ := ih3.block h5 m
  refine ev_of (max F1 (max F2 F3) + 1) fun G hG => ?_
  obtain ⟨g, rfl⟩ : ∃ g, G = g + 1 := ⟨G - 1, by omega⟩
  rw [run]
  rw [alt_no (no_kw (show wTry ≠ wLet from by decide) _), alt_no (no_kw (show wTry ≠ Pars.wFn from by decide) _), alt_no (no_kw (show wTry ≠ wIf from by decide) _), alt_no (no_kw (show wTry ≠ wWhile from by decide) _), alt_no (no_kw (show wTry ≠ wFor from by decide) _), alt_no (no_kw (show wTry ≠ wReturn from by decide) _), alt_no (no_kw (show wTry ≠ wBreak from by decide) _), alt_no (no_kw (show wTry ≠ wContinue from by decide) _), alt_no (no_kw (show wTry ≠ wThrow from by decide) _), alt_some (is_kw _ _)]
  simp only [run]
  rw [and_some (g1 g (by omega)), alt_some (is_kw _ _), must_some (is_sg _ _), named_nm, must_some (is_sg _ _), and_some (g2 g (by omega)), alt_some (is_kw _ _), and_some (g3 g (by omega))]
 | block fn lp l h1 h2 ih =>
  have key : ∀ m, Ev .block fn lp (tw (.mk 30 0 [] l) .block ++ m) (.mk 30 0 [] l) m := by
   intro m
   obtain ⟨_, F, h⟩ := block_go l [] m fun x hx => (ih x hx).stmt (h1 x hx).1
   rw [tw_blk, show [sg [123]] ++ (l.flatMap fun x => tw x .stmt) ++ [sg [125]] ++ m = sg [123] :: ((l.flatMap fun x => tw x .stmt) ++ sg [125] :: m) from by simp]
   refine ev_of F fun G hG => ?_
   simp only [run]
   rw [must_some (is_sg _ _), h G hG, List.nil_append]
  refine ⟨fun e => by simp [isE, Node.kind] at e, fun e => by simp [Node.kind] at e, fun e => by simp [Node.kind] at e, fun _ => key, fun e => by simp [Node.kind] at e, fun _ m hm => ?_⟩
  obtain ⟨F, h⟩ := key m
  have e : tw (.mk 30 0 [] l) .stmt ++ m = sg [123] :: ((l.flatMap fun x => tw x .stmt) ++ sg [125] :: m) := by rw [show tw (.mk 30 0 [] l) .stmt = tw (.mk 30 0 [] l) .block from rfl, tw_blk]; simp
  have e2 : tw (.mk 30 0 [] l) .block ++ m = sg [123] :: ((l.flatMap fun x => tw x .stmt) ++ sg [125] :: m) := by rw [tw_blk]; simp
  rw [e]
  rw [e2] at h
  refine ev_of F fun G hG => ?_
  simp only [run]
  rw [alt_no (no_sg (show [123] ≠ wLet from by decide) _), alt_no (no_sg (show [123] ≠ Pars.wFn from by decide) _), alt_no (no_sg (show [123] ≠ wIf from by decide) _), alt_no (no_sg (show [123] ≠ wWhile from by decide) _), alt_no (no_sg (show [123] ≠ wFor from by decide) _), alt_no (no_sg (show [123] ≠ wReturn from by decide) _), alt_no (no_sg (show [123] ≠ wBreak from by decide) _), alt_no (no_sg (show [123] ≠ wContinue from by decide) _), alt_no (no_sg (show [123] ≠ wThrow from by decide) _), alt_no (no_sg (show [123] ≠ wTry from by decide) _)]
  rw [show ∀ l a b, peek [123] (sg [123] :: l) a b = a from fun l a b => rfl, h G hG]
 | expr fn lp a h1 h2 ih =>
  refine .s fun m hm => ?_
  have e1 : tw (.mk 31 0 [] [a]) .stmt ++ m = (if front a = 7 ∨ front a = 9 then [sg [40]] ++ tw a (.at (-2)) ++ [sg [41]] else tw a (.at (-2))) ++ sg [59] :: m := by show ((if front a = 7 ∨ front a = 9 then [sg [40]] ++ tw a (.at (-2)) ++ [sg [41]] else tw a (.at (-2))) ++ [sg [59]]) ++ m = _; simp
  rw [e1]
  have hst : StopE (sg [59] :: m) := stopE_sg (by decide) (by decide) (by decide) m
  by_cases hf : front a = 7 ∨ front a = 9
  ·rw [if_pos hf]
   have e2 : [sg [40]] ++ tw a (.at (-2)) ++ [sg [41]] ++ sg [59] :: m = sg [40] :: (tw a (.at (-2)) ++ sg [41] :: (sg [59] :: m)) := by simp
   rw [e2]
   obtain ⟨F, h⟩ := ev_up (ev_paren (ev_close (ih.ex h1) (sg [59] :: m))) hst
   refine ev_of F fun G hG => ?_
   simp only [run]
   rw [alt_no (no_sg (show [40] ≠ wLet from by decide) _), alt_no (no_sg (show [40] ≠ Pars.wFn from by decide) _), alt_no (no_sg (show [40] ≠ wIf from by decide) _), alt_no (no_sg (show [40] ≠ wWhile from by decide) _), alt_no (no_sg (show [40] ≠ wFor from by decide) _), alt_no (no_sg (show [40] ≠ wReturn from by decide) _), alt_no (no_sg (show [40] ≠ wBreak from by decide) _), alt_no (no_sg (show [40] ≠ wContinue from by decide) _), alt_no (no_sg (show [40] ≠ wThrow from by decide) _), alt_no (no_sg (show [40] ≠ wTry from by decide) _)]
   rw [show ∀ l a b, peek [123] (sg [40] :: l) a b = b from fun l a b => rfl, and_some (h G hG)]
   exact must_some (is_sg _ _)
  ·rw [if_neg hf]
   obtain ⟨F, h⟩ := (ih.ex h1).ex _ hst
   obtain ⟨t, r, ht, hok, hh1, hh2⟩ := (ht h2 h1).at_ (-2)
   have hra := (rank_ge a).1
   rw [if_neg (by omega)] at hh1 hh2
   rw [ht] at h ⊢
   have q := ok_no hok (fun e => hf (.inr (hh1 e))) (r ++ sg [59] :: m)
   have q2 := ok_peek hok (fun e => hf (.inl (hh2 e))) (r ++ sg [59] :: m)
   rw [List.cons_append] at h ⊢
   refine ev_of F fun G hG => ?_
   simp only [run]
   rw [alt_no (q wLet (by decide)), alt_no (q Pars.wFn (by decide)), alt_no (q wIf (by decide)), alt_no (q wWhile (by decide)), alt_no (q wFor (by decide)), alt_no (q wReturn (by decide)), alt_no (q wBreak (by decide)), alt_no (q wContinue (by decide)), alt_no (q wThrow (by decide)), alt_no (q wTry (by decide)), q2, and_some (h G hG)]
   exact must_some (is_sg _ _)
end Wri
namespace Wri
open Pars
open Lexy (Tk sg kw nm)
theorem stmt_ne {x r : Node} {l m : List Tk} (h : Ev .statement false false l x m) : l ≠ [] := by
 rintro rfl
 obtain ⟨n, h⟩ := h.one
 rw [eats _ .statement _ _ rfl] at h
 cases h
theorem top_tw : ∀ (l acc : List Node) (n : Nat), l.length ≤ n → (∀ x ∈ l, Rt false false x) → (∀ x ∈ l, 20 ≤ x.kind) → top n acc (l.flatMap fun x => tw x .stmt) = some (acc ++ l) ∧ NoF (l.flatMap fun x => tw x .stmt)
 | [], acc, n, _, _, _ => ⟨by cases n <;> simp [top], ⟨rfl, rfl, rfl⟩⟩
 | x :: l, acc, 0, h, _, _ => by simp at h
 | x :: l, acc, n + 1, h, h1, h2 => by
  obtain ⟨i1, i2⟩ := top_tw l (acc ++ [x]) n (by simp at h; omega) (fun y hy => h1 y (by simp [hy])) fun y hy => h2 y (by simp [hy])
  have hx := (ps (h1 x (by simp))).stmt (h2 x (by simp)) _ i2
  rw [List.flatMap_cons]
  have hne := stmt_ne (r := x) hx
  have hr := ev_stmt hx
  refine ⟨?_, noF_ev hx⟩
  cases hl : tw x .stmt ++ l.flatMap fun x => tw x .stmt with
  | nil => exact absurd hl hne
  | cons t q =>
   rw [hl] at hr
   simp only [top]
   rw [hr]
   simp only
   rw [i1, List.append_assoc]; rfl
theorem tw_pos {x : Node} (h1 : Rt false false x) (h2 : 20 ≤ x.kind) : 0 < (tw x .stmt).length := by
 have := stmt_ne (r := x) ((ps h1).stmt h2 [] ⟨rfl, rfl, rfl⟩)
 rw [List.append_nil] at this
 exact List.length_pos_iff.2 this
theorem flat_len : ∀ l : List Node, (∀ x ∈ l, Rt false false x) → (∀ x ∈ l, 20 ≤ x.kind) → l.length ≤ (l.flatMap fun x => tw x .stmt).length
 | [], _, _ => by simp
 | x :: l, h1, h2 => by
  have := flat_len l (fun y hy => h1 y (by simp [hy])) fun y hy => h2 y (by simp [hy])
  have := tw_pos (h1 x (by simp)) (h2 x (by simp))
  simp only [List.flatMap_cons, List.length_append, List.length_cons]; omega
theorem tree_tw {n : Node} (h : Rt false false n) (hk : n.kind = 30) : tree (ttext n) = some n := by
 cases h with
 | block _ _ l h1 h2 =>
  unfold tree
  have := (top_tw l [] (l.flatMap fun x => tw x .stmt).length (flat_len l h2 fun x hx => (h1 x hx).1) h2 fun x hx => (h1 x hx).1).1
  rw [List.nil_append] at this
  show Option.map _ (top _ [] (l.flatMap fun x => tw x .stmt)) = _
  rw [show (ttext (.mk 30 0 [] l)).length = (l.flatMap fun x => tw x .stmt).length from rfl, this]
  rfl
 | _ => simp [Node.kind] at hk
theorem check_ok {n : Node} (h : check n = 0) : n.kind = 30 ∧ Rt false false n ∧ Pars.deep n ≤ 40 := by
 unfold check at h
 split at h
 ·cases h
 ·rename_i h1
  split at h
  ·cases h
  ·rename_i h2
   refine ⟨?_, rt_of n false false ?_, by omega⟩
   ·by_cases hk : n.kind = 30
    ·exact hk
    ·exact absurd (.inl hk) h1
   ·cases hr : right n false false with
    | true => rfl
    | false => exact absurd (.inr hr) h1
theorem written {n : Node} {s : Bs} (h : write n = .ok s) : parse s = .error 2 ∧ ¬ (ttext n).length ≤ 1000 ∨ parse s = .ok n := by
 unfold write at h
 split at h
 ·cases h
 ·rename_i hc
  split at h
  ·cases h
  ·rename_i hl
   injection h with h
   subst h
   obtain ⟨h1, h2, h3⟩ := check_ok (Decidable.not_not.1 hc)
   have ht := toks_text h2 h1 (Nat.not_lt.1 hl)
   unfold parse
   by_cases hn : (ttext n).length ≤ 1000
   ·rw [if_pos hn] at ht
    obtain ⟨full, e1, e2, _⟩ := ht
    rw [e1]
    simp only
    rw [e2, tree_tw h2 h1]
    simp only
    rw [if_neg (by omega)]
    exact .inr rfl
   ·rw [if_neg hn] at ht
    rw [ht]
    exact .inl ⟨rfl, hn⟩
end Wri
namespace Lexy
def SO : Bs := [32, 9, 47, 47, 32, 115, 111, 10]
def so (first : Bool) (g : Bs) : Bs := if !first && !(g.contains 47) then SO else []
theorem skp_zero_soft {a x y : Bs} (h : skp false (a ++ x) = 0) (ha : a ≠ []) (hs : Soft y x) : skp false (a ++ y) = 0 := by
 cases a with
 | nil => exact absurd rfl ha
 | cons c r =>
  simp only [List.cons_append, skp] at h ⊢
  by_cases h1 : isBlank c = true
  ·rw [if_pos h1] at h; omega
  ·rw [if_neg h1] at h ⊢
   by_cases h2 : (c == 47 && (r ++ x).head? == some 47) = true
   ·rw [if_pos h2] at h; omega
   ·rw [if_neg]
    intro h3
    apply h2
    simp only [Bool.and_eq_true, beq_iff_eq] at h3 ⊢
    refine ⟨h3.1, ?_⟩
    cases r with
    | cons d r' => simpa using h3.2
    | nil =>
     have h4 : y.head? = some 47 := by simpa using h3.2
     rcases hs with hs | hs
     ·simpa [← hs] using h4
     ·rcases hs 47 h4 with h5 | h5 <;> exact absurd h5 (by decide)
end Lexy
