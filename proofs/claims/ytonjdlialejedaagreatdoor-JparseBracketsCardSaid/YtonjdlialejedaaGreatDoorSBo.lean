/-
  Texts that the law leans on: PlL, LexP, PlM. Conditions: as each says.
-/
import Derived.Test.YtonjdlialejedaaGreatDoorSBk
import Derived.Test.YtonjdlialejedaaGreatDoorSBn
import Derived.Test.YtonjdlialejedaaGreatDoorSAa
import Derived.Test.YtonjdlialejedaaGreatDoorSBm
set_option linter.unusedSimpArgs false
set_option linter.unusedVariables false
namespace Wri
open Go (ln bn)
open Pars
open Lexy (Tk sg kw nm)
def RP (fn lp : Bool) : Nt → Node → Prop
 | .block, x => x.kind = 30 ∧ Rt fn lp x
 | .blockGo _, x => x.kind = 30 ∧ Rt fn lp x
 | .body f, x => x.kind = 30 ∧ Rt (fn || f) (!f) x
 | .function s, x => x.kind = 9 ∧ x.text = s ∧ Rt fn lp x
 | .ifs, x => x.kind = 22 ∧ Rt fn lp x
 | .loops, x => x.kind = 24 ∧ Rt fn lp x
 | .tries, x => x.kind = 29 ∧ Rt fn lp x
 | .statement, x => (20 ≤ x.kind ∧ x.kind ≤ 31) ∧ Rt fn lp x
 | .some _ one _ _, x => ∀ y ∈ x.kids, RP fn lp one y
 | .param, x => ∃ p, x = .mk 10 0 p [] ∧ name p = true
 | .pair, x => x.kind = 8 ∧ Rt fn lp x
 | _, x => isE x ∧ Rt fn lp x
def fc (h : Bool) : Nt → Node → Int
 | .block, x => (tw x .block).length
 | .blockGo _, x => (tw x .block).length
 | .body _, x => (tw x .block).length
 | .function _, x => (tw x .fn).length
 | .inner, x => cq (-2) x + 2
 | .ifs, x => (tw x .ifs).length
 | .loops, x => (tw x .stmt).length
 | .tries, x => (tw x .stmt).length
 | .statement, x => (tw x .stmt).length
 | .expression, x => dq h (-2) x
 | .cond, x => dq h (-2) x
 | .binary r, x => dq h r x
 | .binGo r _, x => dq h r x
 | .unary, x => dq h 6 x
 | .post _, x => dq h 7 x
 | .first, x => dq h 7 x
 | .some _ one _ _, x => (tjoin (x.kids.map (TT one))).length + 1
 | .param, _ => 1
 | .pair, x => (tw x .pair).length
def ow (h : Bool) : Nt → Int
 | .blockGo acc => 1 + (acc.flatMap fun x => tw x .stmt).length
 | .function s => 1 + if s = [] then 0 else 1
 | .ifs => 1
 | .loops => 1
 | .tries => 1
 | .binGo r e => dq h r e
 | .post e => dq h 7 e
 | .some _ one _ acc => (tjoin (acc.map (TT one))).length
 | _ => 0
def PRE (fn lp : Bool) : Nt → Prop
 | .blockGo acc => ∀ y ∈ acc, (20 ≤ y.kind ∧ y.kind ≤ 31) ∧ Rt fn lp y
 | .function s => s = [] ∨ name s = true
 | .binGo r e => r < 6 ∧ isE e ∧ Rt fn lp e
 | .post e => isE e ∧ Rt fn lp e
 | .binary r => r ≤ 6
 | .some _ one more acc => (one = .param ∨ one = .expression ∨ one = .pair) ∧ (∀ y ∈ acc, RP fn lp one y) ∧ (more = true ↔ acc ≠ [])
 | _ => True
theorem Cw.tr {q : Int} {P : Node → Prop} {p : List Tk → R} (h : Cw (HH true) 0 (dq true q) P p) : Cw Tr 0 (cq q) P p :=
 (h.imp fun _ _ => .inl rfl).weak (fun x _ => by rw [dq_true]; exact Int.le_refl _) fun _ h => h
theorem tjoin_snoc : ∀ (l : List (List Tk)) (a : List Tk), l ≠ [] → (tjoin (l ++ [a])).length = (tjoin l).length + 1 + a.length
 | [], _, h => absurd rfl h
 | [b], a, _ => by simp [tjoin]; omega
 | b :: c :: l, a, _ => by
  have ih := tjoin_snoc (c :: l) a (by simp)
  simp only [List.cons_append, tjoin, List.length_append, List.length_cons, List.length_nil] at ih ⊢
  omega
theorem kids_params {fn lp : Bool} : ∀ l : List Node, (∀ y ∈ l, RP fn lp .param y) → ∃ ps : List Bs, l = ps.map (fun p => .mk 10 0 p []) ∧ (∀ p ∈ ps, name p = true) ∧ l.map (TT .param) = ps.map fun p => [nm p]
 | [], _ => ⟨[], rfl, (fun p hp => by cases hp), rfl⟩
 | y :: l, h => by
  obtain ⟨ps, h1, h2, h3⟩ := kids_params l fun z hz => h z (by simp [hz])
  obtain ⟨p, rfl, hp⟩ := h y (by simp)
  refine ⟨p :: ps, by rw [h1]; rfl, fun q hq => ?_, by rw [List.map_cons, h3]; rfl⟩
  rcases List.mem_cons.1 hq with rfl | hq
  ·exact hp
  ·exact h2 q hq
theorem isT_E {e : Node} (h : e.kind = 5 ∨ e.kind = 12 ∨ e.kind = 13) : 7 ≤ rank e := by
 unfold rank; rcases h with h | h | h <;> simp [h]
set_option maxHeartbeats 4000000 in
theorem run_cw : ∀ (n : Nat) nt fn lp h, PRE fn lp nt → Cw (HN h nt) (ow h nt) (fc h nt) (RP fn lp nt) (fun l => run n nt fn lp l)
 | 0, nt, fn, lp, h, _ => by simp only [run]; exact cw_none
 | n + 1, nt, fn, lp, h, hpre => by
  have ih := run_cw n
  have iE : ∀ fn lp, Cw Tr 0 (cq (-2)) (fun x => isE x ∧ Rt fn lp x) (fun l => run n .expression fn lp l) := fun fn lp => (ih .expression fn lp true trivial).tr
  have iB : ∀ fn lp, Cw Tr 0 (fun x => ((tw x .block).length : Int)) (fun x => x.kind = 30 ∧ Rt fn lp x) (fun l => run n .block fn lp l) := fun fn lp => ih .block fn lp true trivial
  have iI : Cw Tr 0 (fun x => cq (-2) x + 2) (fun x => isE x ∧ Rt fn lp x) (fun l => run n .inner fn lp l) := ih .inner fn lp true trivial
  have iY : ∀ f, Cw Tr 0 (fun x => ((tw x .block).length : Int)) (fun x => x.kind = 30 ∧ Rt (fn || f) (!f) x) (fun l => run n (.body f) fn lp l) := fun f => ih (.body f) fn lp true trivial
  have iS : ∀ fin one, (one = .param ∨ one = .expression ∨ one = .pair) → Cw Tr 0 (fun x => ((tjoin (x.kids.map (TT one))).length : Int) + 1) (fun x => ∀ y ∈ x.kids, RP fn lp one y) (fun l => run n (.some fin one false []) fn lp l) := fun fin one ho => ih (.some fin one false []) fn lp true ⟨ho, fun y hy => by (cases hy), by simp⟩
  cases nt
  case block =>
   simp only [run]
   exact cw_must ((ih (.blockGo []) fn lp h (fun y hy => by cases hy)).weak (fun x _ => by simp [ow, fc]) fun _ h => h)
  case blockGo acc =>
   simp only [run]
   refine cw_alt (fun _ => cw_pure ⟨rfl, .block fn lp acc (fun y hy => (hpre y hy).1) fun y hy => (hpre y hy).2⟩ ?_) (cw_and (ih .statement fn lp h trivial).any fun k hk => ?_)
   ·simp only [fc, ow, tw_blk, List.length_append, List.length_cons, List.length_nil]; omega
   ·refine (ih (.blockGo (acc ++ [k])) fn lp h fun y hy => ?_).weak (fun x _ => ?_) fun _ h => h
    ·rcases List.mem_append.1 hy with hy | hy
     ·exact hpre y hy
     ·rw [List.mem_singleton.1 hy]; exact hk
    ·simp only [ow, fc, List.flatMap_append, List.flatMap_cons, List.flatMap_nil, List.append_nil, List.length_append]; omega
  case body f =>
   simp only [run]
   exact iB (fn || f) (!f)
  case function s =>
   simp only [run]
   refine cw_must (cw_and (iS [41] .param (by simp)) fun ps hps => cw_and (iY true) fun b hb => ?_)
   obtain ⟨pl, e1, e2, e3⟩ := kids_params ps.kids hps
   refine cw_pure ⟨rfl, rfl, ?_⟩ ?_
   ·rw [e1]
    refine .func fn lp s pl b hpre e2 hb.1 ?_
    have := hb.2
    rwa [Bool.or_true] at this
   ·rw [e3, e1]
    simp only [fc, ow, tw_func, tlisted, List.length_append, List.length_cons, List.length_nil]
    by_cases hs : s = []
    ·rw [if_pos hs, if_pos hs]; simp only [List.length_nil]; omega
    ·rw [if_neg hs, if_neg hs]; simp only [List.length_cons, List.length_nil]; omega
  case inner =>
   simp only [run]
   exact cw_must (cw_and (iE fn lp) fun e he => cw_must (cw_pure he (by simp only [fc, ow]; omega)))
  case ifs =>
   simp only [run]
   refine cw_and iI fun c hc => cw_and (iB fn lp) fun b hb => cw_alt (fun _ => cw_alt (fun _ => ?_) ?_) ?_
   ·refine cw_and (ih .ifs fn lp h trivial) fun e he => cw_pure ⟨rfl, .if3 fn lp c b e hc.1 hc.2 hb.1 hb.2 (.inr he.1) he.2⟩ ?_
    have e2 : tw (.mk 22 0 [] [c, b, e]) .ifs = [kw Pars.wIf, sg [40]] ++ tw c (.at (-2)) ++ [sg [41]] ++ tw b .block ++ ([kw Pars.wElse] ++ (if e.kind = 22 then tw e .ifs else tw e .block)) := rfl
    rw [show fc h .ifs (.mk 22 0 [] [c, b, e]) = ((tw (.mk 22 0 [] [c, b, e]) .ifs).length : Int) from rfl, e2, if_pos he.1]
    simp only [fc, ow, cq, List.length_append, List.length_cons, List.length_nil]; omega
   ·refine Cw.any (cw_and (iB fn lp) fun e he => cw_pure ⟨rfl, .if3 fn lp c b e hc.1 hc.2 hb.1 hb.2 (.inl he.1) he.2⟩ ?_)
    have e2 : tw (.mk 22 0 [] [c, b, e]) .ifs = [kw Pars.wIf, sg [40]] ++ tw c (.at (-2)) ++ [sg [41]] ++ tw b .block ++ ([kw Pars.wElse] ++ (if e.kind = 22 then tw e .ifs else tw e .block)) := rfl
    have hk := he.1
    rw [show fc h .ifs (.mk 22 0 [] [c, b, e]) = ((tw (.mk 22 0 [] [c, b, e]) .ifs).length : Int) from rfl, e2, if_neg (by omega)]
    simp only [fc, ow, cq, List.length_append, List.length_cons, List.length_nil]; omega
   ·refine cw_pure ⟨rfl, .if2 fn lp c b hc.1 hc.2 hb.1 hb.2⟩ ?_
    have e2 : tw (.mk 22 0 [] [c, b]) .ifs = [kw Pars.wIf, sg [40]] ++ tw c (.at (-2)) ++ [sg [41]] ++ tw b .block ++ [] := rfl
    rw [show fc h .ifs (.mk 22 0 [] [c, b]) = ((tw (.mk 22 0 [] [c, b]) .ifs).length : Int) from rfl, e2]
    simp only [ow, cq, List.length_append, List.length_cons, List.length_nil]; omega
  case loops =>
   simp only [run]
   refine cw_must (cw_must (cw_named fun s hs => cw_must (cw_and (iE fn lp) fun c hc => cw_must (cw_and (iY false) fun b hb => cw_pure ⟨rfl, .for_ fn lp s c b hs hc.1 hc.2 hb.1 ?_⟩ ?_))))
   ·have := hb.2; rwa [Bool.or_false] at this
   ·have e2 : tw (.mk 24 0 s [c, b]) .stmt = [kw Pars.wFor, sg [40], kw Pars.wLet, nm s, kw Pars.wOf] ++ tw c (.at (-2)) ++ [sg [41]] ++ tw b .block := rfl
    rw [show fc h .loops (.mk 24 0 s [c, b]) = ((tw (.mk 24 0 s [c, b]) .stmt).length : Int) from rfl, e2]
    simp only [ow, cq, List.length_append, List.length_cons, List.length_nil]; omega
  case tries =>
   simp only [run]
   refine cw_and (iB fn lp) fun b hb => cw_alt (fun _ => cw_must (cw_named fun s hs => cw_must (cw_and (iB fn lp) fun c hc => cw_alt (fun _ => cw_and (iB fn lp) fun d hd => cw_pure ⟨rfl, .try3 fn lp s b c d hs hb.1 hb.2 hc.1 hc.2 hd.1 hd.2⟩ ?_) (cw_pure ⟨rfl, .try1 fn lp s b c hs hb.1 hb.2 hc.1 hc.2⟩ ?_)))) (cw_alt (fun _ => cw_and (iB fn lp) fun d hd => cw_pure ⟨rfl, .try2 fn lp b d hb.1 hb.2 hd.1 hd.2⟩ ?_) cw_none)
   ·have e2 : tw (.mk 29 3 s [b, c, d]) .stmt = [kw Pars.wTry] ++ tw b .block ++ ([kw Pars.wCatch, sg [40], nm s, sg [41]] ++ tw c .block) ++ ([kw Pars.wFinally] ++ tw d .block) := rfl
    rw [show fc h .tries (.mk 29 3 s [b, c, d]) = ((tw (.mk 29 3 s [b, c, d]) .stmt).length : Int) from rfl, e2]
    simp only [ow, cq, List.length_append, List.length_cons, List.length_nil]; omega
   ·have e2 : tw (.mk 29 1 s [b, c]) .stmt = [kw Pars.wTry] ++ tw b .block ++ ([kw Pars.wCatch, sg [40], nm s, sg [41]] ++ tw c .block) ++ [] := rfl
    rw [show fc h .tries (.mk 29 1 s [b, c]) = ((tw (.mk 29 1 s [b, c]) .stmt).length : Int) from rfl, e2]
    simp only [ow, cq, List.length_append, List.length_cons, List.length_nil]; omega
   ·have e2 : tw (.mk 29 2 [] [b, d]) .stmt = [kw Pars.wTry] ++ tw b .block ++ [] ++ ([kw Pars.wFinally] ++ tw d .block) := rfl
    rw [show fc h .tries (.mk 29 2 [] [b, d]) = ((tw (.mk 29 2 [] [b, d]) .stmt).length : Int) from rfl, e2]
    simp only [ow, cq, List.length_append, List.length_cons, List.length_nil]; omega
  case statement =>
   simp only [run]
   refine cw_alt (fun _ => cw_named fun s hs => cw_must (cw_and (iE fn lp) fun e he => cw_ended ⟨by simp [Node.kind], .let_ fn lp s e hs he.1 he.2⟩ ?_)) ?_
   ·have e2 : tw (.mk 20 0 s [e]) .stmt = [kw Pars.wLet, nm s, sg [61]] ++ tw e (.at (-2)) ++ [sg [59]] := rfl
    rw [show fc h .statement (.mk 20 0 s [e]) = ((tw (.mk 20 0 s [e]) .stmt).length : Int) from rfl, e2]
    simp only [ow, cq, List.length_append, List.length_cons, List.length_nil]; omega
   refine cw_alt (fun _ => cw_named fun s hs => cw_and (ih (.function s) fn lp h (.inr hs)) fun f hf => cw_pure ⟨by simp [Node.kind], .def_ fn lp f hf.1 (by rw [hf.2.1]; exact not3 hs) hf.2.2⟩ ?_) ?_
   ·rw [show fc h .statement (.mk 21 0 [] [f]) = ((tw f .fn).length : Int) from rfl]
    simp only [ow, fc, if_neg (not3 hs)]; omega
   refine cw_alt (fun _ => (ih .ifs fn lp h trivial).weak (fun x hx => ?_) fun x hx => ⟨by rw [hx.1]; decide, hx.2⟩) ?_
   ·have : tw x .stmt = tw x .ifs := by
     obtain ⟨hk, _⟩ := hx
     cases x with | mk k nu t l => obtain rfl : k = 22 := hk; rfl
    simp only [fc, ow, this]; omega
   refine cw_alt (fun _ => cw_and iI fun c hc => cw_and (iY false) fun b hb => cw_pure ⟨by simp [Node.kind], .while_ fn lp c b hc.1 hc.2 hb.1 (by have := hb.2; rwa [Bool.or_false] at this)⟩ ?_) ?_
   ·have e2 : tw (.mk 23 0 [] [c, b]) .stmt = [kw Pars.wWhile, sg [40]] ++ tw c (.at (-2)) ++ [sg [41]] ++ tw b .block := rfl
    rw [show fc h .statement (.mk 23 0 [] [c, b]) = ((tw (.mk 23 0 [] [c, b]) .stmt).length : Int) from rfl, e2]
    simp only [ow, cq, List.length_append, List.length_cons, List.length_nil]; omega
   refine cw_alt (fun _ => (ih .loops fn lp h trivial).weak (fun x hx => by simp only [fc, ow]; omega) fun x hx => ⟨by rw [hx.1]; decide, hx.2⟩) ?_
   refine cw_alt (fun _ => cw_ite (fun _ => cw_none) fun hfn => cw_alt (fun _ => ?_) (Cw.any (cw_and (iE fn lp) fun e he => cw_ended ⟨by simp [Node.kind], ?_⟩ ?_))) ?_
   ·have hfn2 : fn = true := by simpa using hfn
    subst hfn2
    exact cw_pure ⟨by simp [Node.kind], .ret0 lp⟩ (by simp [fc, ow, show tw (.mk 25 0 [] []) .stmt = [kw Pars.wReturn, sg [59]] from rfl])
   ·have hfn2 : fn = true := by simpa using hfn
    subst hfn2
    exact .ret1 lp e he.1 he.2
   ·have e2 : tw (.mk 25 0 [] [e]) .stmt = [kw Pars.wReturn] ++ tw e (.at (-2)) ++ [sg [59]] := rfl
    rw [show fc h .statement (.mk 25 0 [] [e]) = ((tw (.mk 25 0 [] [e]) .stmt).length : Int) from rfl, e2]
    simp only [ow, cq, List.length_append, List.length_cons, List.length_nil]; omega
   refine cw_alt (fun _ => cw_ite (fun _ => cw_none) fun hlp => ?_) ?_
   ·have hlp2 : lp = true := by simpa using hlp
    subst hlp2
    exact cw_ended ⟨by simp [Node.kind], .brk fn⟩ (by simp [fc, ow, show tw (.mk 26 0 [] []) .stmt = [kw Pars.wBreak, sg [59]] from rfl])
   refine cw_alt (fun _ => cw_ite (fun _ => cw_none) fun hlp => ?_) ?_
   ·have hlp2 : lp = true := by simpa using hlp
    subst hlp2
    exact cw_ended ⟨by simp [Node.kind], .cont fn⟩ (by simp [fc, ow, show tw (.mk 27 0 [] []) .stmt = [kw Pars.wContinue, sg [59]] from rfl])
   refine cw_alt (fun _ => cw_and (iE fn lp) fun e he => cw_ended ⟨by simp [Node.kind], .throw fn lp e he.1 he.2⟩ ?_) ?_
   ·have e2 : tw (.mk 28 0 [] [e]) .stmt = [kw Pars.wThrow] ++ tw e (.at (-2)) ++ [sg [59]] := rfl
    rw [show fc h .statement (.mk 28 0 [] [e]) = ((tw (.mk 28 0 [] [e]) .stmt).length : Int) from rfl, e2]
    simp only [ow, cq, List.length_append, List.length_cons, List.length_nil]; omega
   refine cw_alt (fun _ => (ih .tries fn lp h trivial).weak (fun x hx => by simp only [fc, ow]; omega) fun x hx => ⟨by rw [hx.1]; decide, hx.2⟩) ?_
   refine cw_peek (Cw.any ((iB fn lp).weak (fun x hx => ?_) fun x hx => ⟨by rw [hx.1]; decide, hx.2⟩)) ?_
   ·have : tw x .stmt = tw x .block := by
     obtain ⟨hk, _⟩ := hx
     cases x with | mk k nu t l => obtain rfl : k = 30 := hk; rfl
    simp only [fc, ow, this]; omega
   refine cw_and ((ih .expression fn lp false trivial).imp fun l hl => .inr ⟨hl.1.1.1.1.1.1.1.1.1.2, hl.2⟩) fun e he => cw_ended ⟨by simp [Node.kind], .expr fn lp e he.1 he.2⟩ ?_
   have e2 : tw (.mk 31 0 [] [e]) .stmt = (if front e = 7 ∨ front e = 9 then [sg [40]] ++ tw e (.at (-2)) ++ [sg [41]] else tw e (.at (-2))) ++ [sg [59]] := rfl
   rw [show fc h .statement (.mk 31 0 [] [e]) = ((tw (.mk 31 0 [] [e]) .stmt).length : Int) from rfl, e2, show fc false .expression e = dq false (-2) e from rfl, dq_false_two]
   unfold ext cq
   by_cases hf : front e = 7 ∨ front e = 9
   ·rw [if_pos hf, if_pos hf]
    simp only [ow, List.length_append, List.length_cons, List.length_nil]; omega
   ·rw [if_neg hf, if_neg hf]
    simp only [ow, List.length_append, List.length_cons, List.length_nil]; omega
  case expression =>
   simp only [run]
   refine cw_and (ih .cond fn lp h trivial) fun e he => cw_alt (fun _ => cw_ite (fun hk => cw_and (iE fn lp) fun v hv => cw_pure ⟨by simp [isE, Node.kind], .assign fn lp e v hk he.2 hv.1 hv.2⟩ ?_) fun _ => cw_none) (cw_pure he (by simp only [fc, ow]; omega))
   have hr := isT_E hk
   have e3 : fc h .expression (.mk 19 0 [] [e, v]) = dq h 7 e + 1 + cq (-2) v := by
    show ((tw e (.at 7) ++ [sg [61]] ++ tw v (.at (-2))).length : Int) + (if h then 0 else ext (fr 7 e)) = _
    unfold dq cq
    simp only [ln]; omega
   rw [e3, ← dq_high h hr (-2) (by omega)]
   simp only [fc, ow]; omega
  case cond =>
   simp only [run]
   refine cw_and (ih (.binary 0) fn lp h (by simp [PRE])) fun e he => cw_alt (fun _ => cw_and (iE fn lp) fun a ha => cw_must (cw_and (iE fn lp) fun b hb => cw_pure ⟨by simp [isE, Node.kind], .cond fn lp e a b he.1 he.2 ha.1 ha.2 hb.1 hb.2⟩ ?_)) (cw_pure he ?_)
   ·have e3 : fc h .cond (.mk 18 0 [] [e, a, b]) = dq h 0 e + 1 + cq (-2) a + 1 + cq (-2) b := by
     show ((tw e (.at 0) ++ [sg [63]] ++ tw a (.at (-2)) ++ [sg [58]] ++ tw b (.at (-2))).length : Int) + (if h then 0 else ext (fr 0 e)) = _
     unfold dq cq
     simp only [ln]; omega
    rw [e3]
    simp only [fc, ow]
    rw [show ((0 : Nat) : Int) = 0 from rfl]; omega
   ·have := dq_up h (-2) 0 (by omega) e
    simp only [fc, ow]
    rw [show ((0 : Nat) : Int) = 0 from rfl]; omega
  case binary r =>
   simp only [run]
   have hr6 : r ≤ 6 := hpre
   by_cases hr : r = 6
   ·subst hr
    simp only [if_true]
    exact ih .unary fn lp h trivial
   ·simp only [if_neg hr]
    refine cw_and (ih (.binary (r + 1)) fn lp h (by simp only [PRE]; omega)) fun e he => (ih (.binGo r e) fn lp h ⟨by omega, he⟩).weak (fun x _ => ?_) fun _ h => h
    have := dq_up h r ((r + 1 : Nat) : Int) (by omega) e
    simp only [fc, ow]; omega
  case binGo r e =>
   obtain ⟨hr, h1, h2⟩ := hpre
   simp only [run]
   refine cw_signs (fun s hs => cw_and (ih (.binary (r + 1)) fn lp true (by simp only [PRE]; omega)).tr fun b hb => ?_) (cw_pure ⟨h1, h2⟩ (by simp only [fc, ow]; omega))
   have hj := joined_is hr hs e b
   refine (ih (.binGo r (joined s e b)) fn lp h ⟨hr, hj.2.2.2 fn lp h1 h2 hb.1 hb.2⟩).weak (fun x _ => ?_) fun _ h => h
   have := dq_joined h hr hs e b
   simp only [fc, ow]
   rw [this, show ((r + 1 : Nat) : Int) = (r : Int) + 1 from rfl]; omega
  case unary =>
   simp only [run]
   refine cw_signs (fun s hs => cw_and (ih .unary fn lp true trivial).tr fun e he => cw_pure ⟨by simp [isE, Node.kind], .unary fn lp s e (by simpa using hs) he.1 he.2⟩ ?_) (cw_and (ih .first fn lp h trivial) fun e he => ((ih (.post e) fn lp h he).weak (fun x _ => ?_) fun _ h => h))
   ·have e3 : fc h .unary (.mk 14 0 s [e]) = 1 + cq 6 e := by
     show ((([sg s] : List Tk) ++ tw e (.at 6)).length : Int) + (if h then 0 else ext 14) = _
     unfold cq
     cases h <;> simp [ext] <;> omega
    rw [e3]; simp only [ow]; omega
   ·have := dq_up h 6 7 (by omega) x
    simp only [fc, ow]; omega
  case post e =>
   obtain ⟨h1, h2⟩ := hpre
   simp only [run]
   refine cw_alt (fun _ => cw_and (iS [41] .expression (by simp)) fun ar has => ?_) (cw_alt (fun _ => cw_and (iE fn lp) fun i hi => cw_must ?_) (cw_alt (fun _ => cw_named fun s hs => ?_) (cw_pure ⟨h1, h2⟩ (by simp only [fc, ow]; omega))))
   ·refine (ih (.post (.mk 11 0 [] (e :: ar.kids))) fn lp h ⟨by simp [isE, Node.kind], .call fn lp e ar.kids h1 h2 (fun x hx => (has x hx).1) fun x hx => (has x hx).2⟩).weak (fun x _ => ?_) fun _ h => h
    have e3 : ow h (.post (.mk 11 0 [] (e :: ar.kids))) = dq h 7 e + 1 + (tjoin (ar.kids.map (TT .expression))).length + 1 := by
     have e4 : tw (.mk 11 0 [] (e :: ar.kids)) (.at 7) = tw e (.at 7) ++ tlisted [40] [41] (ar.kids.map (TT .expression)) := by
      show tw e (.at 7) ++ tlisted [40] [41] ((tws ar.kids).map (· (.at (-2)))) = _
      rw [tws_map, List.map_map]; rfl
     show ((tw (.mk 11 0 [] (e :: ar.kids)) (.at 7)).length : Int) + (if h then 0 else ext (fr 7 e)) = _
     rw [e4]
     unfold dq cq tlisted
     simp only [ln]; omega
    rw [e3]; simp only [ow, fc]; omega
   ·refine (ih (.post (.mk 12 0 [] [e, i])) fn lp h ⟨by simp [isE, Node.kind], .index fn lp e i h1 h2 hi.1 hi.2⟩).weak (fun x _ => ?_) fun _ h => h
    have e3 : ow h (.post (.mk 12 0 [] [e, i])) = dq h 7 e + 1 + cq (-2) i + 1 := by
     show ((tw e (.at 7) ++ [sg [91]] ++ tw i (.at (-2)) ++ [sg [93]]).length : Int) + (if h then 0 else ext (fr 7 e)) = _
     unfold dq cq
     simp only [ln]; omega
    rw [e3]; simp only [ow, fc]; omega
   ·refine (ih (.post (.mk 13 0 s [e])) fn lp h ⟨by simp [isE, Node.kind], .dot fn lp s e hs h1 h2⟩).weak (fun x _ => ?_) fun _ h => h
    have e3 : ow h (.post (.mk 13 0 s [e])) = dq h 7 e + 2 := by
     show ((tw e (.at 7) ++ [sg [46], nm s]).length : Int) + (if h then 0 else ext (fr 7 e)) = _
     unfold dq cq
     simp only [ln]; omega
    rw [e3]; simp only [ow, fc]; omega
  case first =>
   simp only [run]
   have one : ∀ (y : Node) (t : Tk), 7 ≤ rank y → tw y .ex = [t] → front y ≠ 7 → front y ≠ 9 → fc h .first y ≤ ow h .first + 1 := by
    intro y t h1 h2 h3 h4
    show dq h 7 y ≤ _
    have e1 : ext (fr 7 y) = 0 := by unfold fr ext; rw [if_neg (by omega)]
    unfold dq
    rw [e1, cq_eq, if_pos h1, h2]
    simp [ow]
   refine cw_tok (fun t ht hk => cw_pure ⟨by simp [isE, Node.kind], .num fn lp t.num (by omega) (by have := ht.2.1 hk; omega)⟩ (one _ ⟨2, [], t.num⟩ (by show (7 : Int) ≤ 8; decide) rfl (by show (1 : Int) ≠ 7; decide) (by show (1 : Int) ≠ 9; decide))) ?_
   refine cw_tok (fun t ht hk => cw_pure ⟨by simp [isE, Node.kind], .str fn lp t.text⟩ (one _ ⟨3, t.text, 0⟩ (by show (7 : Int) ≤ 8; decide) rfl (by show (2 : Int) ≠ 7; decide) (by show (2 : Int) ≠ 9; decide))) ?_
   refine cw_tok (fun t ht hk => cw_pure ⟨by simp [isE, Node.kind], .var fn lp t.text (ht.1 hk)⟩ (one _ (nm t.text) (by show (7 : Int) ≤ 8; decide) rfl (by show (5 : Int) ≠ 7; decide) (by show (5 : Int) ≠ 9; decide))) ?_
   refine cw_alt (fun _ => cw_pure ⟨by simp [isE, Node.kind], .bool fn lp 1 (.inr rfl)⟩ (one _ (kw Pars.wTrue) (by decide) rfl (by decide) (by decide))) ?_
   refine cw_alt (fun _ => cw_pure ⟨by simp [isE, Node.kind], .bool fn lp 0 (.inl rfl)⟩ (one _ (kw Pars.wFalse) (by decide) rfl (by decide) (by decide))) ?_
   refine cw_alt (fun _ => cw_pure ⟨by simp [isE, Node.kind], .null fn lp⟩ (one _ (kw Pars.wNull) (by decide) rfl (by decide) (by decide))) ?_
   refine cw_alt (fun hx => (ih (.function []) fn lp h (.inl rfl)).weak (fun x hxx => ?_) fun x hx => ⟨?_, hx.2.2⟩) ?_
   ·obtain ⟨l, r, hg, hl, hi⟩ := hx
    have hh : h = true := by
     rcases hl.1.1.1 with hl | hl
     ·exact hl
     ·rw [hl.1] at hi; cases hi
    subst hh
    obtain ⟨hk, htx, _⟩ := hxx
    cases x with
    | mk k nu t l =>
     obtain rfl : k = 9 := hk
     show ow true (.function []) - fc true (.function []) (.mk 9 nu t l) ≤ ow true .first + 1 - dq true 7 (.mk 9 nu t l)
     rw [dq_true, show cq 7 (.mk 9 nu t l) = ((tw (.mk 9 nu t l) .fn).length : Int) from rfl]
     simp only [fc, ow, if_true]; omega
   ·have hk := hx.1
    have ht := hx.2.1
    unfold isE
    rw [hk, ht]
    decide
   refine cw_alt (fun _ => cw_and (iS [93] .expression (by simp)) fun ar has => cw_pure ⟨by simp [isE, Node.kind], .list fn lp ar.kids (fun x hx => (has x hx).1) fun x hx => (has x hx).2⟩ ?_) ?_
   ·have e4 : tw (.mk 6 0 [] ar.kids) (.at 7) = tlisted [91] [93] (ar.kids.map (TT .expression)) := by
     show tlisted [91] [93] ((tws ar.kids).map (· (.at (-2)))) = _
     rw [tws_map, List.map_map]; rfl
    show ((tw (.mk 6 0 [] ar.kids) (.at 7)).length : Int) + (if h then 0 else ext 6) ≤ _
    rw [e4]
    unfold tlisted
    simp only [ow, List.length_append, List.length_cons, List.length_nil]
    cases h <;> simp [ext] <;> omega
   refine cw_alt (fun hx => cw_and (iS [125] .pair (by simp)) fun ar has => cw_pure ⟨by simp [isE, Node.kind], .recd fn lp ar.kids (fun x hx => (has x hx).1) fun x hx => (has x hx).2⟩ ?_) ?_
   ·have hh : h = true := by
     obtain ⟨l, r, hg, hl, hi⟩ := hx
     rcases hl.1.1.1.1.1 with hl | hl
     ·exact hl
     ·obtain ⟨⟨t, rfl, hk, ht⟩, _⟩ := is_some hi
      exfalso
      rcases hk with hk | hk
      ·exact hl.2 t r rfl ⟨hk, ht⟩
      ·have := (hg t (by simp)).2.2 hk
       rw [ht] at this
       exact absurd this (by decide)
    subst hh
    have e4 : tw (.mk 7 0 [] ar.kids) (.at 7) = tlisted [123] [125] (ar.kids.map (TT .pair)) := by
     show tlisted [123] [125] ((tws ar.kids).map (· .pair)) = _
     rw [tws_map, List.map_map]; rfl
    show ((tw (.mk 7 0 [] ar.kids) (.at 7)).length : Int) + (if true then 0 else ext 7) ≤ _
    rw [e4]
    unfold tlisted
    simp only [ow, if_true, List.length_append, List.length_cons, List.length_nil]; omega
   refine Cw.any (iI.weak (fun x _ => ?_) fun _ h => h)
   have := dq_inner h 7 x
   show _ ≤ ow h .first - dq h 7 x
   simp only [ow]; omega
  case some fin one more acc =>
   obtain ⟨h1, h2, h3⟩ := hpre
   simp only [run]
   have hone : Cw Tr 0 (fun x => ((TT one x).length : Int)) (RP fn lp one) (fun l => run n one fn lp l) := by
    rcases h1 with rfl | rfl | rfl
    ·exact ih .param fn lp true trivial
    ·exact iE fn lp
    ·exact ih .pair fn lp true trivial
   have hnext : ∀ x, RP fn lp one x → ∀ d : Int, d = (tjoin ((acc ++ [x]).map (TT one))).length → Cw Tr d (fc h (.some fin one more acc)) (RP fn lp (.some fin one more acc)) (fun r => run n (.some fin one true (acc ++ [x])) fn lp r) := by
    intro x hx d hd
    rw [hd]
    refine ih (.some fin one true (acc ++ [x])) fn lp h ⟨h1, fun y hy => ?_, by simp⟩
    rcases List.mem_append.1 hy with hy | hy
    ·exact h2 y hy
    ·rw [List.mem_singleton.1 hy]; exact hx
   refine cw_alt (fun _ => cw_pure h2 (by simp only [fc, ow, Node.kids]; omega)) (cw_sep (fun hm => ?_) fun hm => ?_)
   ·have ha : acc = [] := by
     by_cases ha : acc = []
     ·exact ha
     ·rw [h3.2 ha] at hm; cases hm
    subst ha
    exact Cw.any (cw_and hone fun x hx => hnext x hx _ (by simp [ow, tjoin]))
   ·have ha := h3.1 hm
    refine cw_and hone fun x hx => hnext x hx _ ?_
    rw [List.map_append, List.map_cons, List.map_nil, tjoin_snoc _ _ (by simpa using ha)]
    simp only [ow]; omega
  case param =>
   simp only [run]
   exact cw_named fun s hs => cw_pure ⟨s, rfl, hs⟩ (by simp [fc, ow])
  case pair =>
   simp only [run]
   refine cw_named fun s hs => cw_must (cw_and (iE fn lp) fun e he => cw_pure ⟨rfl, .pair fn lp s e hs he.1 he.2⟩ ?_)
   rw [show fc h .pair (.mk 8 0 s [e]) = ((([nm s, sg [58]] : List Tk) ++ tw e (.at (-2))).length : Int) from rfl]
   unfold cq
   simp only [ow, List.length_append, List.length_cons, List.length_nil]; omega
end Wri
namespace Lexy
theorem skp_zero_take {l : Bs} (h : skp false l = 0) (n : Nat) : skp false (l.take n) = 0 := by
 cases l with
 | nil => simp [skp]
 | cons c r =>
  cases n with
  | zero => simp [skp]
  | succ n =>
   rw [List.take_succ_cons]
   simp only [skp] at h ⊢
   by_cases h1 : isBlank c = true
   ·rw [if_pos h1] at h; omega
   ·rw [if_neg h1] at h ⊢
    by_cases h2 : (c == 47 && r.head? == some 47) = true
    ·rw [if_pos h2] at h; omega
    ·rw [if_neg]
     intro h3
     apply h2
     simp only [Bool.and_eq_true] at h3 ⊢
     refine ⟨h3.1, ?_⟩
     cases n with
     | zero => simp at h3
     | succ n =>
      cases r with
      | nil => simp at h3
      | cons d q => simpa using h3.2
theorem own_toks {l : Bs} {t : Tk} {n : Nat} (hz : skp false l = 0) (hn : next l = .ok (t, n)) (h : l.length ≤ 2000) : toks (l.take n) = .ok [⟨t, 0, n⟩] := by
 obtain ⟨_, hl, h0, hs⟩ := next_split hn
 have h1 := hs [] (.inr (by simp))
 rw [List.append_nil] at h1
 have h2 := skp_zero_take hz n
 unfold toks
 rw [if_neg (by simp; omega), toksR_eq, h2, List.drop_zero]
 have hlen := next_len hn
 cases ht : l.take n with
 | nil => rw [ht] at hl; simp at hl; omega
 | cons c r =>
  rw [ht] at h1 hl
  simp only [h1]
  have hd : (c :: r).drop n = [] := List.drop_eq_nil_of_le (by omega)
  rw [hd, toksR_eq]
  simp
end Lexy
namespace Wri
open Pars
open Lexy (Tk sg kw nm LexT Lex)
theorem numF_le : ∀ (l : Bs) (m n : Nat), m ≤ 9007199254740992 → Lexy.numF m l = some n → n ≤ 9007199254740992
 | [], m, n, hm, h => by simp only [Lexy.numF, Option.some.injEq] at h; omega
 | c :: r, m, n, hm, h => by
  simp only [Lexy.numF] at h
  split at h
  ·cases h
  ·exact numF_le r _ n (by omega) h
theorem next_tg {l : Bs} {t : Tk} {n : Nat} (hz : Lexy.skp false l = 0) (hn : Lexy.next l = .ok (t, n)) (hl : l.length ≤ 2000) : TG t := by
 have hown := Lexy.own_toks hz hn hl
 cases l with
 | nil => simp [Lexy.next] at hn
 | cons c r =>
  simp only [Lexy.next] at hn
  by_cases h1 : Lexy.isLetter c = true
  ·rw [if_pos h1] at hn
   simp only [Lexy.Res.ok.injEq, Prod.mk.injEq] at hn
   obtain ⟨rfl, rfl⟩ := hn
   refine ⟨fun hk => ?_, fun hk => ?_, fun hk => ?_⟩
   ·unfold name
    simp only at hk ⊢
    rw [hown]
    simp only [hk]
    simp
   ·simp only at hk; split at hk <;> cases hk
   ·simp only at hk ⊢
    split at hk
    ·assumption
    ·cases hk
  rw [if_neg h1] at hn
  by_cases h2 : Lexy.isDigit c = true
  ·rw [if_pos h2] at hn
   split at hn
   ·cases hn
   ·rename_i m hm
    split at hn
    ·cases hn
    ·simp only [Lexy.Res.ok.injEq, Prod.mk.injEq] at hn
     obtain ⟨rfl, rfl⟩ := hn
     exact ⟨fun hk => (by cases hk), fun _ => numF_le _ 0 m (by omega) hm, fun hk => (by cases hk)⟩
  rw [if_neg h2] at hn
  split at hn
  ·split at hn
   ·cases hn
   ·simp only [Lexy.Res.ok.injEq, Prod.mk.injEq] at hn
    obtain ⟨rfl, rfl⟩ := hn
    exact ⟨fun hk => (by cases hk), fun hk => (by cases hk), fun hk => (by cases hk)⟩
  ·unfold Lexy.sign at hn
   split at hn
   ·simp only [Lexy.Res.ok.injEq, Prod.mk.injEq] at hn
    obtain ⟨rfl, rfl⟩ := hn
    exact ⟨fun hk => (by cases hk), fun hk => (by cases hk), fun hk => (by cases hk)⟩
   ·split at hn
    ·simp only [Lexy.Res.ok.injEq, Prod.mk.injEq] at hn
     obtain ⟨rfl, rfl⟩ := hn
     exact ⟨fun hk => (by cases hk), fun hk => (by cases hk), fun hk => (by cases hk)⟩
    ·cases hn
theorem lex_tg {p : Nat} {l : Bs} {ts : List Lexy.Tok} (h : Lex p l ts) : l.length ≤ 2000 → TGs (ts.map (·.toTk)) := by
 induction h with
 | done p l hd => intro _ t ht; cases ht
 | more p l t n ts hne hn _ ih =>
  intro hl x hx
  rw [List.map_cons, List.mem_cons] at hx
  rcases hx with rfl | hx
  ·exact next_tg (Lexy.skp_idem false l) hn (by rw [List.length_drop]; omega)
  ·exact ih (by rw [List.length_drop, List.length_drop]; omega) x hx
theorem top_cw : ∀ (n : Nat) (acc : List Node) (l : List Tk) (k : List Node), TGs l → (∀ y ∈ acc, (20 ≤ y.kind ∧ y.kind ≤ 31) ∧ Rt false false y) → top n acc l = some k →
  (∀ y ∈ k, (20 ≤ y.kind ∧ y.kind ≤ 31) ∧ Rt false false y) ∧ (k.flatMap fun x => tw x .stmt).length ≤ (acc.flatMap fun x => tw x .stmt).length + l.length
 | n, acc, [], k, _, ha, h => by
  have : k = acc := by cases n <;> simp [top] at h <;> exact h.symm
  subst this
  exact ⟨ha, by omega⟩
 | 0, acc, t :: l, k, _, _, h => by simp [top] at h
 | n + 1, acc, t :: l, k, hg, ha, h => by
  simp only [top] at h
  cases hr : run (fuel (t :: l)) .statement false false (t :: l) with
  | none => rw [hr] at h; cases h
  | some y =>
   obtain ⟨x, r⟩ := y
   rw [hr] at h
   obtain ⟨h1, h2, h3⟩ := run_cw _ .statement false false true trivial (t :: l) x r hg trivial hr
   have := top_cw n (acc ++ [x]) r k h3 (fun y hy => by
    rcases List.mem_append.1 hy with hy | hy
    ·exact ha y hy
    ·rw [List.mem_singleton.1 hy]; exact h1) h
   refine ⟨this.1, ?_⟩
   have h4 := this.2
   simp only [fc, ow] at h2
   simp only [List.flatMap_append, List.flatMap_cons, List.flatMap_nil, List.append_nil, List.length_append] at h4
   omega
theorem tree_cw {l : List Tk} {n : Node} (hg : TGs l) (h : tree l = some n) : n.kind = 30 ∧ Rt false false n ∧ (ttext n).length ≤ l.length := by
 unfold tree at h
 cases ht : top l.length [] l with
 | none => rw [ht] at h; cases h
 | some k =>
  rw [ht] at h
  injection h with h
  subst h
  obtain ⟨h1, h2⟩ := top_cw _ [] l k hg (fun y hy => by cases hy) ht
  exact ⟨rfl, .block false false k (fun x hx => (h1 x hx).1) fun x hx => (h1 x hx).2, Nat.le_trans h2 (by simp)⟩
theorem parse_right {s : Bs} {n : Node} (h : parse s = .ok n) : ∃ full, Lexy.toks s = .ok full ∧ Lex 0 s full ∧ full.length ≤ 1000 ∧ n.kind = 30 ∧ Rt false false n ∧ Pars.deep n ≤ 40 ∧ (ttext n).length ≤ full.length := by
 unfold parse at h
 cases ht : Lexy.toks s with
 | err e => rw [ht] at h; cases h
 | ok l =>
  rw [ht] at h
  simp only at h
  unfold Lexy.toks at ht
  split at ht
  ·cases ht
  ·rename_i hl
   obtain ⟨h1, h2⟩ := Lexy.lex_of _ _ _ _ ht
   cases hr : tree (l.map (·.toTk)) with
   | none => rw [hr] at h; cases h
   | some m =>
    rw [hr] at h
    simp only at h
    split at h
    ·cases h
    ·rename_i hd
     injection h with h
     subst h
     obtain ⟨e1, e2, e3⟩ := tree_cw (lex_tg h1 (Nat.not_lt.1 hl)) hr
     exact ⟨l, rfl, h1, h2, e1, e2, by omega, by simpa using e3⟩
theorem lex_uniq {p : Nat} {l : Bs} {a b : List Lexy.Tok} (h1 : Lex p l a) (h2 : Lex p l b) : a = b := by
 have e1 := Lexy.of_lex h1 (max a.length b.length)
 have e2 := Lexy.of_lex h2 (max a.length b.length)
 rw [if_pos (by omega)] at e1 e2
 rw [e1] at e2
 injection e2
end Wri
