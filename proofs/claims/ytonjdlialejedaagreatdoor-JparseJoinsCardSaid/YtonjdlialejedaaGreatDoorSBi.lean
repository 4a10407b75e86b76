/-
  Texts that the law leans on: PlE, PlR. Conditions: as each says.
-/
import Derived.Test.YtonjdlialejedaaGreatDoorSBh
import Derived.Test.YtonjdlialejedaaGreatDoorSBf
import Derived.Lib.ItoaLen
import Derived.Test.YtonjdlialejedaaGreatDoorSAa
set_option linter.unusedSimpArgs false
set_option linter.unusedVariables false
namespace Wri
open Pars (Node Bs)
open Lexy (Tk sg kw nm W noN all IsName LexT)
structure LX (n : Node) : Prop where
 ex : isE n → W noN (wr n .ex) (tw n .ex)
 stmt : 20 ≤ n.kind → W noN (wr n .stmt) (tw n .stmt)
 fn : n.kind = 9 → W noN (wr n .fn) (tw n .fn)
 block : n.kind = 30 → W noN (wr n .block) (tw n .block)
 ifs : n.kind = 22 → W noN (wr n .ifs) (tw n .ifs)
 pair : n.kind = 8 → W noN (wr n .pair) (tw n .pair)
theorem LX.e {n : Node} (h : W noN (wr n .ex) (tw n .ex)) (hk : n.kind ≤ 19 := by simp [Node.kind]) (h8 : n.kind ≠ 8 := by simp [Node.kind]) (h9 : n.kind ≠ 9 := by simp [Node.kind]) : LX n :=
 ⟨fun _ => h, fun e => by omega, fun e => absurd e h9, fun e => by omega, fun e => by omega, fun e => absurd e h8⟩
theorem LX.s {n : Node} (h : W noN (wr n .stmt) (tw n .stmt)) (hk : 20 ≤ n.kind := by simp [Node.kind]) (h2 : n.kind ≠ 22 := by simp [Node.kind]) (h3 : n.kind ≠ 30 := by simp [Node.kind]) : LX n :=
 ⟨fun e => by unfold isE at e; omega, fun _ => h, fun e => by omega, fun e => absurd e h3, fun e => absurd e h2, fun e => by omega⟩
theorem LX.at_ {n : Node} (h : LX n) (he : isE n) (q : Int) : W noN (wr n (.at q)) (tw n (.at q)) := by
 rw [wr_at, tw_at]
 split
 ·exact h.ex he
 ·exact (((Lexy.w_sign1 40 (by decide)).after (h.ex he)).ahead (by decide) (Lexy.w_sign1 41 (by decide))).n
theorem glue (s : Bs) (hs : s ∈ Lexy.signs) : W all (32 :: (s ++ [32])) [sg s] := Lexy.w_blank.after (Lexy.w_sign s hs)
theorem sgn_signs {k : Int} {t : Bs} (h : k = 17 ∨ k = 16 ∨ t ∈ binS) : sgn k t ∈ Lexy.signs := by
 unfold sgn
 by_cases h1 : k = 17
 ·rw [if_pos h1]; decide
 rw [if_neg h1]
 by_cases h2 : k = 16
 ·rw [if_pos h2]; decide
 rw [if_neg h2]
 have : ∀ t ∈ binS, t ∈ Lexy.signs := by decide
 rcases h with h | h | h
 ·exact absurd h h1
 ·exact absurd h h2
 ·exact this t h
theorem w_nm {t : Bs} (h : name t = true) : W noN t [nm t] := (Lexy.isName_of h).w
theorem w_sgs (c : UInt8) (hc : c ∈ [40, 41, 91, 93, 123, 125, 44, 59, 58, 46, 63, 43, 45, 42, 37]) : W all [c] [sg [c]] := Lexy.w_sign1 c hc
theorem w_sgb (c : UInt8) (hc : c ∈ [40, 41, 91, 93, 123, 125, 44, 59, 58, 46, 63, 43, 45, 42, 37]) : W all [c, 32] [sg [c]] := (Lexy.w_sign1 c hc).after Lexy.w_blank
theorem w_flat : ∀ l : List Node, (∀ x ∈ l, W noN (wr x .stmt) (tw x .stmt)) → W all (l.flatMap fun x => wr x .stmt ++ [32]) (l.flatMap fun x => tw x .stmt)
 | [], _ => Lexy.w_nil _
 | n :: l, h => by
  rw [List.flatMap_cons, List.flatMap_cons]
  exact (((h n (by simp)).ahead (d := 32) (c := []) (by decide) Lexy.w_blank).after (w_flat l fun x hx => h x (by simp [hx]))).weak (fun _ h => h) |> fun q => by simpa using q
theorem wr_blk (nu : Int) (t : Bs) (l : List Node) : wr (.mk 30 nu t l) .block = [123, 32] ++ (l.flatMap fun x => wr x .stmt ++ [32]) ++ [125] := by
 show wBlock (wrs l) = _
 unfold wBlock
 rw [wrs_map, List.flatMap_map]
theorem tw_blk (nu : Int) (t : Bs) (l : List Node) : tw (.mk 30 nu t l) .block = [sg [123]] ++ (l.flatMap fun x => tw x .stmt) ++ [sg [125]] := by
 show tBlock (tws l) = _
 unfold tBlock
 rw [tws_map, List.flatMap_map]
theorem wr_func (t : Bs) (ps : List Bs) (b : Node) : wr (.mk 9 0 t (ps.map (fun p => .mk 10 0 p []) ++ [b])) .fn = [102, 110] ++ (if t = [] then [] else 32 :: t) ++ listed [40] [41] ps ++ [32] ++ wr b .block := by
 show wFn t (wrs _) = _
 unfold wFn
 have e : ((ps.map (fun p => wr (.mk 10 0 p [])) ++ [wr b]).take ((ps.map (fun p => wr (.mk 10 0 p [])) ++ [wr b]).length - 1)).map (fun x => x M.param) = ps := by
  rw [show (ps.map (fun p => wr (.mk 10 0 p [])) ++ [wr b]).length - 1 = (ps.map (fun p => wr (.mk 10 0 p []))).length by simp, List.take_left' rfl, List.map_map]
  have : ((fun x : F => x M.param) ∘ fun p => wr (.mk 10 0 p [])) = (id : Bs → Bs) := rfl
  rw [this, List.map_id]
 have e2 : kid (ps.map (fun p => wr (.mk 10 0 p [])) ++ [wr b]) ((ps.map (fun p => wr (.mk 10 0 p [])) ++ [wr b]).length - 1) = wr b := by
  unfold kid
  rw [show (ps.map (fun p => wr (.mk 10 0 p [])) ++ [wr b]).length - 1 = (ps.map (fun p => wr (.mk 10 0 p []))).length by simp, List.getD_eq_getElem?_getD, List.getElem?_append_right (Nat.le_refl _)]
  simp
 rw [wrs_map, List.map_append, List.map_map, List.map_cons, List.map_nil]
 have e3 : (wr ∘ fun p : Bs => Node.mk 10 0 p []) = fun p => wr (.mk 10 0 p []) := rfl
 rw [e3, e, e2]
theorem tw_func (t : Bs) (ps : List Bs) (b : Node) : tw (.mk 9 0 t (ps.map (fun p => .mk 10 0 p []) ++ [b])) .fn = [kw Pars.wFn] ++ (if t = [] then [] else [nm t]) ++ tlisted [40] [41] (ps.map fun p => [nm p]) ++ tw b .block := by
 show tFn t (tws _) = _
 unfold tFn
 have e : ((ps.map (fun p => tw (.mk 10 0 p [])) ++ [tw b]).take ((ps.map (fun p => tw (.mk 10 0 p [])) ++ [tw b]).length - 1)).map (fun x => x M.param) = ps.map fun p => [nm p] := by
  rw [show (ps.map (fun p => tw (.mk 10 0 p [])) ++ [tw b]).length - 1 = (ps.map (fun p => tw (.mk 10 0 p []))).length by simp, List.take_left' rfl, List.map_map]
  rfl
 have e2 : tkid (ps.map (fun p => tw (.mk 10 0 p [])) ++ [tw b]) ((ps.map (fun p => tw (.mk 10 0 p [])) ++ [tw b]).length - 1) = tw b := by
  unfold tkid
  rw [show (ps.map (fun p => tw (.mk 10 0 p [])) ++ [tw b]).length - 1 = (ps.map (fun p => tw (.mk 10 0 p []))).length by simp, List.getD_eq_getElem?_getD, List.getElem?_append_right (Nat.le_refl _)]
  simp
 rw [tws_map, List.map_append, List.map_map, List.map_cons, List.map_nil]
 have e3 : (tw ∘ fun p : Bs => Node.mk 10 0 p []) = fun p => tw (.mk 10 0 p []) := rfl
 rw [e3, e, e2]
theorem w_fn {t : Bs} {ps : List Bs} {b : Node} (h1 : t = [] ∨ name t = true) (h2 : ∀ x ∈ ps, name x = true) (hb : W noN (wr b .block) (tw b .block)) : W noN (wr (.mk 9 0 t (ps.map (fun p => .mk 10 0 p []) ++ [b])) .fn) (tw (.mk 9 0 t (ps.map (fun p => .mk 10 0 p []) ++ [b])) .fn) := by
 rw [wr_func, tw_func]
 have hl := w_listed noN (by decide) 40 41 (by decide) (by decide) (by decide) (ps.map fun p => (p, [nm p])) (by
  intro x hx
  obtain ⟨p, hp, rfl⟩ := List.mem_map.1 hx
  exact w_nm (h2 p hp))
 rw [List.map_map, List.map_map] at hl
 have e1 : ps.map ((fun x : Bs × List Tk => x.1) ∘ fun p => (p, [nm p])) = ps := by
  have : ((fun x : Bs × List Tk => x.1) ∘ fun p => (p, [nm p])) = (id : Bs → Bs) := rfl
  rw [this, List.map_id]
 have e2 : ps.map ((fun x : Bs × List Tk => x.2) ∘ fun p => (p, [nm p])) = ps.map fun p => [nm p] := rfl
 rw [e1, e2] at hl
 have hf : W noN ([102, 110] ++ (if t = [] then [] else 32 :: t)) ([kw Pars.wFn] ++ (if t = [] then [] else [nm t])) := by
  rcases h1 with rfl | h1
  ·exact Lexy.w_kw [102, 110] (by decide)
  ·have ht : t ≠ [] := not3 h1
   rw [if_neg ht, if_neg ht]
   exact (Lexy.w_kwb [102, 110] (by decide)).after (w_nm h1) |> fun q => by simpa using q
 have h3 := (hf.ahead (d := 40) (c := joinC ps ++ [41]) (by decide) hl)
 have h4 := (h3.after Lexy.w_blank).after hb
 simpa [listed, List.append_assoc] using h4
theorem lx {n : Node} {fn lp : Bool} (h : Rt fn lp n) : LX n := by
 induction h with
 | num fn lp nu h1 h2 =>
  refine .e ?_
  show W noN (Go.Lib.itoa nu) [⟨2, [], nu.toNat⟩]
  rw [itoa_dec h1]
  exact Lexy.w_num _ (by omega)
 | str fn lp t => exact .e (Lexy.w_quote t).n
 | bool fn lp nu h =>
  refine .e ?_
  rcases h with rfl | rfl
  ·exact Lexy.w_kw Pars.wFalse (by decide)
  ·exact Lexy.w_kw Pars.wTrue (by decide)
 | null => exact .e (Lexy.w_kw Pars.wNull (by decide))
 | var fn lp t h => exact .e (w_nm h)
 | list fn lp l h1 h2 ih =>
  refine .e ?_
  show W noN (listed [91] [93] ((wrs l).map (· (.at (-2))))) (tlisted [91] [93] ((tws l).map (· (.at (-2)))))
  rw [wrs_map, tws_map, List.map_map, List.map_map]
  exact (w_kids (.at (-2)) l (fun x hx => (ih x hx).at_ (h1 x hx) _) 91 93 (by decide) (by decide) (by decide)).n
 | recd fn lp l h1 h2 ih =>
  refine .e ?_
  show W noN (listed [123] [125] ((wrs l).map (· .pair))) (tlisted [123] [125] ((tws l).map (· .pair)))
  rw [wrs_map, tws_map, List.map_map, List.map_map]
  exact (w_kids .pair l (fun x hx => (ih x hx).pair (h1 x hx)) 123 125 (by decide) (by decide) (by decide)).n
 | pair fn lp t a h1 h2 h3 ih =>
  refine ⟨fun e => by simp [isE, Node.kind] at e, fun e => by simp [Node.kind] at e, fun e => by simp [Node.kind] at e, fun e => by simp [Node.kind] at e, fun e => by simp [Node.kind] at e, fun _ => ?_⟩
  exact ((w_nm h1).ahead (by decide) (w_sgb 58 (by decide))).after (ih.at_ h2 (-2))
 | func fn lp t ps b h1 h2 h3 h4 ih =>
  have hw := w_fn h1 h2 (ih.block h3)
  exact ⟨fun _ => hw, fun e => by simp [Node.kind] at e, fun _ => hw, fun e => by simp [Node.kind] at e, fun e => by simp [Node.kind] at e, fun e => by simp [Node.kind] at e⟩
 | param fn lp t h => exact ⟨fun e => by simp [isE, Node.kind] at e, fun e => by simp [Node.kind] at e, fun e => by simp [Node.kind] at e, fun e => by simp [Node.kind] at e, fun e => by simp [Node.kind] at e, fun e => by simp [Node.kind] at e⟩
 | call fn lp a l h1 h2 h3 h4 ih1 ih2 =>
  refine .e ?_
  show W noN (wr a (.at 7) ++ listed [40] [41] ((wrs l).map (· (.at (-2))))) (tw a (.at 7) ++ tlisted [40] [41] ((tws l).map (· (.at (-2)))))
  rw [wrs_map, tws_map, List.map_map, List.map_map]
  exact ((ih1.at_ h1 7).ahead (by decide) (w_kids (.at (-2)) l (fun x hx => (ih2 x hx).at_ (h3 x hx) _) 40 41 (by decide) (by decide) (by decide))).n
 | index fn lp a b h1 h2 h3 h4 ih1 ih2 =>
  refine .e ?_
  exact ((((ih1.at_ h1 7).ahead (by decide) (w_sgs 91 (by decide))).after (ih2.at_ h3 (-2))).ahead (by decide) (w_sgs 93 (by decide))).n
 | dot fn lp t a h1 h2 h3 ih =>
  refine .e ?_
  exact (ih.at_ h2 7).ahead (d := 46) (c := t) (by decide) ((w_sgs 46 (by decide)).after (w_nm h1))
 | unary fn lp t a h1 h2 h3 ih =>
  refine .e ?_
  rcases h1 with rfl | rfl
  ·refine Lexy.w_not.app (ih.at_ h2 6) ?_
   intro z _ d hd
   obtain ⟨c, r, hc, hne⟩ := at_hd (ex_hd h3 h2) 6
   have hd2 : ((wr a (.at 6)) ++ z).head? = some d := hd
   rw [hc] at hd2
   simp at hd2
   subst hd2
   simpa using hne
  ·exact (w_sgs 45 (by decide)).after (ih.at_ h2 6)
 | binary fn lp t a b h1 h2 h3 h4 h5 ih1 ih2 =>
  refine .e ?_
  exact ((ih1.at_ h2 (rank (.mk 15 0 t []))).ahead (by decide) (glue (sgn 15 t) (sgn_signs (.inr (.inr h1))))).after (ih2.at_ h4 (rank (.mk 15 0 t []) + 1))
 | and_ fn lp a b h1 h2 h3 h4 ih1 ih2 =>
  refine .e ?_
  exact ((ih1.at_ h1 (rank (.mk 16 0 [] []))).ahead (by decide) (glue (sgn 16 []) (sgn_signs (.inr (.inl rfl))))).after (ih2.at_ h3 (rank (.mk 16 0 [] []) + 1))
 | or_ fn lp a b h1 h2 h3 h4 ih1 ih2 =>
  refine .e ?_
  exact ((ih1.at_ h1 (rank (.mk 17 0 [] []))).ahead (by decide) (glue (sgn 17 []) (sgn_signs (.inl rfl)))).after (ih2.at_ h3 (rank (.mk 17 0 [] []) + 1))
 | cond fn lp a b c h1 h2 h3 h4 h5 h6 ih1 ih2 ih3 =>
  refine .e ?_
  exact ((((ih1.at_ h1 0).ahead (by decide) (glue [63] (by decide))).after (ih2.at_ h3 (-2))).ahead (by decide) (glue [58] (by decide))).after (ih3.at_ h5 (-2))
 | assign fn lp a b h1 h2 h3 h4 ih1 ih2 =>
  refine .e ?_
  have ha : isE a := by unfold isT at h1; unfold isE; omega
  exact ((ih1.at_ ha 7).ahead (by decide) (glue [61] (by decide))).after (ih2.at_ h3 (-2))
 | let_ fn lp t a h1 h2 h3 ih =>
  refine .s ?_
  exact (((((Lexy.w_kwb Pars.wLet (by decide)).after (w_nm h1)).ahead (by decide) (glue [61] (by decide))).after (ih.at_ h2 (-2))).ahead (by decide) (w_sgs 59 (by decide))).n
 | def_ fn lp f h1 h2 h3 ih =>
  exact .s (ih.fn h1)
 | if2 fn lp c b h1 h2 h3 h4 ih1 ih2 =>
  have hw : W noN (wr (.mk 22 0 [] [c, b]) .ifs) (tw (.mk 22 0 [] [c, b]) .ifs) := by
   have e1 : wr (.mk 22 0 [] [c, b]) .ifs = [105, 102, 32, 40] ++ wr c (.at (-2)) ++ [41, 32] ++ wr b .block := by show _ ++ [] = _; rw [List.append_nil]; rfl
   have e2 : tw (.mk 22 0 [] [c, b]) .ifs = [kw Pars.wIf, sg [40]] ++ tw c (.at (-2)) ++ [sg [41]] ++ tw b .block := by show _ ++ [] = _; rw [List.append_nil]; rfl
   rw [e1, e2]
   exact ((((Lexy.w_kwb Pars.wIf (by decide)).after (w_sgs 40 (by decide))).after (ih1.at_ h1 (-2))).ahead (by decide) (w_sgb 41 (by decide))).after (ih2.block h3)
  exact ⟨fun e => by simp [isE, Node.kind] at e, fun _ => hw, fun e => by simp [Node.kind] at e, fun e => by simp [Node.kind] at e, fun _ => hw, fun e => by simp [Node.kind] at e⟩
 | if3 fn lp c b e h1 h2 h3 h4 h5 h6 ih1 ih2 ih3 =>
  have hw : W noN (wr (.mk 22 0 [] [c, b, e]) .ifs) (tw (.mk 22 0 [] [c, b, e]) .ifs) := by
   have e1 : wr (.mk 22 0 [] [c, b, e]) .ifs = [105, 102, 32, 40] ++ wr c (.at (-2)) ++ [41, 32] ++ wr b .block ++ ([32, 101, 108, 115, 101, 32] ++ (if e.kind = 22 then wr e .ifs else wr e .block)) := rfl
   have e2 : tw (.mk 22 0 [] [c, b, e]) .ifs = [kw Pars.wIf, sg [40]] ++ tw c (.at (-2)) ++ [sg [41]] ++ tw b .block ++ ([kw Pars.wElse] ++ (if e.kind = 22 then tw e .ifs else tw e .block)) := rfl
   rw [e1, e2]
   have hx : W noN (if e.kind = 22 then wr e .ifs else wr e .block) (if e.kind = 22 then tw e .ifs else tw e .block) := by
    by_cases hk : e.kind = 22
    ·rw [if_pos hk, if_pos hk]; exact ih3.ifs hk
    ·rw [if_neg hk, if_neg hk]; exact ih3.block (by omega)
   exact (((((Lexy.w_kwb Pars.wIf (by decide)).after (w_sgs 40 (by decide))).after (ih1.at_ h1 (-2))).ahead (by decide) (w_sgb 41 (by decide))).after (ih2.block h3)).ahead (by decide) ((Lexy.w_blank.after (Lexy.w_kwb Pars.wElse (by decide))).after hx)
  exact ⟨fun e => by simp [isE, Node.kind] at e, fun _ => hw, fun e => by simp [Node.kind] at e, fun e => by simp [Node.kind] at e, fun _ => hw, fun e => by simp [Node.kind] at e⟩
 | while_ fn lp c b h1 h2 h3 h4 ih1 ih2 =>
  refine .s ?_
  exact ((((Lexy.w_kwb Pars.wWhile (by decide)).after (w_sgs 40 (by decide))).after (ih1.at_ h1 (-2))).ahead (by decide) (w_sgb 41 (by decide))).after (ih2.block h3)
 | for_ fn lp t c b h0 h1 h2 h3 h4 ih1 ih2 =>
  refine .s ?_
  have hg : W all [32, 111, 102, 32] [kw Pars.wOf] := Lexy.w_blank.after (Lexy.w_kwb Pars.wOf (by decide))
  have q := ((((((((Lexy.w_kwb Pars.wFor (by decide)).after (w_sgs 40 (by decide))).after (Lexy.w_kwb Pars.wLet (by decide))).after (w_nm h0)).ahead (by decide) hg).after (ih1.at_ h1 (-2))).ahead (by decide) (w_sgb 41 (by decide))).after (ih2.block h3))
  have e1 : wr (.mk 24 0 t [c, b]) .stmt = [102, 111, 114, 32, 40, 108, 101, 116, 32] ++ t ++ [32, 111, 102, 32] ++ wr c (.at (-2)) ++ [41, 32] ++ wr b .block := rfl
  have e2 : tw (.mk 24 0 t [c, b]) .stmt = [kw Pars.wFor, sg [40], kw Pars.wLet, nm t, kw Pars.wOf] ++ tw c (.at (-2)) ++ [sg [41]] ++ tw b .block := rfl
  rw [e1, e2]
  simpa using q
 | ret0 lp => exact .s ((Lexy.w_kw Pars.wReturn (by decide)).ahead (by decide) (w_sgs 59 (by decide))).n
 | ret1 lp a h1 h2 ih =>
  refine .s ?_
  have q := ((((Lexy.w_kwb Pars.wReturn (by decide)).after (ih.at_ h1 (-2))).ahead (by decide) (w_sgs 59 (by decide))).n)
  have e1 : wr (.mk 25 0 [] [a]) .stmt = [114, 101, 116, 117, 114, 110] ++ (32 :: wr a (.at (-2))) ++ [59] := rfl
  have e2 : tw (.mk 25 0 [] [a]) .stmt = [kw Pars.wReturn] ++ tw a (.at (-2)) ++ [sg [59]] := rfl
  rw [e1, e2]
  simpa using q
 | brk fn => exact .s ((Lexy.w_kw Pars.wBreak (by decide)).ahead (by decide) (w_sgs 59 (by decide))).n
 | cont fn => exact .s ((Lexy.w_kw Pars.wContinue (by decide)).ahead (by decide) (w_sgs 59 (by decide))).n
 | throw fn lp a h1 h2 ih =>
  refine .s ?_
  exact (((Lexy.w_kwb Pars.wThrow (by decide)).after (ih.at_ h1 (-2))).ahead (by decide) (w_sgs 59 (by decide))).n
 | try1 fn lp t b c h0 h1 h2 h3 h4 ih1 ih2 =>
  refine .s ?_
  have e1 : wr (.mk 29 1 t [b, c]) .stmt = [116, 114, 121, 32] ++ wr b .block ++ ([32, 99, 97, 116, 99, 104, 32, 40] ++ t ++ [41, 32] ++ wr c .block) ++ [] := rfl
  have e2 : tw (.mk 29 1 t [b, c]) .stmt = [kw Pars.wTry] ++ tw b .block ++ ([kw Pars.wCatch, sg [40], nm t, sg [41]] ++ tw c .block) ++ [] := rfl
  rw [e1, e2, List.append_nil, List.append_nil]
  have q := ((((Lexy.w_blank.after (Lexy.w_kwb Pars.wCatch (by decide))).after (w_sgs 40 (by decide))).after (w_nm h0)).ahead (by decide) (w_sgb 41 (by decide))).after (ih2.block h3)
  exact ((Lexy.w_kwb Pars.wTry (by decide)).after (ih1.block h1)).ahead (by decide) q
 | try2 fn lp b d h1 h2 h3 h4 ih1 ih2 =>
  refine .s ?_
  have e1 : wr (.mk 29 2 [] [b, d]) .stmt = [116, 114, 121, 32] ++ wr b .block ++ [] ++ ([32, 102, 105, 110, 97, 108, 108, 121, 32] ++ wr d .block) := rfl
  have e2 : tw (.mk 29 2 [] [b, d]) .stmt = [kw Pars.wTry] ++ tw b .block ++ [] ++ ([kw Pars.wFinally] ++ tw d .block) := rfl
  rw [e1, e2, List.append_nil, List.append_nil]
  exact ((Lexy.w_kwb Pars.wTry (by decide)).after (ih1.block h1)).ahead (by decide) ((Lexy.w_blank.after (Lexy.w_kwb Pars.wFinally (by decide))).after (ih2.block h3))
 | try3 fn lp t b c d h0 h1 h2 h3 h4 h5 h6 ih1 ih2 ih3 =>
  refine .s ?_
  have e1 : wr (.mk 29 3 t [b, c, d]) .stmt = [116, 114, 121, 32] ++ wr b .block ++ ([32, 99, 97, 116, 99, 104, 32, 40] ++ t ++ [41, 32] ++ wr c .block) ++ ([32, 102, 105, 110, 97, 108, 108, 121, 32] ++ wr d .block) := rfl
  have e2 : tw (.mk 29 3 t [b, c, d]) .stmt = [kw Pars.wTry] ++ tw b .block ++ ([kw Pars.wCatch, sg [40], nm t, sg [41]] ++ tw c .block) ++ ([kw Pars.wFinally] ++ tw d .block) := rfl
  rw [e1, e2]
  have q := ((((Lexy.w_blank.after (Lexy.w_kwb Pars.wCatch (by decide))).after (w_sgs 40 (by decide))).after (w_nm h0)).ahead (by decide) (w_sgb 41 (by decide))).after (ih2.block h3)
  exact (((Lexy.w_kwb Pars.wTry (by decide)).after (ih1.block h1)).ahead (by decide) q).ahead (by decide) ((Lexy.w_blank.after (Lexy.w_kwb Pars.wFinally (by decide))).after (ih3.block h5))
 | block fn lp l h1 h2 ih =>
  have hw : W noN (wr (.mk 30 0 [] l) .block) (tw (.mk 30 0 [] l) .block) := by
   rw [wr_blk, tw_blk]
   exact (((w_sgb 123 (by decide)).after (w_flat l fun x hx => (ih x hx).stmt (h1 x hx).1)).after (w_sgs 125 (by decide))).n
  exact ⟨fun e => by simp [isE, Node.kind] at e, fun _ => hw, fun e => by simp [Node.kind] at e, fun _ => hw, fun e => by simp [Node.kind] at e, fun e => by simp [Node.kind] at e⟩
 | expr fn lp a h1 h2 ih =>
  refine .s ?_
  have e1 : wr (.mk 31 0 [] [a]) .stmt = (if front a = 7 ∨ front a = 9 then [40] ++ wr a (.at (-2)) ++ [41] else wr a (.at (-2))) ++ [59] := rfl
  have e2 : tw (.mk 31 0 [] [a]) .stmt = (if front a = 7 ∨ front a = 9 then [sg [40]] ++ tw a (.at (-2)) ++ [sg [41]] else tw a (.at (-2))) ++ [sg [59]] := rfl
  rw [e1, e2]
  have ha := ih.at_ h1 (-2)
  by_cases hf : front a = 7 ∨ front a = 9
  ·rw [if_pos hf, if_pos hf]
   exact (((((w_sgs 40 (by decide)).after ha).ahead (by decide) (w_sgs 41 (by decide)))).after (w_sgs 59 (by decide))).n
  ·rw [if_neg hf, if_neg hf]
   exact (ha.ahead (by decide) (w_sgs 59 (by decide))).n
end Wri
namespace Wri
open Go (ln bn)
open Pars (Node Bs)
theorem rt_kids {a b : Bool} {k nu : Int} {t : Bs} {l : List Node} (h : Rt a b (.mk k nu t l)) : (k = 1 → 0 ≤ nu ∧ nu ≤ 9007199254740992) ∧ ∀ x ∈ l, ∃ a b, Rt a b x := by
  cases h with
  | func _ _ _ ps b h1 h2 h3 h4 =>
    refine ⟨fun hk => by omega, fun x hx => ?_⟩
    rcases List.mem_append.1 hx with hx | hx
    · obtain ⟨p, hp, rfl⟩ := List.mem_map.1 hx
      exact ⟨false, false, .param false false p (h2 p hp)⟩
    · simp only [List.mem_cons, List.not_mem_nil, or_false] at hx
      subst hx
      exact ⟨_, _, h4⟩
  | call _ _ c q h1 h2 h3 h4 =>
    refine ⟨fun hk => by omega, fun x hx => ?_⟩
    rcases List.mem_cons.1 hx with rfl | hx
    · exact ⟨_, _, h2⟩
    · exact ⟨_, _, h4 x hx⟩
  | list _ _ _ h1 h2 => exact ⟨fun hk => by omega, fun x hx => ⟨_, _, h2 x hx⟩⟩
  | recd _ _ _ h1 h2 => exact ⟨fun hk => by omega, fun x hx => ⟨_, _, h2 x hx⟩⟩
  | block _ _ _ h1 h2 => exact ⟨fun hk => by omega, fun x hx => ⟨_, _, h2 x hx⟩⟩
  | num _ _ _ h1 h2 => exact ⟨fun _ => ⟨h1, h2⟩, fun x hx => by cases hx⟩
  | _ =>
    refine ⟨fun hk => by omega, fun x hx => ?_⟩
    first
      | (cases hx; done)
      | (simp only [List.mem_cons, List.not_mem_nil, or_false] at hx
         rcases hx with rfl | rfl | rfl <;> exact ⟨_, _, by assumption⟩)
      | (simp only [List.mem_cons, List.not_mem_nil, or_false] at hx
         rcases hx with rfl | rfl <;> exact ⟨_, _, by assumption⟩)
      | (simp only [List.mem_cons, List.not_mem_nil, or_false] at hx
         subst hx
         exact ⟨_, _, by assumption⟩)
def sm : List Bs → Nat
 | [] => 0
 | a :: l => a.length + 2 + sm l
theorem joinC_len : ∀ l : List Bs, (joinC l).length ≤ sm l
 | [] => by simp [joinC, sm]
 | [a] => by simp [joinC, sm]
 | a :: b :: l => by
  have := joinC_len (b :: l)
  simp only [joinC, sm, List.length_append, List.length_cons, List.length_nil] at this ⊢
  omega
def KL (l : List Node) : Prop := ∀ x ∈ l, ∀ m, (wr x m).length + 8 ≤ 64 * wg x
theorem KL.tail {x : Node} {l : List Node} (h : KL (x :: l)) : KL l := fun y hy => h y (by simp [hy])
theorem sm_len (m : M) : ∀ l : List Node, KL l → sm (l.map (wr · m)) ≤ 64 * wgs l
 | [], _ => by simp [sm]
 | x :: l, h => by
  have h1 := h x (by simp) m
  have h2 := sm_len m l h.tail
  simp only [List.map_cons, sm, wgs]; omega
theorem flat_len' : ∀ l : List Node, KL l → (l.flatMap fun x => wr x .stmt ++ [32]).length ≤ 64 * wgs l
 | [], _ => by simp
 | x :: l, h => by
  have h1 := h x (by simp) .stmt
  have h2 := flat_len' l h.tail
  simp only [List.flatMap_cons, List.length_append, List.length_cons, List.length_nil, wgs] at h2 ⊢; omega
theorem joinB_len : ∀ l : List Node, KL l → (joinB (l.map fun x => wr x .stmt)).length ≤ 64 * wgs l
 | [], _ => by simp [joinB]
 | [a], h => by
  have := h a (by simp) .stmt
  simp only [List.map_cons, List.map_nil, joinB, wgs]; omega
 | a :: b :: l, h => by
  have h1 := h a (by simp) .stmt
  have h2 := joinB_len (b :: l) h.tail
  simp only [List.map_cons, joinB, wgs, List.length_append, List.length_cons, List.length_nil] at h2 ⊢; omega
theorem kid_nil (i : Nat) (m : M) : kid (wrs []) i m = [] := by simp [kid, wrs]
theorem kid_zero (x : Node) (l : List Node) : kid (wrs (x :: l)) 0 = wr x := by simp [kid, wrs]
theorem kid_succ (x : Node) (l : List Node) (i : Nat) : kid (wrs (x :: l)) (i + 1) = kid (wrs l) i := by simp [kid, wrs]
theorem kid1_len (i : Nat) (m : M) : ∀ l : List Node, KL l → (kid (wrs l) i m).length ≤ 64 * wgs l
 | [], _ => by rw [kid_nil]; simp
 | x :: l, h => by
  have h1 := h x (by simp) m
  cases i with
  | zero => rw [kid_zero]; simp only [wgs]; omega
  | succ i => rw [kid_succ]; have := kid1_len i m l h.tail; simp only [wgs]; omega
theorem kid3_len (a b c : M) (l : List Node) (h : KL l) : (kid (wrs l) 0 a).length + (kid (wrs l) 1 b).length + (kid (wrs l) 2 c).length ≤ 64 * wgs l := by
 cases l with
 | nil => rw [kid_nil, kid_nil, kid_nil]; simp
 | cons x l =>
  have h1 := h x (by simp) a
  rw [kid_zero, kid_succ, kid_succ]
  cases l with
  | nil => rw [kid_nil, kid_nil]; simp only [wgs, List.length_nil]; omega
  | cons y l =>
   have h2 := h.tail y (by simp) b
   have h3 := kid1_len 0 c l h.tail.tail
   rw [kid_zero, kid_succ]
   simp only [wgs]; omega
theorem kidr_len (a b : M) (l : List Node) (h : KL l) : (kid (wrs l) 0 a).length + (joinC (((wrs l).drop 1).map (· b))).length ≤ 64 * wgs l := by
 cases l with
 | nil => rw [kid_nil]; simp [wrs, joinC]
 | cons x l =>
  have h1 := h x (by simp) a
  rw [kid_zero]
  have e : ((wrs (x :: l)).drop 1).map (· b) = l.map (wr · b) := by simp only [wrs, List.drop_succ_cons, List.drop_zero]; rw [wrs_map, List.map_map]; rfl
  rw [e]
  have h2 := joinC_len (l.map (wr · b))
  have h3 := sm_len b l h.tail
  simp only [wgs]; omega
theorem kidf_len (a b : M) : ∀ (l : List Node) (q : Nat), KL l → sm (((wrs l).take q).map (· a)) + (kid (wrs l) q b).length ≤ 64 * wgs l
 | [], q, _ => by rw [kid_nil]; simp [wrs, sm]
 | x :: l, 0, h => by
  have h1 := h x (by simp) b
  rw [kid_zero]
  simp only [List.take_zero, List.map_nil, sm, wgs]; omega
 | x :: l, q + 1, h => by
  have h1 := h x (by simp) a
  have h2 := kidf_len a b l q h.tail
  rw [kid_succ]
  simp only [wrs, List.take_succ_cons, List.map_cons, sm, wgs]; omega
theorem listed_len (o c : Bs) (l : List Bs) : (listed o c l).length ≤ o.length + c.length + (joinC l).length := by simp only [listed, List.length_append]; omega
theorem quote_le (l : Bs) : (Lexy.quote l).length ≤ 4 * l.length + 2 := by
 have : (l.flatMap Lexy.qb).length ≤ 4 * l.length := by
  induction l with
  | nil => simp
  | cons c r ih => have := (Lexy.qb_len c).2; simp only [List.flatMap_cons, List.length_append, List.length_cons]; omega
 simp only [Lexy.quote, List.length_cons, List.length_append, List.length_nil]; omega
theorem sgn_len (k : Int) (t : Bs) : (sgn k t).length ≤ t.length + 2 := by
 unfold sgn; split
 ·simp
 ·split
  ·simp
  ·omega
section
variable {k nu : Int} {t : Bs} {l : List Node}
theorem fn_len (h : KL l) : (wFn t (wrs l)).length ≤ t.length + 64 * wgs l + 12 := by
 have h1 := kidf_len .param .block l ((wrs l).length - 1) h
 have h2 := joinC_len (((wrs l).take ((wrs l).length - 1)).map (· M.param))
 have h3 := listed_len [40] [41] (((wrs l).take ((wrs l).length - 1)).map (· M.param))
 unfold wFn
 simp only [ln] at h3 ⊢
 by_cases ht : t = []
 ·rw [if_pos ht]; simp only [List.length_nil]; omega
 ·rw [if_neg ht]; simp only [List.length_cons]; omega
theorem fst_len (hk : k = 1 → 0 ≤ nu ∧ nu ≤ 9007199254740992) (h : KL l) : (wFst k nu t (wrs l)).length ≤ 4 * t.length + 64 * wgs l + 24 := by
 have hj : ∀ m : M, (joinC ((wrs l).map (· m))).length ≤ 64 * wgs l := fun m => by
  have h1 := joinC_len ((wrs l).map (· m))
  have h2 := sm_len m l h
  have e : (wrs l).map (· m) = l.map (wr · m) := by rw [wrs_map, List.map_map]; rfl
  rw [e] at h1 ⊢; omega
 unfold wFst
 by_cases h1 : k = 1
 ·rw [if_pos h1]
  have := Go.Lib.itoa_length_le nu (by have := hk h1; omega) (by have := hk h1; omega)
  omega
 rw [if_neg h1]
 by_cases h2 : k = 2
 ·rw [if_pos h2]; have := quote_le t; omega
 rw [if_neg h2]
 by_cases h3 : k = 3
 ·rw [if_pos h3]; split <;> simp
 rw [if_neg h3]
 by_cases h4 : k = 4
 ·rw [if_pos h4]; simp
 rw [if_neg h4]
 by_cases h5 : k = 5
 ·rw [if_pos h5]; omega
 rw [if_neg h5]
 by_cases h6 : k = 6
 ·rw [if_pos h6]; have h7 := listed_len [91] [93] ((wrs l).map (· (M.at (-2)))); have := hj (.at (-2)); simp only [List.length_cons, List.length_nil] at h7; omega
 rw [if_neg h6]
 by_cases h7 : k = 7
 ·rw [if_pos h7]; have h8 := listed_len [123] [125] ((wrs l).map (· M.pair)); have := hj .pair; simp only [List.length_cons, List.length_nil] at h8; omega
 rw [if_neg h7]
 by_cases h9 : k = 9
 ·rw [if_pos h9]; have := fn_len (t := t) h; omega
 rw [if_neg h9]; simp
theorem ex_len (hk : k = 1 → 0 ≤ nu ∧ nu ≤ 9007199254740992) (h : KL l) : (wEx k nu t (wrs l)).length ≤ 4 * t.length + 64 * wgs l + 24 := by
 have h3 := fun a b c => kid3_len a b c l h
 unfold wEx
 split
 ·have := h3 (.at 7) (.at (-2)) (.at (-2)); simp only [ln]; omega
 split
 ·have := h3 (.at 0) (.at (-2)) (.at (-2)); simp only [ln]; omega
 split
 ·have := h3 (.at (rank (.mk k nu t []))) (.at (rank (.mk k nu t []) + 1)) (.at (-2))
  have := sgn_len k t
  simp only [ln]; omega
 split
 ·have := kid1_len 0 (.at 6) l h; simp only [List.length_append]; omega
 split
 ·have h4 := kidr_len (.at 7) (.at (-2)) l h
  have h5 := listed_len [40] [41] (((wrs l).drop 1).map (· (M.at (-2))))
  simp only [ln] at h5 ⊢; omega
 split
 ·have := h3 (.at 7) (.at (-2)) (.at (-2)); simp only [ln]; omega
 split
 ·have := kid1_len 0 (.at 7) l h; simp only [List.length_append, List.length_cons]; omega
 ·exact fst_len hk h
theorem block_len (h : KL l) : (wBlock (wrs l)).length ≤ 64 * wgs l + 8 := by
 have e : ((wrs l).flatMap fun g => g .stmt ++ [32]) = l.flatMap fun x => wr x .stmt ++ [32] := by rw [wrs_map, List.flatMap_map]
 have := flat_len' l h
 unfold wBlock
 rw [e]
 simp only [ln]; omega
theorem ifs_len (h : KL l) : (wIfs l (wrs l)).length ≤ 64 * wgs l + 16 := by
 have h1 := kid3_len (.at (-2)) .block .ifs l h
 have h2 := kid3_len (.at (-2)) .block .block l h
 unfold wIfs
 simp only [ln]
 split
 ·split <;> simp only [ln] <;> omega
 ·simp only [List.length_nil]; omega
theorem tries_len (h : KL l) : (wTries nu t (wrs l)).length ≤ t.length + 64 * wgs l + 24 := by
 have h1 := kid3_len .block .block .block l h
 unfold wTries
 simp only [ln]
 split
 ·split <;> simp only [ln] <;> omega
 ·split <;> simp only [ln] <;> omega
theorem stmt_len (h : KL l) : (wStmt k nu t l (wrs l)).length ≤ t.length + 64 * wgs l + 24 := by
 have h3 := fun a b c => kid3_len a b c l h
 have hb := block_len h
 have hi := ifs_len h
 have ht := tries_len (nu := nu) (t := t) h
 have e2 := h3 (.at (-2)) .block .block
 have e1 := kid1_len 0 (.at (-2)) l h
 have ef := kid1_len 0 .fn l h
 unfold wStmt
 by_cases y20 : k = 20
 ·rw [if_pos y20]
  simp only [ln]; omega
 rw [if_neg y20]
 by_cases y21 : k = 21
 ·rw [if_pos y21]
  omega
 rw [if_neg y21]
 by_cases y22 : k = 22
 ·rw [if_pos y22]
  omega
 rw [if_neg y22]
 by_cases y23 : k = 23
 ·rw [if_pos y23]
  simp only [ln]; omega
 rw [if_neg y23]
 by_cases y24 : k = 24
 ·rw [if_pos y24]
  simp only [ln]; omega
 rw [if_neg y24]
 by_cases y25 : k = 25
 ·rw [if_pos y25]
  split <;> simp only [ln] <;> omega
 rw [if_neg y25]
 by_cases y26 : k = 26
 ·rw [if_pos y26]
  simp only [List.length_cons, List.length_nil]; omega
 rw [if_neg y26]
 by_cases y27 : k = 27
 ·rw [if_pos y27]
  simp only [List.length_cons, List.length_nil]; omega
 rw [if_neg y27]
 by_cases y28 : k = 28
 ·rw [if_pos y28]
  simp only [ln]; omega
 rw [if_neg y28]
 by_cases y29 : k = 29
 ·rw [if_pos y29]
  omega
 rw [if_neg y29]
 by_cases y30 : k = 30
 ·rw [if_pos y30]
  omega
 rw [if_neg y30]
 by_cases y31 : k = 31
 ·rw [if_pos y31]
  by_cases hf : front (l.getD 0 default) = 7 ∨ front (l.getD 0 default) = 9
  ·rw [if_pos hf]; simp only [ln]; omega
  ·rw [if_neg hf]; simp only [ln]; omega
 rw [if_neg y31]
 simp only [List.length_nil]; omega
end
theorem wr_len : ∀ n : Node, (∃ a b, Rt a b n) → ∀ m, (wr n m).length + 8 ≤ 64 * wg n := by
 refine ind fun k nu t l ih hr m => ?_
 obtain ⟨a, b, hr⟩ := hr
 obtain ⟨hk, hkids⟩ := rt_kids hr
 have h : KL l := fun x hx m => ih x hx (hkids x hx) m
 have h1 := ex_len (t := t) hk h
 have h2 := fst_len (t := t) hk h
 have h3 := fn_len (t := t) h
 have h4 := block_len h
 have h5 := ifs_len h
 have h6 := tries_len (nu := nu) (t := t) h
 have h7 := stmt_len (k := k) (nu := nu) (t := t) h
 have h8 := kid1_len 0 (.at (-2)) l h
 show (step k nu t l (wrs l) m).length + 8 ≤ 64 * (t.length + wgs l + 1)
 cases m <;> simp only [step]
 case «at» q =>
  split
  ·omega
  ·simp only [ln]; omega
 case pair => simp only [ln]; omega
 all_goals omega
end Wri
