/-
  Structs loaded and stored as steps of a region that draws; results of several structs. Conditions: as each says.
-/
import Derived.Test.YtdolmjeiakdfhaaGreatDoorMem
import Derived.Deep.RegionLaw
import Derived.Deep.RegionHeld3
namespace Go.Proofs.YtdolmjeiakdfhaaGreatDoor
set_option linter.unusedSimpArgs false
set_option linter.unusedVariables false
open Go.RowKit

section
variable {P : Program} {ops : Array Oper} {o : Oper} {a : Act} {w : World} {K : Act → World → Prop} {Q : Exit → Act → World → Prop} {E : Prop}
/-- a whole struct is loaded out of its block: one step of a region that draws. -/
theorem step_load_box (hgd : o.guard = none) (ty : TypeId) (x : Operand) (ho : o.op = .load ty x) (g : Nat) (t : TypeId) (cs : Array Value) (d : TypeDesc) (hx : a.eval x = .pointer (some ⟨g, 0, none⟩)) (hg : Box w g t cs)
    (hu : P.underlying ty = some d) (hd : (match d with | .struct _ | .array _ _ => true | _ => false) = true) (hi : (P.info? ty).map (·.size) = some cs.size) (h : K (a.put o.dst (.agg cs)) w) :
    if Region.wanted o (yielded ops a.tmps) = true then Oper.wp P o a w K Q else E := by
  have hw : Region.wanted o (yielded ops a.tmps) = true := by simp [Region.wanted, hgd]
  rw [if_pos hw]
  have := run_loadVar_row (P := P) w g t ty cs (0, 0) d hg hu hd hi
  unfold Oper.wp execOp
  simp only [ho, hx, Instr.loadAt, Instr.sureAddr, Sem.run_bind, Sem.run_pure, Result.andThen_ok, this]
  exact h
/-- a whole struct that is loaded out of a block that stays as it is: it may be taken first. -/
theorem yields_load_box {S : World → Prop} (hw : Region.wanted o (yielded ops a.tmps) = true) (ty : TypeId) (x : Operand) (ho : o.op = .load ty x) (g : Nat) (t : TypeId) (cs : Array Value) (d : TypeDesc) (hx : a.eval x = .pointer (some ⟨g, 0, none⟩))
    (hS : ∀ w, S w → Box w g t cs) (hu : P.underlying ty = some d) (hd : (match d with | .struct _ | .array _ _ => true | _ => false) = true) (hi : (P.info? ty).map (·.size) = some cs.size) : YieldsIf P ops S o (.agg cs) a :=
  .inl ⟨hw, fun w h => by
    have := run_loadVar_row (P := P) w g t ty cs (0, 0) d (hS w h) hu hd hi
    unfold execOp
    simp only [ho, hx, Instr.loadAt, Instr.sureAddr, Sem.run_bind, Sem.run_pure, Result.andThen_ok, this]⟩
/-- a whole struct is stored into its block: one step of a region that draws. -/
theorem step_store_box (hgd : o.guard = none) (ty : TypeId) (x y : Operand) (ho : o.op = .store ty x y) (g : Nat) (cells : Array Value) (hx : a.eval x = .pointer (some ⟨g, 0, none⟩)) (hy : a.eval y = .agg cells) (t : TypeId) (old : Array Value) (hg : Box w g t old)
    (hi : (P.info? ty).map (·.size) = some cells.size) (hold : old.size = cells.size) (h1 : cells.all (·.oneCell') = true)
    (h : ∀ w', Box w' g t cells → Upd w w' g → w'.heap.size = w.heap.size → K (a.put o.dst undef) w') :
    if Region.wanted o (yielded ops a.tmps) = true then Oper.wp P o a w K Q else E := by
  have hw : Region.wanted o (yielded ops a.tmps) = true := by simp [Region.wanted, hgd]
  rw [if_pos hw]
  exact wp_store_row ty x y ho g cells hx hy t old hg hi hold h1 (h _ (setRow_heap w g old cells t (0, 0) hg) ⟨rfl, rfl, rfl, by simp, fun k _ hn => setRow_other w g k cells (by simpa using hn)⟩ (by simp))
end

section
variable {P : Program} {fn : Func} {tmps : Array Value} {w : World} {p1 p2 u1 u2 : Tmp} {g1 g2 : Nat} {t1 t2 ty1 ty2 : TypeId} {c1 c2 : Array Value} {d1 d2 : TypeDesc}
/-- a block that is returned whole. -/
structure Back (P : Program) (w : World) (tmps : Array Value) (p : Tmp) (ty : TypeId) (cs : Array Value) : Prop where
  out : ∃ a, tmps.getD p undef = .pointer (some a) ∧ (loadVar ty a).run P w = .ok (.agg cs) w
theorem Back.mk' (g : Nat) (t : TypeId) (d : TypeDesc) {p : Tmp} {ty : TypeId} {cs : Array Value} (hp : tmps.getD p undef = .pointer (some ⟨g, 0, none⟩)) (hg : Box w g t cs) (hu : P.underlying ty = some d)
    (hd : (match d with | .struct _ | .array _ _ => true | _ => false) = true) (hi : (P.info? ty).map (·.size) = some cs.size) : Back P w tmps p ty cs := ⟨⟨_, hp, run_loadVar_row (P := P) w g t ty cs (0, 0) d hg hu hd hi⟩⟩
theorem results_bb (h : fn.results = #[.cell p1 ty1, .cell p2 ty2]) (h1 : Back P w tmps p1 ty1 c1) (h2 : Back P w tmps p2 ty2 c2) : (results fn tmps).run P w = .ok (.tuple #[.agg c1, .agg c2]) w := by
  obtain ⟨a1, e1, r1⟩ := h1.out
  obtain ⟨a2, e2, r2⟩ := h2.out
  simp only [Array.getD_eq_getD_getElem?] at e1 e2
  simp only [results, h]
  simp [Sem.run_bind, Result.andThen, e1, e2, asAddr, r1, r2]
theorem results_bbt (h : fn.results = #[.cell p1 ty1, .cell p2 ty2, .tmp u1]) (h1 : Back P w tmps p1 ty1 c1) (h2 : Back P w tmps p2 ty2 c2) : (results fn tmps).run P w = .ok (.tuple #[.agg c1, .agg c2, tmps.getD u1 undef]) w := by
  obtain ⟨a1, e1, r1⟩ := h1.out
  obtain ⟨a2, e2, r2⟩ := h2.out
  simp only [Array.getD_eq_getD_getElem?] at e1 e2
  simp only [results, h]
  simp [Sem.run_bind, Result.andThen, e1, e2, asAddr, r1, r2]
theorem results_bbtt (h : fn.results = #[.cell p1 ty1, .cell p2 ty2, .tmp u1, .tmp u2]) (h1 : Back P w tmps p1 ty1 c1) (h2 : Back P w tmps p2 ty2 c2) : (results fn tmps).run P w = .ok (.tuple #[.agg c1, .agg c2, tmps.getD u1 undef, tmps.getD u2 undef]) w := by
  obtain ⟨a1, e1, r1⟩ := h1.out
  obtain ⟨a2, e2, r2⟩ := h2.out
  simp only [Array.getD_eq_getD_getElem?] at e1 e2
  simp only [results, h]
  simp [Sem.run_bind, Result.andThen, e1, e2, asAddr, r1, r2]
theorem results_btt (h : fn.results = #[.cell p1 ty1, .tmp u1, .tmp u2]) (h1 : Back P w tmps p1 ty1 c1) : (results fn tmps).run P w = .ok (.tuple #[.agg c1, tmps.getD u1 undef, tmps.getD u2 undef]) w := by
  obtain ⟨a1, e1, r1⟩ := h1.out
  simp only [Array.getD_eq_getD_getElem?] at e1
  simp only [results, h]
  simp [Sem.run_bind, Result.andThen, e1, asAddr, r1]
theorem results_tbt (h : fn.results = #[.tmp u1, .cell p1 ty1, .tmp u2]) (h1 : Back P w tmps p1 ty1 c1) : (results fn tmps).run P w = .ok (.tuple #[tmps.getD u1 undef, .agg c1, tmps.getD u2 undef]) w := by
  obtain ⟨a1, e1, r1⟩ := h1.out
  simp only [Array.getD_eq_getD_getElem?] at e1
  simp only [results, h]
  simp [Sem.run_bind, Result.andThen, e1, asAddr, r1]
end
end Go.Proofs.YtdolmjeiakdfhaaGreatDoor
