/-
  A script's value (api.JVal) in memory: a box of three cells; stored whole, loaded whole, returned whole. Conditions: as each says.
-/
import Derived.Test.YtpjbblbehbepbaaMem
import Derived.Test.YtpjbblbehbepbaaVal
import Derived.WalkKit
import Derived.WalkSpells
import Derived.Deep.QuietTactic
import Derived.BigQuiet
import Derived.Below
import Derived.Lib.Hide
import Derived.Handy
import Derived.Outline
import Derived.Laws.StructEq
namespace Go.Proofs.Ytpjbblbehbepbaa
open Go.RowKit

def byt (l : Valu.Bs) : ByteArray := ⟨l.toArray⟩
abbrev vcells (v : Valu.V) : Array Value := #[.int .i64 v.k, .int .i64 v.n, .string (byt v.s)]
abbrev vag (v : Valu.V) : Value := .agg (vcells v)
theorem ret_bool {a b : Bool} (h : a = b) : Ending.returned (.bool a) = .returned (.bool b) := by rw [h]
theorem byt_list (s : Valu.Bs) : (byt s).toList = s := by rw [ByteArray.toList_eq]; rfl
theorem byt_data (s : Valu.Bs) : (byt s).data.toList = s := rfl
theorem byt_size (s : Valu.Bs) : (byt s).size = s.length := by simp [byt, ByteArray.size]
theorem byt_empty (s : Valu.Bs) : (byt s).toList.isEmpty = decide (s = []) := by rw [byt_list]; cases s <;> rfl
theorem byt_inj {a b : Valu.Bs} (h : byt a = byt b) : a = b := by
  have := congrArg (fun x : ByteArray => x.data.toList) h
  simpa [byt_data] using this
theorem byt_append (a b : Valu.Bs) : byt a ++ byt b = byt (a ++ b) := by
  unfold byt
  apply ByteArray.ext
  simp
theorem beq_dec (a b : Int) : (a == b) = decide (a = b) := by rw [Bool.eq_iff_iff]; simp
theorem beq_no {a b : Int} (h : a ≠ b) : (a == b) = false := by simpa using h
theorem below1 (w : World) (o : Obj) : Below w.heap.size w (w.alloc o) := (Below.refl _ _).alloc (Nat.le_refl _) _
theorem bcell {W w1 : World} (hb : Below W.heap.size W w1) : (∀ b o, b < W.heap.size → w1.cell? ⟨b, o, none⟩ = W.cell? ⟨b, o, none⟩) ∧ (∀ b o, b < W.heap.size → w1.frozen? ⟨b, o, none⟩ = W.frozen? ⟨b, o, none⟩) :=
  ⟨fun b o h => hb.cell (p := ⟨b, o, none⟩) h, fun b o h => hb.frozen (p := ⟨b, o, none⟩) h⟩

theorem v_ext (a b : Valu.V) : decide (a = b) = (a.k == b.k && (a.n == b.n && (byt a.s).toList == (byt b.s).toList)) := by
  obtain ⟨k, n, s⟩ := a
  obtain ⟨k', n', s'⟩ := b
  rw [byt_list, byt_list, Bool.eq_iff_iff]
  simp
/-- '==' of two values. -/
theorem eql_val (a b : Valu.V) (w : World) : (binOp .eql 33 (vag a) (vag b)).run Try.prog w = .ok (.bool (decide (a = b))) w := by
  have u3 := Try.underlying3
  have a3 := Try.isAgg3
  have z3 := Try.sizeOf3
  have u9 := Try.underlying9
  have a9 := Try.isAgg9
  have z9 := Try.sizeOf9
  have hS : Try.prog.underlying 33 = some (.struct (Try.prog.fieldsOf 33)) := by kernel_rfl
  have hp : Try.prog.stoodInHeld 33 = false := by kernel_rfl
  rw [v_ext]
  simp only [vag, vcells]
  rw [run_eql_struct, show (10000 : Nat) = 9999 + 1 from rfl, run_equalIn_agg w 9999 33 _ _ hS hp]
  simp only [Program.fieldsOf, Try.underlying33]
  go_simp
  by_cases h1 : a.k = b.k <;> by_cases h2 : a.n = b.n <;> by_cases h3 : (byt a.s).toList = (byt b.s).toList <;> simp [h1, h2, h3]
theorem neq_val (a b : Valu.V) (w : World) : (binOp .neq 33 (vag a) (vag b)).run Try.prog w = .ok (.bool (!decide (a = b))) w := by
  have h := eql_val a b w
  simp only [vag, vcells] at h ⊢
  rw [run_eql_struct] at h
  rw [run_neq_struct]
  cases hr : (Op.equalIn 10000 33 (.agg #[.int .i64 a.k, .int .i64 a.n, .string (byt a.s)]) (.agg #[.int .i64 b.k, .int .i64 b.n, .string (byt b.s)])).run Try.prog w with
  | ok x w1 =>
    rw [hr] at h
    simp only [Result.andThen_ok] at h ⊢
    injection h with h1 h2
    injection h1 with h1
    rw [h1, h2]
  | halt x w1 => rw [hr] at h; simp [Result.andThen] at h

abbrev VBox (w : World) (b : Nat) (v : Valu.V) : Prop := Box w b 33 (vcells v)
theorem box3 {w : World} {b : Nat} {v : Valu.V} (h : VBox w b v) : w.cell? ⟨b, 0, none⟩ = some (.int .i64 v.k) ∧ w.cell? ⟨b, 1, none⟩ = some (.int .i64 v.n) ∧ w.cell? ⟨b, 2, none⟩ = some (.string (byt v.s)) :=
  ⟨by have := Box.cell h 0; simpa using this, by have := Box.cell h 1; simpa using this, by have := Box.cell h 2; simpa using this⟩
theorem new2 (w : World) (o : Obj) (t : TypeId) (cs : Array Value) : Box ((w.alloc o).alloc (.cells cs t)) (w.heap.size + 1) t cs := by
  have := Box.new (w.alloc o) t cs
  rwa [World.size_alloc] at this
theorem new3 (w : World) (o o' : Obj) (t : TypeId) (cs : Array Value) : Box (((w.alloc o).alloc o').alloc (.cells cs t)) (w.heap.size + 2) t cs := by
  have := Box.new ((w.alloc o).alloc o') t cs
  rwa [World.size_alloc, World.size_alloc] at this
theorem new4 (w : World) (o o' o'' : Obj) (t : TypeId) (cs : Array Value) : Box ((((w.alloc o).alloc o').alloc o'').alloc (.cells cs t)) (w.heap.size + 3) t cs := by
  have := Box.new (((w.alloc o).alloc o').alloc o'') t cs
  rwa [World.size_alloc, World.size_alloc, World.size_alloc] at this
theorem info_val : (Try.prog.info? 33).map (fun j => j.size) = some 3 := by kernel_rfl
theorem vcells_size (v : Valu.V) : (vcells v).size = 3 := rfl
theorem vcells_one (v : Valu.V) : (vcells v).all (·.oneCell') = true := by simp [Value.oneCell']

theorem field_val0 (v : Valu.V) (w : World) : (Instr.field 33 (vag v) 0).run Try.prog w = .ok (.int .i64 v.k) w := by kernel_rfl
theorem field_val1 (v : Valu.V) (w : World) : (Instr.field 33 (vag v) 1).run Try.prog w = .ok (.int .i64 v.n) w := by kernel_rfl
theorem field_val2 (v : Valu.V) (w : World) : (Instr.field 33 (vag v) 2).run Try.prog w = .ok (.string (byt v.s)) w := by kernel_rfl

theorem store_val {ops : Array Oper} {rest : List Oper} {o : Oper} {a : Act} {w : World} {Q : Exit → Act → World → Prop} (hgd : o.guard = none) (x y : Operand) (ho : o.op = .store 33 x y)
    (g : Nat) (v : Valu.V) (hx : a.eval x = .pointer (some ⟨g, 0, none⟩)) (hy : a.eval y = vag v) (old : Array Value) (hg : Box w g 33 old) (hold : old.size = 3)
    (h : ∀ w', VBox w' g v → Upd w w' g → w'.heap.size = w.heap.size → wpList Try.prog ops Q rest (a.put o.dst undef) w') : wpList Try.prog ops Q (o :: rest) a w :=
  wpList_store_box hgd _ x y ho g (vcells v) hx hy _ old hg info_val hold (vcells_one v) h
theorem load_val {ops : Array Oper} {rest : List Oper} {o : Oper} {a : Act} {w : World} {Q : Exit → Act → World → Prop} (hgd : o.guard = none) (x : Operand) (ho : o.op = .load 33 x)
    (g : Nat) (v : Valu.V) (hx : a.eval x = .pointer (some ⟨g, 0, none⟩)) (hg : VBox w g v)
    (h : wpList Try.prog ops Q rest (a.put o.dst (vag v)) w) : wpList Try.prog ops Q (o :: rest) a w :=
  wpList_load_row hgd _ x ho g hx _ (vcells v) (0, 0) _ hg Try.underlying33 rfl info_val h
theorem ret_val {fn : Func} {p : Tmp} (h : fn.results = #[.cell p 33]) (tmps : Array Value) (w : World) (g : Nat) (v : Valu.V) (hp : tmps.getD p undef = .pointer (some ⟨g, 0, none⟩)) (hg : VBox w g v) :
    (results fn tmps).run Try.prog w = .ok (vag v) w := results_box h tmps w g _ (vcells v) _ hp hg Try.underlying33 rfl info_val
theorem ret_val_tmp {fn : Func} {p u : Tmp} (h : fn.results = #[.cell p 33, .tmp u]) (tmps : Array Value) (w : World) (g : Nat) (v : Valu.V) (hp : tmps.getD p undef = .pointer (some ⟨g, 0, none⟩)) (hg : VBox w g v) :
    (results fn tmps).run Try.prog w = .ok (.tuple #[vag v, tmps.getD u undef]) w := results_box_tmp h tmps w g _ (vcells v) _ hp hg Try.underlying33 rfl info_val
end Go.Proofs.Ytpjbblbehbepbaa
