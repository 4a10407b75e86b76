/-
  Drawers in memory, and what is done on them. Conditions: as each says.
-/
import Derived.Test.YtdolmjeiakdfhaaGreatDoorGen
import Derived.Maps.OwnSet
import Derived.Maps.Views
import Derived.StringKeys
import Derived.Test.YtdolmjeiakdfhaaGreatDoorUrR
import Derived.Test.YtdolmjeiakdfhaaGreatDoorUrV
import Derived.Test.YtdolmjeiakdfhaaGreatDoorStX
import Derived.Test.YtdolmjeiakdfhaaGreatDoorUrX
import Derived.Maps.AppendAt
namespace Go.Proofs.YtdolmjeiakdfhaaGreatDoor
set_option linter.unusedSimpArgs false
set_option linter.unusedVariables false
open Go.RowKit Go.Maps Go.ChangeMaps Go.MapKept

/-- how elements lie in memory, and how they are read. -/
structure Rdr (α : Type) where
  val : α → Value
  R : Value → Option (DataW Unit × List MemPlace)
  enc : α → DataW Unit
  ok : ∀ x, R (val x) = some (enc x, [])
  inv : ∀ v x ps, R v = some (enc x, ps) → v = val x
theorem txtKey : Keyed Tryz.prog 9 := string_keyed Tryz.underlying9
theorem keyTxt (k : List UInt8) (h : k.length ≤ maxLen) : keyOf Tryz.prog 9 (.string (byt k)) = some (.string k) := by
  have := WideMaps.keyOf_string_mk (P := Tryz.prog) Tryz.underlying9 (s := byt k) (by rw [byt_size]; exact h)
  rwa [byt_data] at this
/-- block b is a map of n entries at most: f. -/
def MapF {α : Type} (r : Rdr α) (w : World) (b n : Nat) (f : List UInt8 → Option α) : Prop :=
  ∃ D : DataW Unit, w.ownsMap Tryz.prog 9 r.R b n D ∧ ∀ k : List UInt8, Maps.has D (.string k) = (f k).isSome ∧ ∀ z, D.atKey (.string k) z = (f k).elim z r.enc
section
variable {α : Type} {r : Rdr α} {w : World} {b n : Nat} {f : List UInt8 → Option α}
theorem MapF.made (r : Rdr α) (w : World) : MapF r (w.alloc (.map #[] 0)) w.heap.size 0 (fun _ => none) := ⟨_, World.ownsMap_made w _ _ _, fun k => ⟨rfl, fun z => rfl⟩⟩
theorem MapF.lt (h : MapF r w b n f) : b < w.heap.size := let ⟨_, h1, _⟩ := h; h1.lt
theorem MapF.mono (h : MapF r w b n f) {n' : Nat} (hn : n ≤ n') : MapF r w b n' f := let ⟨D, h1, h2⟩ := h; ⟨D, h1.mono hn, h2⟩
theorem MapF.kept {w' : World} {row : Option Nat} (h : MapF r w b n f) (hg : w.grownBy w' row) (hne : some b ≠ row) : MapF r w' b n f := let ⟨D, h1, h2⟩ := h; ⟨D, h1.kept hg hne, h2⟩
theorem MapF.block {w' : World} (h : MapF r w b n f) (hb : w'.heap[b]? = w.heap[b]?) : MapF r w' b n f := by
  obtain ⟨D, ⟨es, c, h0, h3⟩, h2⟩ := h
  exact ⟨D, ⟨es, c, hb.trans h0, h3⟩, h2⟩
theorem MapF.below {w' : World} (h : MapF r w b n f) (hb : Below w.heap.size w w') : MapF r w' b n f := h.block (hb.block b h.lt)
theorem MapF.upd {w' : World} {g : Nat} (h : MapF r w b n f) (hu : Upd w w' g) (hne : b ≠ g) : MapF r w' b n f := h.block (hu.block b h.lt (fun e => hne (by injection e)))
theorem elim_getD (x : Option α) (z : α) : x.elim (r.enc z) r.enc = r.enc (x.getD z) := by cases x <;> rfl
theorem MapF.look_ok (h : MapF r w b n f) {t e : TypeId} (ht : Tryz.prog.underlying t = some (.map 9 e)) {z0 : α} (hz : (zeroValue e).run Tryz.prog w = .ok (r.val z0) w) (k : List UInt8) (hk : k.length ≤ maxLen) :
    (Instr.lookup t (.map (some b)) (.string (byt k)) true).run Tryz.prog w = .ok (.tuple #[r.val ((f k).getD z0), .bool (f k).isSome]) w := by
  obtain ⟨D, h1, h2⟩ := h
  obtain ⟨v, ps, hrun, hv⟩ := h1.look_ok txtKey ht hz (r.ok z0) (keyTxt k hk)
  rw [(h2 k).2, elim_getD] at hv
  rw [hrun, r.inv _ _ _ hv, (h2 k).1]
theorem MapF.look (h : MapF r w b n f) {t e : TypeId} (ht : Tryz.prog.underlying t = some (.map 9 e)) {z0 : α} (hz : (zeroValue e).run Tryz.prog w = .ok (r.val z0) w) (k : List UInt8) (hk : k.length ≤ maxLen) :
    (Instr.lookup t (.map (some b)) (.string (byt k)) false).run Tryz.prog w = .ok (r.val ((f k).getD z0)) w := by
  obtain ⟨D, h1, h2⟩ := h
  obtain ⟨v, ps, hrun, hv⟩ := h1.lookup txtKey ht hz (r.ok z0) (keyTxt k hk)
  rw [(h2 k).2, elim_getD] at hv
  rw [hrun, r.inv _ _ _ hv]
/-- with another value at one key. -/
def putF (f : List UInt8 → Option α) (k : List UInt8) (v : Option α) : List UInt8 → Option α := fun x => if x = k then v else f x
theorem MapF.store (h : MapF r w b n f) {t e : TypeId} (ht : Tryz.prog.underlying t = some (.map 9 e)) (hn : n < maxLen) (k : List UInt8) (hk : k.length ≤ maxLen) (x : α) :
    ∃ w', (Instr.mapUpdate t (.map (some b)) (.string (byt k)) (r.val x)).run Tryz.prog w = .ok () w' ∧ MapF r w' b (n + 1) (putF f k (some x)) ∧ Upd w w' b ∧ w'.heap.size = w.heap.size := by
  obtain ⟨D, h1, h2⟩ := h
  obtain ⟨w', hrun, h3, h4⟩ := h1.store txtKey ht hn (keyTxt k hk) (r.ok x)
  have hm := h1.isMap
  refine ⟨w', hrun, ⟨_, h3, fun y => ?_⟩, h4.grown, ?_⟩
  · unfold putF
    by_cases e : y = k
    · subst e
      rw [if_pos rfl]
      exact ⟨has_put_same (k := .string y) hm trivial _, fun z => atKey_put_same (k := .string y) hm trivial _ z⟩
    · rw [if_neg e]
      have hne : (Lit.string y) ≠ .string k := fun h => e (by injection h)
      rw [has_put_other hne]
      exact ⟨(h2 y).1, fun z => by rw [atKey_put_other hne]; exact (h2 y).2 z⟩
  · obtain ⟨es, c, es', c', _, rfl⟩ := h4
    simp [setBlock]
theorem MapF.drop (h : MapF r w b n f) {t e : TypeId} (ht : Tryz.prog.underlying t = some (.map 9 e)) (k : List UInt8) (hk : k.length ≤ maxLen) (ty : TypeId) :
    ∃ w', (Builtin.delete_ #[t, 9] ty #[.map (some b), .string (byt k)]).run Tryz.prog w = .ok (.tuple #[]) w' ∧ MapF r w' b n (putF f k none) ∧ Upd w w' b ∧ w'.heap.size = w.heap.size := by
  obtain ⟨D, h1, h2⟩ := h
  obtain ⟨w', hrun, h3, h4⟩ := h1.drop txtKey ht (keyTxt k hk) ty
  refine ⟨w', hrun, ⟨_, h3, fun y => ?_⟩, h4.grown, ?_⟩
  · unfold putF
    by_cases e : y = k
    · subst e
      rw [if_pos rfl]
      exact ⟨has_del_same, fun z => atKey_del_same z⟩
    · rw [if_neg e]
      have hne : (Lit.string y) ≠ .string k := fun h => e (by injection h)
      rw [has_del_other hne]
      exact ⟨(h2 y).1, fun z => by rw [atKey_del_other hne]; exact (h2 y).2 z⟩
  · obtain ⟨es, c, es', c', _, rfl⟩ := h4
    simp [setBlock]
theorem MapF.clear (h : MapF r w b n f) {t e : TypeId} (ht : Tryz.prog.underlying t = some (.map 9 e)) (ty : TypeId) :
    ∃ w', (Builtin.clear_ #[t] ty #[.map (some b)]).run Tryz.prog w = .ok (.tuple #[]) w' ∧ MapF r w' b 0 (fun _ => none) ∧ Upd w w' b ∧ w'.heap.size = w.heap.size := by
  obtain ⟨D, ⟨es, c, hb, _⟩, _⟩ := h
  have hrun : (Builtin.clear_ #[t] ty #[.map (some b)]).run Tryz.prog w = .ok (.tuple #[]) (setBlock w b (.map #[] c)) := by
    simp [Builtin.clear_, run_underlying ht, MapKept.run_getObj_map hb, MapKept.run_setObj_map _ hb, Result.andThen]
    rfl
  refine ⟨_, hrun, ?_, ?_, ?_⟩
  · exact ⟨.map [], ⟨#[], c, heap_setBlock_same hb _, ⟨by simp, stamped_empty c, by simp⟩, Nat.le_refl _, rfl⟩, fun k => ⟨rfl, fun z => rfl⟩⟩
  · exact ⟨rfl, rfl, rfl, by simp [setBlock], fun i _ hi => heap_setBlock_other hb _ (fun e => hi (by rw [e]))⟩
  · simp [setBlock]
end
/-! ### the operations, for the walk -/
section
variable {α : Type} {r : Rdr α} {w : World} {b n : Nat} {f : List UInt8 → Option α} {ops : Array Oper} {rest : List Oper} {o : Oper} {a : Act} {Q : Exit → Act → World → Prop}
theorem wpList_mapf_store (hg : o.guard = none) (m x v : Operand) (t : TypeId) (hop : o.op = Op.mapUpdate t m x v) (e : TypeId) (ht : Tryz.prog.underlying t = some (.map 9 e)) (h : MapF r w b n f) (hm : a.eval m = .map (some b)) (hn : n < maxLen)
    (k : List UInt8) (hk : k.length ≤ maxLen) (hx : a.eval x = .string (byt k)) (y : α) (hv : a.eval v = r.val y)
    (hK : ∀ w', MapF r w' b (n + 1) (putF f k (some y)) → Upd w w' b → w'.heap.size = w.heap.size → wpList Tryz.prog ops Q rest (a.put o.dst undef) w') : wpList Tryz.prog ops Q (o :: rest) a w := by
  refine wpList_plain hg fun K' hK' => ?_
  obtain ⟨w', hrun, r1, r2, r3⟩ := h.store ht hn k hk y
  unfold Oper.wp
  simp [execOp, hop, hm, hx, hv, hrun, Result.andThen]
  exact hK' _ _ (hK w' r1 r2 r3)
theorem wpList_mapf_clear (hg : o.guard = none) (m : Operand) (t : TypeId) (hop : o.op = .call { callee := .builtin .clear, args := #[m], argTypes := #[t] }) (e : TypeId) (ht : Tryz.prog.underlying t = some (.map 9 e)) (h : MapF r w b n f) (hm : a.eval m = .map (some b))
    (hK : ∀ w', MapF r w' b 0 (fun _ => none) → Upd w w' b → w'.heap.size = w.heap.size → wpList Tryz.prog ops Q rest (a.put o.dst (.tuple #[])) w') : wpList Tryz.prog ops Q (o :: rest) a w := by
  refine wpList_plain hg fun K' hK' => ?_
  obtain ⟨w', hrun, r1, r2, r3⟩ := h.clear ht o.type
  unfold Oper.wp
  simp [execOp, hop, resolve, invoke, builtin, hm, hrun, Result.andThen]
  exact hK' _ _ (hK w' r1 r2 r3)
theorem step_mapf_delete {K : Act → World → Prop} {E : Prop} (hgd : o.guard = none) (m x : Operand) (t : TypeId) (hop : o.op = .call { callee := .builtin .delete, args := #[m, x], argTypes := #[t, 9] }) (e : TypeId) (ht : Tryz.prog.underlying t = some (.map 9 e)) (h : MapF r w b n f) (hm : a.eval m = .map (some b))
    (k : List UInt8) (hk : k.length ≤ maxLen) (hx : a.eval x = .string (byt k))
    (hK : ∀ w', MapF r w' b n (putF f k none) → Upd w w' b → w'.heap.size = w.heap.size → K (a.put o.dst (.tuple #[])) w') :
    if Region.wanted o (yielded ops a.tmps) = true then Oper.wp Tryz.prog o a w K Q else E := by
  have hw : Region.wanted o (yielded ops a.tmps) = true := by simp [Region.wanted, hgd]
  rw [if_pos hw]
  obtain ⟨w', hrun, r1, r2, r3⟩ := h.drop ht k hk o.type
  unfold Oper.wp
  simp [execOp, hop, resolve, invoke, builtin, hm, hx, hrun, Result.andThen]
  exact hK w' r1 r2 r3
end
end Go.Proofs.YtdolmjeiakdfhaaGreatDoor

namespace Go.Proofs.YtdolmjeiakdfhaaGreatDoor
set_option linter.unusedSimpArgs false
set_option linter.unusedVariables false
open Go.RowKit

theorem filter_take {α : Type} {q : α → Bool} {l : List α} {j : Nat} {x : α} (h : l[j]? = some x) : (l.take (j + 1)).filter q = (l.take j).filter q ++ (if q x then [x] else []) := by
  rw [List.take_add_one, h, List.filter_append]
  simp [List.filter_cons]
theorem idx_two {α : Type} (q : α → Bool) : ∀ l : List α, (idx q l = -1 ∧ l.filter (fun x => !q x) = l) ∨ ∃ k x, idx q l = (k : Nat) ∧ l[k]? = some x ∧ q x = true ∧ (l.take k).filter (fun x => !q x) = l.take k
  | [] => .inl ⟨rfl, rfl⟩
  | y :: l => by
    cases hy : q y with
    | true => exact .inr ⟨0, y, by simp [idx, hy], rfl, hy, rfl⟩
    | false =>
      rcases idx_two q l with ⟨h1, h2⟩ | ⟨k, x, h1, h2, h3, h4⟩
      · left
        refine ⟨by simp [idx, hy, h1], by rw [List.filter_cons]; simp [hy, h2]⟩
      · right
        refine ⟨k + 1, x, ?_, by simpa using h2, h3, by rw [List.take_succ_cons, List.filter_cons]; simp [hy, h4]⟩
        rw [idx, hy, h1, if_neg (by simp), if_neg (by omega)]; rfl
/-! ### clear: cells of a row that is known whole -/
section
variable {P : Program} {ops : Array Oper} {rest : List Oper} {o : Oper} {a : Act} {w : World} {Q : Exit → Act → World → Prop}
theorem zeros_one {z : Array Value} (h1 : ∀ u ∈ z.toList, u.oneCell' = true) (n : Nat) : ∀ u ∈ (Builtin.zeroCells z n).toList, u.oneCell' = true := by
  intro u hu
  unfold Builtin.zeroCells at hu
  simp only [Array.toList_map, List.mem_map, Array.toList_range, List.mem_range] at hu
  obtain ⟨i, hi, rfl⟩ := hu
  have hz : 0 < z.size := by rcases Nat.eq_zero_or_pos z.size with h | h; (rw [h] at hi; simp at hi); exact h
  have := Nat.mod_lt i hz
  exact h1 _ (by rw [getElem!_pos z (i % z.size) this]; simp)
theorem wpList_clear_some (hgd : o.guard = none) (s : Operand) (t : TypeId) (hop : o.op = .call { callee := .builtin .clear, args := #[s], argTypes := #[t] })
    (e : TypeId) (z : Value) (ht : P.underlying t = some (.slice e)) (hv : ∀ w, (zeroValue e).run P w = .ok z w) (h1 : ∀ u ∈ z.cells.toList, u.oneCell' = true)
    (g off n c n1 : Nat) (hs : a.eval s = .slice (some ⟨g, off, none⟩) n1 c) (hn : n1 = n + 1) (cur : List Value) (te : TypeId) (hg : Box w g te cur.toArray) (hfit : off + (n + 1) * z.cells.size ≤ cur.length)
    (h : ∀ w' Z, Z.length = (n + 1) * z.cells.size → Hid (Box w' g te (splice cur off Z).toArray) → Upd w w' g → w'.heap.size = w.heap.size → wpList P ops Q rest (a.put o.dst (.tuple #[])) w') : wpList P ops Q (o :: rest) a w := by
  subst hn
  refine wpList_plain hgd fun K hK => ?_
  have hZ : (Builtin.zeroCells z.cells (n + 1)).toList.length = (n + 1) * z.cells.size := by rw [Array.length_toList, size_zeroCells]
  have hst := run_storeCells_at P g off te (Builtin.zeroCells z.cells (n + 1)).toList 0 cur.toArray w hg (by simp only [List.size_toArray]; rw [hZ]; omega) (zeros_one h1 _)
  simp only [Nat.add_zero, List.append_assoc] at hst
  have hrun : (Builtin.clear_ #[t] o.type #[.slice (some ⟨g, off, none⟩) (n + 1) c]).run P w = .ok (.tuple #[]) (w.setRow g (splice cur off (Builtin.zeroCells z.cells (n + 1)).toList).toArray) := by
    simp [Builtin.clear_, run_underlying ht, hv, hst, splice]
  unfold Oper.wp execOp
  simp only [hop, resolve, invoke, builtin, Sem.run_bind, Sem.run_pure, Result.andThen_ok, List.map_toArray, List.map_cons, List.map_nil, hs, hrun]
  exact hK _ _ (h _ _ hZ (setRow_heap w g _ _ te _ hg) (upd_setRow w g _) (by simp))
end
theorem zero_txt (w : World) : (zeroValue 9).run Tryz.prog w = .ok (.string ByteArray.empty) w := by kernel_rfl
theorem set_take {α : Type} (l : List α) (i : Nat) (x : α) (h : i < l.length) : (l.set i x).take (i + 1) = l.take i ++ [x] := by
  rw [List.take_add_one, List.getElem?_set_self h, List.take_set_of_le (Nat.le_refl _)]; rfl
/-! ### IndexFunc -/
set_option maxHeartbeats 1000000 in
theorem index_txt (l : List (List UInt8)) (q : List UInt8 → Bool) (g : Nat) (lb : Array Value) (v : Value) (w : World) (eg : ∀ args w, (callFunc g args).run Tryz.prog w = .ok (.enter g args) w)
    (hp : ∀ x ∈ l, Calls Tryz.prog g (#[.string (byt x)] ++ lb) w fun e w' => e = .returned (.bool (q x)) ∧ w' = w)
    (hR : Rd w 1 (txts l) l.length v) (hl : l.length ≤ 1000000) :
    Calls Tryz.prog 81 #[v, .func (.func g) #[] lb] w fun e w' => e = .returned (.int .i64 (idx q l)) ∧ w' = w := by
  obtain ⟨A, cap, rfl, hcap1, hcap2, hrow⟩ := hR
  have HP := Lib.hid hp
  have HR := Lib.hid hrow
  clear hp hrow
  go_enter Tryz.func81, Tryz.ntmps81
  go_wp2
  go_loopg [5, 8] l.length (fun gg _ s8 wr => ∃ kk : Nat, kk ≤ l.length ∧ l.length - kk ≤ gg ∧ s8 = .int .i64 (kk : Int) ∧ wr = w ∧ Hid (∀ (j : Nat) (y : List UInt8), j < kk → l[j]? = some y → q y = false))
  case atStart => exact ⟨0, Nat.zero_le _, by omega, rfl, rfl, fun j y hj => absurd hj (Nat.not_lt_zero _)⟩
  case round =>
    obtain ⟨kk, hkk, hg, rfl, rfl, AA⟩ := hrel
    by_cases hlt : kk < l.length
    · have hltz : (kk : Int) < (l.length : Int) := by omega
      obtain ⟨y, hy⟩ : ∃ y, l[kk]? = some y := ⟨_, List.getElem?_eq_getElem hlt⟩
      obtain ⟨g0, o, rfl, hg0, hrg⟩ := HR.out (by omega)
      have hc : wr.cell? ⟨g0, o + kk, none⟩ = some (.string (byt y)) := hrg kk _ (by simp [txts, hy])
      have hcall0 := HP.out y (List.mem_of_getElem? hy)
      have HY := Lib.hid hy
      clear hy hrg
      obtain ⟨Y, hY⟩ : ∃ Y, byt y = Y := ⟨_, rfl⟩
      rw [hY] at hc hcall0
      clear hY
      cases hq : q y with
      | true =>
        rw [hq] at hcall0
        have hcall := Lib.hid hcall0
        clear hcall0
        go_wp2_with (fail)
        refine (hcall.out).mono ?_
        rintro e w1 ⟨rfl, hw1⟩
        subst hw1
        go_wp2
        go_ret
        refine ⟨?_, rfl⟩
        rw [idx_hit q l kk y HY.out hq AA.out]; rfl
      | false =>
        rw [hq] at hcall0
        have hcall := Lib.hid hcall0
        clear hcall0
        go_wp2_with (fail)
        refine (hcall.out).mono ?_
        rintro e w1 ⟨rfl, hw1⟩
        subst hw1
        go_wp2
        go_roundg (l.length - (kk + 1))
        case measure => omega
        case rel =>
          refine ⟨kk + 1, by omega, by omega, by go_num, rfl, (show Hid _ from fun j z hj hz => ?_)⟩
          by_cases e : j = kk
          · subst e
            have := HY.out
            rw [hz] at this
            injection this with this
            rw [this]; exact hq
          · exact AA.out j z (by omega) hz
    · have hltz : ¬ (kk : Int) < (l.length : Int) := by omega
      go_wp2
      go_ret
      refine ⟨?_, rfl⟩
      rw [idx_miss q l (fun j y hy => AA.out j y (by have := (List.getElem?_eq_some_iff.1 hy).1; omega) hy)]; rfl
/-! ### DeleteFunc -/
theorem txts_get {l : List (List UInt8)} {j : Nat} {x : List UInt8} (h : l[j]? = some x) : (txts l)[j]? = some (.string (byt x)) := by simp [txts, h]
theorem txts_cat (a b : List (List UInt8)) : txts (a ++ b) = txts a ++ txts b := by simp [txts]
set_option maxRecDepth 100000 in
set_option maxHeartbeats 4000000 in
theorem delfunc_txt (l : List (List UInt8)) (q : List UInt8 → Bool) (g : Nat) (lb : Array Value) (base : Nat) (v : Value) (w : World) (eg : ∀ args w, (callFunc g args).run Tryz.prog w = .ok (.enter g args) w)
    (hown : w.ownsRow base 9 1 v l.length (txts l)) (hl : l.length ≤ 1000000)
    (hp : ∀ x ∈ l, ∀ w1, w.grownBy w1 v.ownBlock → Calls Tryz.prog g (#[.string (byt x)] ++ lb) w1 fun e w' => e = .returned (.bool (q x)) ∧ w' = w1) :
    Calls Tryz.prog 57 #[v, .func (.func g) #[] lb] w fun e w' => RowOut w base 9 1 (l.filter (fun x => !q x)).length v.ownBlock (txts (l.filter (fun x => !q x))) e w' := by
  have HP := Lib.hid hp
  have HO := Lib.hid hown
  have HI := Lib.hid (index_txt l q g lb v w eg (fun x hx => hp x hx w ⟨rfl, rfl, rfl, Nat.le_refl _, fun i hi _ => rfl⟩) (Rd.own hown) hl)
  have hlen := Lib.hid (txts_len l)
  obtain ⟨A, cap, rfl⟩ := own_slice hown
  rcases idx_two q l with ⟨h1, h2⟩ | ⟨k, x0, h1, h2, h3, h4⟩
  · rw [h1] at HI
    have H2 := Lib.hid h2
    clear hp hown h1 h2
    go_enter Tryz.func57, Tryz.ntmps57
    go_wp2_with (fail)
    refine (HI.out).mono ?_
    rintro e W ⟨rfl, hb⟩
    subst hb
    go_wp2
    go_ret
    refine ⟨_, rfl, ?_, rfl, ⟨rfl, rfl, rfl, Nat.le_refl _, fun i hi _ => rfl⟩⟩
    rw [H2.out]
    exact HO.out
  · have hk : k < l.length := (List.getElem?_eq_some_iff.1 h2).1
    rw [h1] at HI
    have hf0 : Hid ((l.take (k + 1)).filter (fun x => !q x) = l.take k) := by
      show _ = _
      rw [filter_take h2, h4, h3]; simp
    obtain ⟨g0, cap', R, hv, hbase, hbox, hcap1, hcap2, hsz⟩ := own_box hown (by omega)
    injection hv with hA _ hc
    subst hA
    subst hc
    rw [Nat.mul_one] at hsz
    have HB := Lib.hid hbox
    have HZ := Lib.hid hsz
    have hg0 := hbox.lt
    have hne1 : ((k : Int) == -1) = false := by rw [beq_eq_false_iff_ne]; omega
    clear hp hown h1 h2 h3 h4 hbox hsz
    go_enter Tryz.func57, Tryz.ntmps57
    go_wp2_with (fail)
    refine (HI.out).mono ?_
    rintro e W ⟨rfl, hb⟩
    subst hb
    go_upto_region 5 with (fail)
    go_loopg [5, 6, 7] l.length (fun gg s5 s6 _ wr => ∃ (i j : Nat) (cur : List Value), j ≤ l.length ∧ l.length - j ≤ gg ∧ i < j ∧ s5 = .int .i64 (i : Int) ∧ s6 = .int .i64 (j : Int) ∧ Hid (i = ((l.take j).filter (fun x => !q x)).length) ∧ Hid (cur.length = cap) ∧ Hid (cur.take i = txts ((l.take j).filter (fun x => !q x))) ∧ Hid (cur.drop j = (txts l ++ R).drop j) ∧ Hid (Box wr g0 9 cur.toArray) ∧ Hid (Upd W wr g0))
    case atStart =>
      refine ⟨k, k + 1, txts l ++ R, by omega, by omega, by omega, rfl, by go_num, ?_, HZ.out, ?_, rfl, HB.out, Upd.refl _ _⟩
      · show _ = _
        rw [hf0.out, List.length_take]; omega
      · show _ = _
        have e1 : txts l = txts (l.take k) ++ txts (l.drop k) := by rw [← txts_cat, List.take_append_drop]
        have e2 := txts_len (l.take k)
        rw [List.length_take, Nat.min_eq_left (by omega)] at e2
        rw [hf0.out, e1, List.append_assoc, List.take_append_of_le_length (by omega), List.take_of_length_le (by omega)]
    case round =>
      obtain ⟨i, j, cur, hj, hgg, hij, rfl, rfl, HIL, HCL, HCT, HCD, HBX, HUW⟩ := hrel
      have hzr := HUW.out.size
      have hg0r := HBX.out.lt
      by_cases hlt : j < l.length
      · have hlt2 : decide ((j : Int) < (l.length : Int)) = true := by simp; omega
        have hltz : (j : Int) < (l.length : Int) := by omega
        have hiz : (i : Int) < (l.length : Int) := by omega
        obtain ⟨x, hx⟩ : ∃ x, l[j]? = some x := ⟨_, List.getElem?_eq_getElem hlt⟩
        have hft := Lib.hid (filter_take (q := fun x => !q x) hx)
        have hcx : wr.cell? ⟨g0, j, none⟩ = some (.string (byt x)) := by
          rw [HBX.out.cell, List.getElem?_toArray]
          have e1 := congrArg (fun z : List Value => z[0]?) HCD.out
          simp only [List.getElem?_drop, Nat.add_zero] at e1
          rw [e1, List.getElem?_append_left (by rw [hlen.out]; omega)]
          exact txts_get hx
        have hcall0 := HP.out x (List.mem_of_getElem? hx) wr HUW.out
        clear hx
        have hcd2 : Hid (cur.drop (j + 1) = (txts l ++ R).drop (j + 1)) := by
          show _ = _
          have := congrArg (fun z : List Value => z.drop 1) HCD.out
          simp only [List.drop_drop] at this
          exact this
        have HXB := Lib.hid (show Value.string (byt x) = Value.string (byt x) from rfl)
        obtain ⟨X, hX⟩ : ∃ X, byt x = X := ⟨_, rfl⟩
        rw [hX] at hcx hcall0
        have HX := Lib.hid hX
        clear hX HXB
        cases hq : q x with
        | true =>
          rw [hq] at hcall0 hft
          have hcall := Lib.hid hcall0
          clear hcall0
          go_wp2_with (fail)
          refine hcall.out.mono ?_
          rintro e w8 ⟨rfl, hb8⟩
          subst hb8
          go_wp2
          go_roundg (l.length - (j + 1))
          case measure => omega
          case rel =>
            have hf : (l.take (j + 1)).filter (fun x => !q x) = (l.take j).filter (fun x => !q x) := by rw [hft.out]; simp
            exact ⟨i, j + 1, cur, by omega, by omega, by omega, rfl, by go_num, by show _ = _; rw [hf]; exact HIL.out, HCL.out, by show _ = _; rw [hf]; exact HCT.out, hcd2.out, HBX.out, HUW.out⟩
        | false =>
          rw [hq] at hcall0 hft
          have hcall := Lib.hid hcall0
          clear hcall0
          have hic : i < cur.length := by rw [HCL.out]; omega
          have hci : wr.cell? ⟨g0, i, none⟩ = some (cur[i]'hic) := by rw [HBX.out.cell, List.getElem?_toArray, List.getElem?_eq_getElem hic]
          have hzi : wr.frozen? ⟨g0, i, none⟩ = false := HBX.out.frozen i
          obtain ⟨old, hold⟩ : ∃ old, cur[i]'hic = old := ⟨_, rfl⟩
          rw [hold] at hci
          have HIC := Lib.hid hic
          clear hold hic
          go_wp2_with (fail)
          refine hcall.out.mono ?_
          rintro e w8 ⟨rfl, hb8⟩
          subst hb8
          go_wp2
          go_roundg (l.length - (j + 1))
          case measure => omega
          case rel =>
            have hf : (l.take (j + 1)).filter (fun x => !q x) = (l.take j).filter (fun x => !q x) ++ [x] := by rw [hft.out]; simp
            have hF := HIC.out
            refine ⟨i + 1, j + 1, cur.set i (.string X), by omega, by omega, by omega, by go_num, by go_num, ?_, ?_, ?_, ?_, ?_, HUW.out.set (.inl rfl) _⟩
            · show _ = _; rw [hf, List.length_append, ← HIL.out]; rfl
            · show _ = _; rw [List.length_set]; exact HCL.out
            · show _ = _
              rw [set_take _ _ _ hF, HCT.out, hf, txts_cat, HX.out.symm]; rfl
            · show _ = _
              rw [List.drop_set_of_lt (by omega)]
              exact hcd2.out
            · have := HBX.out.set i (.string X)
              show Box _ _ _ _
              rw [List.setIfInBounds_toArray] at this
              exact this
      · have hlt2 : decide ((j : Int) < (l.length : Int)) = false := by simp; omega
        have hja : l.take j = l := List.take_of_length_le (by omega)
        rw [hja] at HIL HCT
        have hil := HIL.out
        obtain ⟨wi, rfl⟩ : ∃ wi : World, wi = wr := ⟨_, rfl⟩
        obtain ⟨m, hm⟩ : ∃ m, l.length = i + (m + 1) := ⟨l.length - i - 1, by omega⟩
        have hfit : i + (m + 1) * (Value.string ByteArray.empty).cells.size ≤ cur.length := by rw [HCL.out]; show i + (m + 1) * 1 ≤ _; omega
        have HFIT := Lib.hid hfit
        have HM := Lib.hid hm
        have HIL2 := Lib.hid hil
        have hi1 : (i : Int) ≤ (l.length : Int) := by omega
        have hi2 : i ≤ cap := by omega
        have hi3 : i ≤ l.length := by omega
        have hi4 : ¬ cap = i := by omega
        have hi5 : (i == cap) = false := by rw [beq_eq_false_iff_ne]; omega
        clear hja hfit hm hil hlt2 HIL
        go_wp2_with (refine wpList_clear_some rfl (.tmp 38) 33 rfl 9 _ Tryz.underlying33 zero_txt (by intro u hu; simp [Value.cells] at hu; subst hu; rfl) g0 i m (cap - i) (l.length - i) rfl (by have := HM.out; omega) cur 9 HBX.out HFIT.out ?_; intro w9 Z hZ hb9 hu9 hz9)
        go_ret
        have h8 : Z.length = (m + 1) * 1 := hZ
        have hF : i + (m + 1) * 1 ≤ cur.length := HFIT.out
        have hI := HIL2.out
        rw [← hI]
        refine ⟨_, rfl, box_own hbase hb9.out (by omega) hcap2 ?_ ?_ ?_, rfl, HUW.out.trans hu9⟩
        · rw [splice_size _ _ _ (by rw [h8]; exact hF)]; rw [HCL.out, Nat.mul_one]
        · rw [Nat.mul_one, splice_low _ _ _ _ (Nat.le_refl _) (by omega)]; exact HCT.out
        · rw [txts_len, hI, Nat.mul_one]
end Go.Proofs.YtdolmjeiakdfhaaGreatDoor

namespace Go.Proofs.YtdolmjeiakdfhaaGreatDoor
set_option linter.unusedSimpArgs false
set_option linter.unusedVariables false
open Go.RowKit

/-- texts as elements of a map. -/
def textV (s : List UInt8) : Value := .agg #[.string (byt s)]
def textR (v : Value) : Option (DataW Unit × List MemPlace) := match v with
  | .agg cs => match cs.toList with
    | [.string s] => some (.lit (.string s.data.toList), [])
    | _ => none
  | _ => none
theorem textR_inv (v : Value) (x : List UInt8) (ps : List MemPlace) (h : textR v = some (.lit (.string x), ps)) : v = textV x := by
  unfold textR at h
  split at h
  · rename_i cs
    split at h
    · rename_i s hs
      injection h with h
      injection h with h _
      injection h with h
      injection h with h
      subst h
      have e1 : byt s.data.toList = s := by cases s; simp [byt]
      unfold textV
      rw [e1]
      congr 1
      apply Array.ext'
      simpa using hs
    · cases h
  · cases h
def textRdr : Rdr (List UInt8) := ⟨textV, textR, fun s => .lit (.string s), fun s => rfl, textR_inv⟩
/-- a drawer in memory: its block, its map, its row of keys. -/
structure Rc where
  g : Nat
  m : Nat
  n : Nat
  v : Value
  d : Story.D
def dcells (r : Rc) : Array Value := #[r.v, .map (some r.m), .int .i64 r.d.bytes]
structure DrAt (w : World) (B : Nat) (r : Rc) : Prop where
  box : Box w r.g 59 (dcells r)
  own : w.ownsRow B 9 1 r.v r.d.keys.length (txts r.d.keys)
  map : MapF textRdr w r.m r.n r.d.f
  lg : B ≤ r.g
  lm : B ≤ r.m
/-- nothing has turned but some blocks. -/
structure UpdS (w w' : World) (S : Nat → Prop) : Prop where
  os : w'.os = w.os
  tape : w'.tape = w.tape
  output : w'.output = w.output
  size : w.heap.size ≤ w'.heap.size
  block : ∀ i, i < w.heap.size → ¬ S i → w'.heap[i]? = w.heap[i]?
def Rc.S (r : Rc) (i : Nat) : Prop := i = r.g ∨ i = r.m ∨ r.v.ownBlock = some i
section
variable {w w1 w2 : World} {S : Nat → Prop}
theorem UpdS.refl (w : World) (S : Nat → Prop) : UpdS w w S := ⟨rfl, rfl, rfl, Nat.le_refl _, fun _ _ _ => rfl⟩
theorem UpdS.below (h : UpdS w w1 S) (k : Below w1.heap.size w1 w2) : UpdS w w2 S := ⟨k.os.trans h.os, k.tape.trans h.tape, k.output.trans h.output, Nat.le_trans h.size k.size, fun i hi hn => (k.block i (Nat.lt_of_lt_of_le hi h.size)).trans (h.block i hi hn)⟩
theorem UpdS.upd {g : Nat} (h : UpdS w w1 S) (k : Upd w1 w2 g) (hg : S g ∨ w.heap.size ≤ g) : UpdS w w2 S := ⟨k.os.trans h.os, k.tape.trans h.tape, k.output.trans h.output, Nat.le_trans h.size k.size, fun i hi hn => (k.block i (Nat.lt_of_lt_of_le hi h.size) (fun e => by
  injection e with e
  subst e
  rcases hg with hg | hg
  · exact hn hg
  · omega)).trans (h.block i hi hn)⟩
theorem UpdS.grown {row : Option Nat} (h : UpdS w w1 S) (k : w1.grownBy w2 row) (hg : ∀ g, row = some g → S g ∨ w.heap.size ≤ g) : UpdS w w2 S := ⟨k.os.trans h.os, k.tape.trans h.tape, k.output.trans h.output, Nat.le_trans h.size k.size, fun i hi hn => (k.block i (Nat.lt_of_lt_of_le hi h.size) (fun e => by
  rcases hg i e.symm with hg | hg
  · exact hn hg
  · omega)).trans (h.block i hi hn)⟩
end
theorem drawer_ne_string : 59 ≠ 9 := by decide
theorem text_ne_string : 84 ≠ 9 := by decide
/-- a box of another type is not the row's block. -/
theorem own_box_ne {w : World} {base g n : Nat} {e t : TypeId} {v : Value} {xs : List Value} {cs : Array Value} (h : w.ownsRow base e 1 v n xs) (hb : Box w g t cs) (hne : t ≠ e) : v.ownBlock ≠ some g := by
  rcases h.2 with ⟨rfl, _⟩ | ⟨g', cap, cur, rfl, _, hg, _⟩
  · simp [Value.ownBlock]
  · intro e2
    simp only [Value.ownBlock, Option.some.injEq] at e2
    subst e2
    have h1 : w.heap[g']? = some (.cells cs t (0, 0)) := hb
    rw [h1] at hg
    injection hg with hg
    injection hg with _ hg _
    exact hne hg
theorem map_box_ne {α : Type} {r : Rdr α} {w : World} {b n g : Nat} {f : List UInt8 → Option α} {t : TypeId} {cs : Array Value} (h : MapF r w b n f) (hb : Box w g t cs) : b ≠ g := by
  obtain ⟨D, ⟨es, c, h0, _⟩, _⟩ := h
  rintro rfl
  have h1 : w.heap[b]? = some (.cells cs t (0, 0)) := hb
  rw [h1] at h0; cases h0
theorem map_own_ne {α : Type} {r : Rdr α} {w : World} {b n k base : Nat} {f : List UInt8 → Option α} {e : TypeId} {v : Value} {xs : List Value} (h : MapF r w b n f) (ho : w.ownsRow base e 1 v k xs) : v.ownBlock ≠ some b := by
  obtain ⟨D, ⟨es, c, h0, _⟩, _⟩ := h
  rcases ho.2 with ⟨rfl, _⟩ | ⟨g', cap, cur, rfl, _, hg, _⟩
  · simp [Value.ownBlock]
  · intro e2
    simp only [Value.ownBlock, Option.some.injEq] at e2
    subst e2
    rw [h0] at hg; cases hg
/-- an answer in memory. -/
def acells (a : Story.Ans) (kv : Value) : Array Value := #[.int .i64 (a.err : Int), .string (byt a.text), .bool a.is, kv]
/-- what an op on a drawer leaves. -/
def OpOut (B : Nat) (r : Rc) (res : Story.Ans × Story.D) (w : World) (e : Ending) (w' : World) : Prop :=
  ∃ (r' : Rc) (kv : Value), r'.g = r.g ∧ r'.m = r.m ∧ r'.d = res.2 ∧ r'.n ≤ r.n + 1 ∧ e = .returned (.agg (acells res.1 kv)) ∧ w'.ownsRow w.heap.size 9 1 kv res.1.keys.length (txts res.1.keys) ∧
    DrAt w' B r' ∧ UpdS w w' r.S ∧ (∀ x, r'.v.ownBlock = some x → r.v.ownBlock = some x ∨ w.heap.size ≤ x) ∧ Apart kv r'.v
theorem nil_own (w : World) (B : Nat) (e : TypeId) : w.ownsRow B e 1 (.slice none 0 0) 0 [] := ⟨rfl, .inl ⟨rfl, rfl⟩⟩
theorem info_ans : (Tryz.prog.info? 35).map (·.size) = some 4 := by kernel_rfl
theorem ans_one (a : Int) (s : ByteArray) (b : Bool) (g : Option Addr) (n c : Nat) : (#[.int .i64 a, .string s, .bool b, .slice g n c] : Array Value).all (·.oneCell') = true := by simp [Value.oneCell']
theorem zero_text (w : World) : (zeroValue 84).run Tryz.prog w = .ok (textV []) w := by kernel_rfl
theorem under_texts : Tryz.prog.underlying 57 = some (.map 9 84) := Tryz.underlying57
end Go.Proofs.YtdolmjeiakdfhaaGreatDoor

namespace Go.Proofs.YtdolmjeiakdfhaaGreatDoor
set_option linter.unusedSimpArgs false
set_option linter.unusedVariables false
open Go.RowKit

theorem put_err {d : Story.D} {k v : List UInt8} (h : 400 < d.bytes + Story.more d k v) : Story.put d k v = (⟨2, [], false, []⟩, d) := by unfold Story.put; rw [if_pos h]
theorem put_ok {d : Story.D} {k v : List UInt8} {was : List UInt8} {is : Bool} {mo : Int} (h : ¬ 400 < d.bytes + Story.more d k v) (h1 : (d.f k).getD [] = was) (h2 : (d.f k).isSome = is) (h3 : Story.more d k v = mo) : Story.put d k v = (⟨0, was, is, []⟩, ⟨if is then d.keys else d.keys ++ [k], Story.setF d.f k (some v), d.bytes + mo⟩) := by subst h1; subst h2; subst h3; unfold Story.put; rw [if_neg h]
theorem putF_set (f : List UInt8 → Option (List UInt8)) (k : List UInt8) (v : Option (List UInt8)) : putF f k v = Story.setF f k v := rfl
theorem ans_ne_string : 35 ≠ 9 := by decide
theorem own_ne_len {A : Option Addr} {n n' c c' : Nat} {g : Nat} (h : (Value.slice A n c).ownBlock ≠ some g) : (Value.slice A n' c').ownBlock ≠ some g := by cases A <;> exact h
theorem own_lt_ne {w : World} {base : Nat} {e : TypeId} {k n : Nat} {v : Value} {xs : List Value} (h : w.ownsRow base e k v n xs) : v.ownBlock ≠ some w.heap.size := fun e => by have := (h.lt _ e).2; omega
theorem own_upd {w w1 : World} {base : Nat} {e : TypeId} {k n g : Nat} {v : Value} {xs : List Value} (h : w.ownsRow base e k v n xs) (hu : Upd w w1 g) (hne : v.ownBlock ≠ some g) : w1.ownsRow base e k v n xs := own_grown h hu (.inr hne)
theorem own_upd3 {w w1 w2 w3 : World} {base : Nat} {e : TypeId} {k n a b c : Nat} {v : Value} {xs : List Value} (h : w.ownsRow base e k v n xs) (h1 : Upd w w1 a) (h2 : Upd w1 w2 b) (h3 : Upd w2 w3 c) (n1 : v.ownBlock ≠ some a) (n2 : v.ownBlock ≠ some b) (n3 : v.ownBlock ≠ some c) : w3.ownsRow base e k v n xs := own_upd (own_upd (own_upd h h1 n1) h2 n2) h3 n3
set_option maxRecDepth 100000 in
set_option maxHeartbeats 8000000 in
theorem put_any (B : Nat) (r : Rc) (k v : List UInt8) (w : World) (h : DrAt w B r) (hi : Story.Inv r.d) (hk : k.length ≤ 140737488355328) (hv : v.length ≤ 140737488355328) (hn : r.n ≤ 1000) (hkl : r.d.keys.length ≤ 1000) (hB : B ≤ w.heap.size) :
    Calls Tryz.prog 39 #[.pointer (some ⟨r.g, 0, none⟩), .string (byt k), .string (byt v)] w (OpOut B r (Story.put r.d k v) w) := by
  obtain ⟨i0, hi0, hi1, hi2, hi3⟩ := info_parts txt_info
  obtain ⟨g, m, n, kv, d⟩ := r
  have HI := Lib.hid hi
  have hbox := h.box
  have hown := h.own
  have hmap := h.map
  have hlg := h.lg
  have hlm := h.lm
  simp only at hbox hown hmap hlg hlm hi hn hkl
  obtain ⟨A, cap, rfl⟩ := own_slice hown
  have hng : m ≠ g := map_box_ne hmap hbox
  have hgl := hbox.lt
  have hml := hmap.lt
  have HBX : Hid (Box w g 59 #[.slice A d.keys.length cap, .map (some m), .int .i64 d.bytes]) := Lib.hid hbox
  have HO := Lib.hid hown
  have HM := Lib.hid hmap
  have HOG := Lib.hid (own_box_ne hown hbox drawer_ne_string)
  have HOM := Lib.hid (map_own_ne hmap hown)
  have HLK : Hid (∀ w1, MapF textRdr w1 m n d.f → (Instr.lookup 57 (.map (some m)) (.string (byt k)) true).run Tryz.prog w1 = .ok (.tuple #[textV ((d.f k).getD []), .bool (d.f k).isSome]) w1) := Lib.hid (fun w1 h1 => h1.look_ok under_texts (zero_text w1) k (by unfold maxLen; omega))
  have hwas := HI.out.was k
  have hb0 := HI.out.zero
  have hb1 := HI.out.few
  obtain ⟨was, hws⟩ : ∃ was, (d.f k).getD [] = was := ⟨_, rfl⟩
  obtain ⟨is, his⟩ : ∃ is, (d.f k).isSome = is := ⟨_, rfl⟩
  have HMO : Hid (Story.more d k v = (v.length : Int) - (was.length : Int) + (if is then 0 else (k.length : Int))) := Lib.hid (by unfold Story.more; rw [hws, his])
  rw [hws, his] at HLK
  rw [hws] at hwas
  have HWS := Lib.hid (And.intro hws his)
  obtain ⟨kl, hkl2⟩ : ∃ n, d.keys.length = n := ⟨_, rfl⟩
  have HKL := Lib.hid hkl2
  obtain ⟨bb, hbb⟩ : ∃ x, d.bytes = x := ⟨_, rfl⟩
  have HBB := Lib.hid hbb
  rw [hkl2, hbb] at HBX
  rw [hkl2] at HO hkl
  rw [hbb] at hb0 hb1
  have sk := byt_size k
  have sv := byt_size v
  have sw := byt_size was
  obtain ⟨K, hK⟩ : ∃ K, byt k = K := ⟨_, rfl⟩
  obtain ⟨V, hV⟩ : ∃ K, byt v = K := ⟨_, rfl⟩
  obtain ⟨WA, hWA⟩ : ∃ K, byt was = K := ⟨_, rfl⟩
  unfold textV at HLK
  rw [hK, hWA] at HLK
  rw [hK] at sk
  rw [hV] at sv
  rw [hWA] at sw
  have HKK := Lib.hid hK
  have HVV := Lib.hid hV
  have HWW := Lib.hid hWA
  rw [hK, hV]
  have b1 : K.size ≤ 140737488355328 := by omega
  have b2 : V.size ≤ 140737488355328 := by omega
  have b3 : WA.size ≤ 400 := by omega
  have HMZ : Hid (Story.more d k v = (V.size : Int) - (WA.size : Int) + (if is then 0 else (K.size : Int))) := Lib.hid (by rw [HMO.out, sk, sv, sw])
  have w1 : IntKind.i64.wrap ((V.size : Int) - (WA.size : Int)) = (V.size : Int) - (WA.size : Int) := by rw [IntKind.wrap_i64]; omega
  have w2 : IntKind.i64.wrap ((V.size : Int) - (WA.size : Int) + (K.size : Int)) = (V.size : Int) - (WA.size : Int) + (K.size : Int) := by rw [IntKind.wrap_i64]; omega
  have w3 : IntKind.i64.wrap (bb + ((V.size : Int) - (WA.size : Int))) = bb + ((V.size : Int) - (WA.size : Int)) := by rw [IntKind.wrap_i64]; omega
  have w4 : IntKind.i64.wrap (bb + ((V.size : Int) - (WA.size : Int) + (K.size : Int))) = bb + ((V.size : Int) - (WA.size : Int) + (K.size : Int)) := by rw [IntKind.wrap_i64]; omega
  -- the first world
  have hbR : Box (w.alloc (.cells #[.int .i64 0, .string ⟨#[]⟩, .bool false, .slice none 0 0] 35)) w.heap.size 35 #[.int .i64 0, .string ⟨#[]⟩, .bool false, .slice none 0 0] := Box.new w _ _
  obtain ⟨wA, hwA⟩ : ∃ wA, w.alloc (.cells #[.int .i64 0, .string ⟨#[]⟩, .bool false, .slice none 0 0] 35) = wA := ⟨_, rfl⟩
  have hbel : Below w.heap.size w wA := by rw [← hwA]; exact below1 w _
  rw [hwA] at hbR
  have hlk := HLK.out wA (HM.out.below hbel)
  have HWA := Lib.hid hwA
  have HBA := Lib.hid hbel
  have HRA := Lib.hid hbR
  have hbA := HBX.out.below hbel hgl
  have x0 : wA.cell? ⟨g, 0, none⟩ = some (.slice A kl cap) := hbA.cell 0
  have x1 : wA.cell? ⟨g, 1, none⟩ = some (.map (some m)) := hbA.cell 1
  have x2 : wA.cell? ⟨g, 2, none⟩ = some (.int .i64 bb) := hbA.cell 2
  have hzA : wA.heap.size = w.heap.size + 1 := by rw [← hwA]; simp
  have HZA := Lib.hid hzA
  clear h hbox hown hmap hi hws his hkl2 hbb sk sv sw hK hV hWA hwA hbel hbR hbA hzA hwas
  go_enter Tryz.func39, Tryz.ntmps39
  go_upto_region 1 with (fail)
  rw [show w.alloc (.cells #[.int .i64 0, .string ⟨#[]⟩, .bool false, .slice none 0 0] 35) = wA from HWA.out]
  go_upto_region 3 with (fail)
  obtain ⟨wB, hwB⟩ : ∃ wB, wA.alloc (.cells #[.string WA] 84) = wB := ⟨_, rfl⟩
  rw [hwB]
  have hbB : Below w.heap.size w wB := by rw [← hwB]; exact HBA.out.alloc (by have := HZA.out; omega) _
  have HBW := Lib.hid hbB
  have HRB : Hid (Box wB w.heap.size 35 #[.int .i64 0, .string ⟨#[]⟩, .bool false, .slice none 0 0]) := Lib.hid (by rw [← hwB]; exact HRA.out.alloc _)
  have hbXB := HBX.out.below hbB hgl
  have y0 : wB.cell? ⟨g, 0, none⟩ = some (.slice A kl cap) := hbXB.cell 0
  have y1 : wB.cell? ⟨g, 1, none⟩ = some (.map (some m)) := hbXB.cell 1
  have y2 : wB.cell? ⟨g, 2, none⟩ = some (.int .i64 bb) := hbXB.cell 2
  have u0 : wB.frozen? ⟨g, 0, none⟩ = false := hbXB.frozen 0
  have u2 : wB.frozen? ⟨g, 2, none⟩ = false := hbXB.frozen 2
  have HBXB := Lib.hid hbXB
  have HMB : Hid (MapF textRdr wB m n d.f) := Lib.hid (HM.out.below hbB)
  have HOB := Lib.hid (own_below HO.out hbB)
  have HNG := Lib.hid hng
  have hzB : w.heap.size ≤ wB.heap.size := hbB.size
  have hRg : w.heap.size ≠ g := by omega
  have hRm : w.heap.size ≠ m := by omega
  have HOG2 : Hid ((Value.slice A kl cap).ownBlock ≠ some g) := Lib.hid (own_ne_len HOG.out)
  have HOM2 : Hid ((Value.slice A kl cap).ownBlock ≠ some m) := Lib.hid (own_ne_len HOM.out)
  have HOR : Hid ((Value.slice A kl cap).ownBlock ≠ some w.heap.size) := Lib.hid (own_lt_ne HO.out)
  clear hwB hbB hbXB x0 x1 x2 hlk HLK HRA HBA HWA HZA
  cases is with
  | true =>
    have HMV : Hid (Story.more d k v = ((V.size : Int) - (WA.size : Int))) := Lib.hid (by rw [HMZ.out]; simp)
    by_cases hbig : 400 < bb + ((V.size : Int) - (WA.size : Int))
    · have d1 : decide (bb + ((V.size : Int) - (WA.size : Int)) > 400) = true := decide_eq_true hbig
      have HP : Hid (Story.put d k v = (⟨2, [], false, []⟩, d)) := Lib.hid (put_err (by rw [HMV.out, HBB.out]; exact hbig))
      go_wp2_with (refine wpList_store_box rfl 35 (.tmp 6) (.tmp 40) rfl w.heap.size #[.int .i64 2, .string ⟨#[]⟩, .bool false, .slice none 0 0] rfl rfl 35 _ HRB.out info_ans rfl (ans_one _ _ _ _ _ _) ?_; intro wz hxz huz hzz; have HZZ := Lib.hid hzz; clear hzz)
      refine bodyPost_ret (results_box rfl _ _ w.heap.size 35 _ _ rfl hxz Tryz.underlying35 rfl info_ans) rfl ?_
      have hbz : Below w.heap.size w wz := HBW.out.trans (huz.own (Nat.le_refl _) (by have := HBW.out.size; omega))
      rw [HP.out]
      refine ⟨⟨g, m, n, .slice A kl cap, d⟩, .slice none 0 0, rfl, rfl, rfl, by simp only; omega, rfl, nil_own _ _ _, ⟨?_, ?_, ?_, hlg, hlm⟩, (UpdS.refl _ _).below hbz, fun x hx => .inl (by cases A <;> exact hx), Apart.nil _ _ _⟩
      · have := HBX.out.below hbz hgl
        rw [← HBB.out] at this
        exact this
      · have := own_below HO.out hbz
        simp only
        rw [HKL.out]; exact this
      · exact HM.out.below hbz
    · have d1 : decide (bb + ((V.size : Int) - (WA.size : Int)) > 400) = false := decide_eq_false hbig
      have d2 : bb + ((V.size : Int) - (WA.size : Int)) ≤ 400 := by omega
      have HP := Lib.hid (put_ok (by rw [HMV.out, HBB.out]; exact hbig) HWS.out.1 HWS.out.2 HMV.out)
      clear hbig
      have HBXD : Hid (Box wB g 59 #[.slice A kl cap, .map (some m), .int .i64 bb]) := Lib.hid HBXB.out
      go_upto_region 11 with (at_mapUpdate; refine wpList_mapf_store rfl (.tmp 56) (.tmp 57) (.tmp 59) 57 rfl 84 under_texts HMB.out rfl (by unfold maxLen; omega) k (by unfold maxLen; omega) (congrArg Value.string HKK.out.symm) v (congrArg (fun z => Value.agg #[.string z]) HVV.out.symm) ?_; intro wC hmC huC hzC; have HZC := Lib.hid hzC; clear hzC)
      have HMC := Lib.hid hmC
      have HBXC := Lib.hid (box_upd HBXD.out huC HNG.out.symm)
      have HRC := Lib.hid (box_upd HRB.out huC hRm)
      have HUC := Lib.hid huC
      have z2 : wC.cell? ⟨g, 2, none⟩ = some (.int .i64 bb) := HBXC.out.cell 2
      have q2 : wC.frozen? ⟨g, 2, none⟩ = false := HBXC.out.frozen 2
      clear hmC huC HZC
      go_upto_region 12 with (fail)
      obtain ⟨wD, hwD⟩ : ∃ wD, wC.setCell ⟨g, 2, none⟩ (.int .i64 (bb + ((V.size : Int) - (WA.size : Int)))) = wD := ⟨_, rfl⟩
      rw [hwD]
      have HBXE : Hid (Box wD g 59 #[.slice A kl cap, .map (some m), .int .i64 (bb + ((V.size : Int) - (WA.size : Int)))]) := Lib.hid (by rw [← hwD]; exact HBXC.out.set 2 _)
      have HRD : Hid (Box wD w.heap.size 35 #[.int .i64 0, .string ⟨#[]⟩, .bool false, .slice none 0 0]) := Lib.hid (by rw [← hwD]; exact HRC.out.far hRg _)
      have HMD : Hid (MapF textRdr wD m (n + 1) (putF d.f k (some v))) := Lib.hid (by rw [← hwD]; exact HMC.out.upd (Upd.refl wC g |>.set (.inl rfl) _) HNG.out)
      have HUD : Hid (Upd wC wD g) := Lib.hid (by rw [← hwD]; exact (Upd.refl wC g).set (.inl rfl) _)
      clear hwD z2 q2 HBXC HRC HMC
      go_wp2_with (refine wpList_store_box rfl 35 (.tmp 6) (.tmp 70) rfl w.heap.size #[.int .i64 0, .string WA, .bool true, .slice none 0 0] rfl rfl 35 _ HRD.out info_ans rfl (ans_one _ _ _ _ _ _) ?_; intro wz hxz huz hzz; have HZZ := Lib.hid hzz; clear hzz)
      refine bodyPost_ret (results_box rfl _ _ w.heap.size 35 _ _ rfl hxz Tryz.underlying35 rfl info_ans) rfl ?_
      rw [HP.out]
      have hUS : UpdS w wz (fun i => i = g ∨ i = m ∨ (Value.slice A d.keys.length cap).ownBlock = some i) := (((((UpdS.refl w _).below HBW.out).upd HUC.out (.inl (.inr (.inl rfl)))).upd HUD.out (.inl (.inl rfl)))).upd huz (.inr (Nat.le_refl _))
      refine ⟨⟨g, m, n + 1, .slice A kl cap, ⟨d.keys, Story.setF d.f k (some v), d.bytes + ((V.size : Int) - (WA.size : Int))⟩⟩, .slice none 0 0, rfl, rfl, rfl, Nat.le_refl _, by rw [← HWW.out]; rfl, nil_own _ _ _, ⟨?_, ?_, ?_, hlg, hlm⟩, hUS, fun x hx => .inl (by cases A <;> exact hx), Apart.nil _ _ _⟩
      · have := box_upd HBXE.out huz hRg.symm
        rw [← HBB.out] at this
        exact this
      · have := own_upd3 HOB.out HUC.out HUD.out huz (own_ne_len HOM.out) (own_ne_len HOG.out) (own_lt_ne HO.out)
        simp only
        rw [HKL.out]; exact this
      · exact HMD.out.upd huz hRm.symm
  | false =>
    have HMV : Hid (Story.more d k v = ((V.size : Int) - (WA.size : Int) + (K.size : Int))) := Lib.hid (by rw [HMZ.out]; simp)
    by_cases hbig : 400 < bb + ((V.size : Int) - (WA.size : Int) + (K.size : Int))
    · have d1 : decide (bb + ((V.size : Int) - (WA.size : Int) + (K.size : Int)) > 400) = true := decide_eq_true hbig
      have HP : Hid (Story.put d k v = (⟨2, [], false, []⟩, d)) := Lib.hid (put_err (by rw [HMV.out, HBB.out]; exact hbig))
      go_wp2_with (refine wpList_store_box rfl 35 (.tmp 6) (.tmp 40) rfl w.heap.size #[.int .i64 2, .string ⟨#[]⟩, .bool false, .slice none 0 0] rfl rfl 35 _ HRB.out info_ans rfl (ans_one _ _ _ _ _ _) ?_; intro wz hxz huz hzz; have HZZ := Lib.hid hzz; clear hzz)
      refine bodyPost_ret (results_box rfl _ _ w.heap.size 35 _ _ rfl hxz Tryz.underlying35 rfl info_ans) rfl ?_
      have hbz : Below w.heap.size w wz := HBW.out.trans (huz.own (Nat.le_refl _) (by have := HBW.out.size; omega))
      rw [HP.out]
      refine ⟨⟨g, m, n, .slice A kl cap, d⟩, .slice none 0 0, rfl, rfl, rfl, by simp only; omega, rfl, nil_own _ _ _, ⟨?_, ?_, ?_, hlg, hlm⟩, (UpdS.refl _ _).below hbz, fun x hx => .inl (by cases A <;> exact hx), Apart.nil _ _ _⟩
      · have := HBX.out.below hbz hgl
        rw [← HBB.out] at this
        exact this
      · have := own_below HO.out hbz
        simp only
        rw [HKL.out]; exact this
      · exact HM.out.below hbz
    · have d1 : decide (bb + ((V.size : Int) - (WA.size : Int) + (K.size : Int)) > 400) = false := decide_eq_false hbig
      have d2 : bb + ((V.size : Int) - (WA.size : Int) + (K.size : Int)) ≤ 400 := by omega
      have HP := Lib.hid (put_ok (by rw [HMV.out, HBB.out]; exact hbig) HWS.out.1 HWS.out.2 HMV.out)
      clear hbig
      have hapx := HOB.out.alloc (.cells #[.string K] 9)
      have HAL := Lib.hid hapx
      go_upto_region 10 with (at_builtin; refine wpList_append_own_at _ rfl (.tmp 47) (.tmp 49) 33 rfl B 9 i0 (.string ByteArray.empty) 1 16 Tryz.underlying33 hi0 hi1 hi2 hi3 rfl (by decide) (.slice A kl cap) kl (txts d.keys) rfl HAL.out ⟨wB.heap.size, 0, none⟩ 1 1 [.string K] rfl rfl (one_new _ _ _ _ rfl) (one_text _) (by unfold maxLen; omega) (by omega) (by simp; omega) ?_; intro v' w3 hown' hgrow hnil hat; obtain ⟨A3, cap3, rfl⟩ := own_slice hown'; have t0 : w3.cell? ⟨g, 0, none⟩ = some (.slice A kl cap) := (((HBXB.out.alloc _).grown hgrow (fun e => HOG2.out e.symm)).cell 0); have t1 : w3.frozen? ⟨g, 0, none⟩ = false := (((HBXB.out.alloc _).grown hgrow (fun e => HOG2.out e.symm)).frozen 0))
      have HOW := Lib.hid hown'
      have HBX3 : Hid (Box w3 g 59 #[.slice A kl cap, .map (some m), .int .i64 bb]) := Lib.hid ((HBXB.out.alloc _).grown hgrow (fun e => HOG2.out e.symm))
      have HRX3 : Hid (Box w3 w.heap.size 35 #[.int .i64 0, .string ⟨#[]⟩, .bool false, .slice none 0 0]) := Lib.hid ((HRB.out.alloc _).grown hgrow (fun e => HOR.out e.symm))
      have HMX3 : Hid (MapF textRdr w3 m n d.f) := Lib.hid ((HMB.out.below (below1 wB _)).kept hgrow (fun e => HOM2.out e.symm))
      have HGR := Lib.hid hgrow
      have HAT := Lib.hid hat
      have hz3 : w.heap.size ≤ w3.heap.size := by have := hgrow.size; simp at this; omega
      clear hown' hgrow hnil hat hapx t0 t1
      obtain ⟨w4, hw4⟩ : ∃ w4, w3.setCell ⟨g, 0, none⟩ (.slice A3 (kl + 1) cap3) = w4 := ⟨_, rfl⟩
      rw [hw4]
      have HBX4 : Hid (Box w4 g 59 #[.slice A3 (kl + 1) cap3, .map (some m), .int .i64 bb]) := Lib.hid (by rw [← hw4]; exact HBX3.out.set 0 _)
      have HRX4 : Hid (Box w4 w.heap.size 35 #[.int .i64 0, .string ⟨#[]⟩, .bool false, .slice none 0 0]) := Lib.hid (by rw [← hw4]; exact HRX3.out.far hRg _)
      have HMX4 : Hid (MapF textRdr w4 m n d.f) := Lib.hid (by rw [← hw4]; exact HMX3.out.upd ((Upd.refl w3 g).set (.inl rfl) _) HNG.out)
      have HU4 : Hid (Upd w3 w4 g) := Lib.hid (by rw [← hw4]; exact (Upd.refl w3 g).set (.inl rfl) _)
      have n1x := own_box_ne HOW.out HBX3.out drawer_ne_string
      have n2x := map_own_ne HMX3.out HOW.out
      have n3x := own_box_ne HOW.out HRX3.out ans_ne_string
      have HNX := Lib.hid (And.intro n1x (And.intro n2x n3x))
      have y1x : w4.cell? ⟨g, 1, none⟩ = some (.map (some m)) := HBX4.out.cell 1
      clear hw4 n1x n2x n3x HBX3 HRX3 HMX3 y0 y1 y2 u0 u2
      have HBXD : Hid (Box w4 g 59 #[.slice A3 (kl + 1) cap3, .map (some m), .int .i64 bb]) := Lib.hid HBX4.out
      go_upto_region 11 with (at_mapUpdate; refine wpList_mapf_store rfl (.tmp 56) (.tmp 57) (.tmp 59) 57 rfl 84 under_texts HMX4.out rfl (by unfold maxLen; omega) k (by unfold maxLen; omega) (congrArg Value.string HKK.out.symm) v (congrArg (fun z => Value.agg #[.string z]) HVV.out.symm) ?_; intro wC hmC huC hzC; have HZC := Lib.hid hzC; clear hzC)
      have HMC := Lib.hid hmC
      have HBXC := Lib.hid (box_upd HBXD.out huC HNG.out.symm)
      have HRC := Lib.hid (box_upd HRX4.out huC hRm)
      have HUC := Lib.hid huC
      have z2 : wC.cell? ⟨g, 2, none⟩ = some (.int .i64 bb) := HBXC.out.cell 2
      have q2 : wC.frozen? ⟨g, 2, none⟩ = false := HBXC.out.frozen 2
      clear hmC huC HZC
      go_upto_region 12 with (fail)
      obtain ⟨wD, hwD⟩ : ∃ wD, wC.setCell ⟨g, 2, none⟩ (.int .i64 (bb + ((V.size : Int) - (WA.size : Int) + (K.size : Int)))) = wD := ⟨_, rfl⟩
      rw [hwD]
      have HBXE : Hid (Box wD g 59 #[.slice A3 (kl + 1) cap3, .map (some m), .int .i64 (bb + ((V.size : Int) - (WA.size : Int) + (K.size : Int)))]) := Lib.hid (by rw [← hwD]; exact HBXC.out.set 2 _)
      have HRD : Hid (Box wD w.heap.size 35 #[.int .i64 0, .string ⟨#[]⟩, .bool false, .slice none 0 0]) := Lib.hid (by rw [← hwD]; exact HRC.out.far hRg _)
      have HMD : Hid (MapF textRdr wD m (n + 1) (putF d.f k (some v))) := Lib.hid (by rw [← hwD]; exact HMC.out.upd (Upd.refl wC g |>.set (.inl rfl) _) HNG.out)
      have HUD : Hid (Upd wC wD g) := Lib.hid (by rw [← hwD]; exact (Upd.refl wC g).set (.inl rfl) _)
      clear hwD z2 q2 HBXC HRC HMC
      go_wp2_with (refine wpList_store_box rfl 35 (.tmp 6) (.tmp 70) rfl w.heap.size #[.int .i64 0, .string WA, .bool false, .slice none 0 0] rfl rfl 35 _ HRD.out info_ans rfl (ans_one _ _ _ _ _ _) ?_; intro wz hxz huz hzz; have HZZ := Lib.hid hzz; clear hzz)
      refine bodyPost_ret (results_box rfl _ _ w.heap.size 35 _ _ rfl hxz Tryz.underlying35 rfl info_ans) rfl ?_
      rw [HP.out]
      have hUS : UpdS w wz (fun i => i = g ∨ i = m ∨ (Value.slice A d.keys.length cap).ownBlock = some i) := ((((((((UpdS.refl w _).below HBW.out).below (below1 wB (.cells #[.string K] 9))).grown HGR.out (fun x hx => .inl (.inr (.inr (by cases A <;> exact hx))))).upd HU4.out (.inl (.inl rfl))).upd HUC.out (.inl (.inr (.inl rfl)))).upd HUD.out (.inl (.inl rfl)))).upd huz (.inr (Nat.le_refl _))
      refine ⟨⟨g, m, n + 1, .slice A3 (kl + 1) cap3, ⟨d.keys ++ [k], Story.setF d.f k (some v), d.bytes + ((V.size : Int) - (WA.size : Int) + (K.size : Int))⟩⟩, .slice none 0 0, rfl, rfl, rfl, Nat.le_refl _, by rw [← HWW.out]; rfl, nil_own _ _ _, ⟨?_, ?_, ?_, hlg, hlm⟩, hUS, ?_, Apart.nil _ _ _⟩
      · have := box_upd HBXE.out huz hRg.symm
        rw [← HBB.out] at this
        exact this
      · have := own_upd3 (own_upd HOW.out HU4.out HNX.out.1) HUC.out HUD.out huz HNX.out.2.1 HNX.out.1 HNX.out.2.2
        simp only
        rw [List.length_append, HKL.out, txts_cat, show txts [k] = [.string K] by rw [← HKK.out]; rfl]; exact this
      · exact HMD.out.upd huz hRm.symm
      · intro x hx
        rcases HAT.out with h1 | h1
        · left
          have h2 : (Value.slice A3 (kl + 1) cap3).ownBlock = some x := hx
          rw [h1] at h2
          cases A <;> exact h2
        · right
          have h2 : (Value.slice A3 (kl + 1) cap3).ownBlock = some x := hx
          rw [h1] at h2
          injection h2 with h2
          have := HBW.out.size
          simp at h2; omega
end Go.Proofs.YtdolmjeiakdfhaaGreatDoor

namespace Go.Proofs.YtdolmjeiakdfhaaGreatDoor
set_option linter.unusedSimpArgs false
set_option linter.unusedVariables false
open Go.RowKit

theorem drop1_any (x k : List UInt8) (b : Nat) (w : World) (hb : w.cell? ⟨b, 0, none⟩ = some (.string (byt k))) :
    Calls Tryz.prog 58 #[.string (byt x), .pointer (some ⟨b, 0, none⟩)] w fun e w' => e = .returned (.bool (decide (x = k))) ∧ w' = w := by
  have e1 : ((byt x).toList == (byt k).toList) = decide (x = k) := by rw [byt_list, byt_list, Bool.eq_iff_iff]; simp
  obtain ⟨X, hX⟩ : ∃ X, byt x = X := ⟨_, rfl⟩
  obtain ⟨K, hK⟩ : ∃ X, byt k = X := ⟨_, rfl⟩
  obtain ⟨q, hq⟩ : ∃ q, decide (x = k) = q := ⟨_, rfl⟩
  rw [hX, hK, hq] at e1
  rw [hK] at hb
  rw [hX, hq]
  clear hX hK hq
  go_enter Tryz.func58, Tryz.ntmps58
  go_wp2
  go_ret
  exact ⟨rfl, rfl⟩
theorem drop1_enters : ∀ args w, (callFunc 58 args).run Tryz.prog w = .ok (.enter 58 args) w := Go.Proofs.enters_of Tryz.func58 (by kernel_rfl) rfl
theorem drop_eq (d : Story.D) (k was : List UInt8) (is : Bool) (h1 : (d.f k).getD [] = was) (h2 : (d.f k).isSome = is) : Story.drop d k = (⟨0, was, is, []⟩, if is then ⟨d.keys.filter (fun x => !decide (x = k)), Story.setF d.f k none, d.bytes - ((k.length : Int) + (was.length : Int))⟩ else d) := by subst h1; subst h2; rfl
set_option maxRecDepth 100000 in
set_option maxHeartbeats 8000000 in
theorem drop_any (B : Nat) (r : Rc) (k : List UInt8) (w : World) (h : DrAt w B r) (hi : Story.Inv r.d) (hk : k.length ≤ 140737488355328) (hn : r.n ≤ 1000) (hkl : r.d.keys.length ≤ 1000) (hB : B ≤ w.heap.size) :
    Calls Tryz.prog 40 #[.pointer (some ⟨r.g, 0, none⟩), .string (byt k)] w (OpOut B r (Story.drop r.d k) w) := by
  obtain ⟨g, m, n, kv, d⟩ := r
  have HI := Lib.hid hi
  have hbox := h.box
  have hown := h.own
  have hmap := h.map
  have hlg := h.lg
  have hlm := h.lm
  simp only at hbox hown hmap hlg hlm hi hn hkl
  obtain ⟨A, cap, rfl⟩ := own_slice hown
  have hng : m ≠ g := map_box_ne hmap hbox
  have hgl := hbox.lt
  have hml := hmap.lt
  have HBX : Hid (Box w g 59 #[.slice A d.keys.length cap, .map (some m), .int .i64 d.bytes]) := Lib.hid hbox
  have HO := Lib.hid hown
  have HM := Lib.hid hmap
  have HOG := Lib.hid (own_box_ne hown hbox drawer_ne_string)
  have HOM := Lib.hid (map_own_ne hmap hown)
  have HLK : Hid (∀ w1, MapF textRdr w1 m n d.f → (Instr.lookup 57 (.map (some m)) (.string (byt k)) true).run Tryz.prog w1 = .ok (.tuple #[textV ((d.f k).getD []), .bool (d.f k).isSome]) w1) := Lib.hid (fun w1 h1 => h1.look_ok under_texts (zero_text w1) k (by unfold maxLen; omega))
  have hwas := HI.out.was k
  have hb0 := HI.out.zero
  have hb1 := HI.out.few
  obtain ⟨was, hws⟩ : ∃ was, (d.f k).getD [] = was := ⟨_, rfl⟩
  obtain ⟨is, his⟩ : ∃ is, (d.f k).isSome = is := ⟨_, rfl⟩
  have HD := Lib.hid (drop_eq d k was is hws his)
  rw [hws, his] at HLK
  rw [hws] at hwas
  obtain ⟨kl, hkl2⟩ : ∃ n, d.keys.length = n := ⟨_, rfl⟩
  have HKL := Lib.hid hkl2
  obtain ⟨bb, hbb⟩ : ∃ x, d.bytes = x := ⟨_, rfl⟩
  have HBB := Lib.hid hbb
  rw [hkl2, hbb] at HBX
  rw [hkl2] at HO hkl
  rw [hbb] at hb0 hb1
  have sk := byt_size k
  have sw := byt_size was
  obtain ⟨K, hK⟩ : ∃ K, byt k = K := ⟨_, rfl⟩
  obtain ⟨WA, hWA⟩ : ∃ K, byt was = K := ⟨_, rfl⟩
  unfold textV at HLK
  rw [hK, hWA] at HLK
  rw [hK] at sk
  rw [hWA] at sw
  have HKK := Lib.hid hK
  have HWW := Lib.hid hWA
  rw [hK]
  have b1 : K.size ≤ 140737488355328 := by omega
  have b3 : WA.size ≤ 400 := by omega
  have HSZ := Lib.hid (And.intro sk sw)
  have w1 : IntKind.i64.wrap ((K.size : Int) + (WA.size : Int)) = (K.size : Int) + (WA.size : Int) := by rw [IntKind.wrap_i64]; omega
  have w2 : IntKind.i64.wrap (bb - ((K.size : Int) + (WA.size : Int))) = bb - ((K.size : Int) + (WA.size : Int)) := by rw [IntKind.wrap_i64]; omega
  obtain ⟨wA, hwA⟩ : ∃ wA, (w.alloc (.cells #[.string K] 9)).alloc (.cells #[.int .i64 0, .string ⟨#[]⟩, .bool false, .slice none 0 0] 35) = wA := ⟨_, rfl⟩
  have hbel : Below w.heap.size w wA := by rw [← hwA]; exact (below1 w _).alloc (by simp) _
  have hzA : wA.heap.size = w.heap.size + 2 := by rw [← hwA]; simp
  have HKB : Hid (Box wA w.heap.size 9 #[.string K]) := Lib.hid (by rw [← hwA]; exact (Box.new w _ _).alloc _)
  have HRB : Hid (Box wA (w.heap.size + 1) 35 #[.int .i64 0, .string ⟨#[]⟩, .bool false, .slice none 0 0]) := Lib.hid (by rw [← hwA]; exact new2 w _ _ _)
  have hmT : MapF textRdr ((wA.alloc (.cells #[.string ⟨#[]⟩] 84)).drew) m n d.f := ((HM.out.below hbel).below (below1 wA _)).block rfl
  have hlk := HLK.out _ hmT
  have xkT : ((wA.alloc (.cells #[.string ⟨#[]⟩] 84)).drew).cell? ⟨w.heap.size, 0, none⟩ = some (.string K) := (HKB.out.alloc _).cell 0
  have x1T : ((wA.alloc (.cells #[.string ⟨#[]⟩] 84)).drew).cell? ⟨g, 1, none⟩ = some (.map (some m)) := ((HBX.out.below hbel hgl).alloc _).cell 1
  have hlkA := HLK.out wA.drew ((HM.out.below hbel).block rfl)
  have x1 : wA.cell? ⟨g, 1, none⟩ = some (.map (some m)) := (HBX.out.below hbel hgl).cell 1
  have xk : wA.cell? ⟨w.heap.size, 0, none⟩ = some (.string K) := HKB.out.cell 0
  have HWA := Lib.hid hwA
  have HBA := Lib.hid hbel
  have HZA := Lib.hid hzA
  have hbA := HBX.out.below hbel hgl
  clear h hbox hown hmap hi hws his hkl2 hbb sk sw hK hWA hwA hbel hbA hzA hwas hmT
  go_enter Tryz.func40, Tryz.ntmps40
  go_upto_region 1 with (fail)
  rw [show (w.alloc (.cells #[.string K] 9)).alloc (.cells #[.int .i64 0, .string ⟨#[]⟩, .bool false, .slice none 0 0] 35) = wA from HWA.out]
  go_region
  all_goals
    obtain ⟨wB, hwB⟩ : ∃ wB, (wA.alloc (.cells #[.string WA] 84)).drew = wB := ⟨_, rfl⟩
    rw [hwB]
    have hAB : Below wA.heap.size wA wB := by rw [← hwB]; exact (below1 wA _).drew
    have hbB : Below w.heap.size w wB := HBA.out.trans (hAB.mono (by have := HZA.out; omega))
    have hTB : Box wB wA.heap.size 84 #[.string WA] := by rw [← hwB]; exact (Box.new wA _ _).drew
    have HKB2 := Lib.hid (HKB.out.below hAB HKB.out.lt)
    have HRB2 := Lib.hid (HRB.out.below hAB HRB.out.lt)
    have HBXB := Lib.hid (HBX.out.below hbB hgl)
    have HMB : Hid (MapF textRdr wB m n d.f) := Lib.hid (HM.out.below hbB)
    have HOB := Lib.hid (own_below HO.out hbB)
    have HBW := Lib.hid hbB
    have HNG := Lib.hid hng
    have hRg : w.heap.size + 1 ≠ g := by omega
    have hRm : w.heap.size + 1 ≠ m := by omega
    have hKm : w.heap.size ≠ m := by omega
    have hKg : w.heap.size ≠ g := by omega
    have HOG2 : Hid ((Value.slice A kl cap).ownBlock ≠ some g) := Lib.hid (own_ne_len HOG.out)
    have HOM2 : Hid ((Value.slice A kl cap).ownBlock ≠ some m) := Lib.hid (own_ne_len HOM.out)
    have HOK : Hid ((Value.slice A kl cap).ownBlock ≠ some w.heap.size) := Lib.hid (own_lt_ne HO.out)
    have HOR : Hid ((Value.slice A kl cap).ownBlock ≠ some (w.heap.size + 1)) := Lib.hid (fun e => by have := (HO.out.lt _ e).2; omega)
    have t0 : wB.cell? ⟨wA.heap.size, 0, none⟩ = some (.string WA) := hTB.cell 0
    have hzB : w.heap.size + 2 ≤ wB.heap.size := by have := hAB.size; have := HZA.out; omega
    clear hwB hAB hbB hTB HKB HRB HBA HWA HZA hlk hlkA xkT x1T x1 xk HLK
    cases is with
    | false =>
      go_wp2_with (refine wpList_store_box rfl 35 (.tmp 4) (.tmp 48) rfl (w.heap.size + 1) #[.int .i64 0, .string WA, .bool false, .slice none 0 0] rfl rfl 35 _ HRB2.out info_ans rfl (ans_one _ _ _ _ _ _) ?_; intro wz hxz huz hzz; have HZZ := Lib.hid hzz; clear hzz)
      refine bodyPost_ret (results_box rfl _ _ (w.heap.size + 1) 35 _ _ rfl hxz Tryz.underlying35 rfl info_ans) rfl ?_
      have hbz : Below w.heap.size w wz := HBW.out.trans (huz.own (by omega) (by omega))
      rw [HD.out]
      refine ⟨⟨g, m, n, .slice A kl cap, d⟩, .slice none 0 0, rfl, rfl, rfl, by simp only; omega, by rw [← HWW.out]; rfl, nil_own _ _ _, ⟨?_, ?_, ?_, hlg, hlm⟩, (UpdS.refl _ _).below hbz, fun x hx => .inl (by cases A <;> exact hx), Apart.nil _ _ _⟩
      · have := HBX.out.below hbz hgl
        rw [← HBB.out] at this
        exact this
      · have := own_below HO.out hbz
        simp only
        rw [HKL.out]; exact this
      · exact HM.out.below hbz
    | true =>
      go_upto_region 4 with (fail)
      have c1 : wB.cell? ⟨g, 1, none⟩ = some (.map (some m)) := HBXB.out.cell 1
      have ck : wB.cell? ⟨w.heap.size, 0, none⟩ = some (.string K) := HKB2.out.cell 0
      refine wp_region_held_drew (S := fun w' => w'.cell? ⟨g, 1, none⟩ = some (.map (some m)) ∧ w'.cell? ⟨w.heap.size, 0, none⟩ = some (.string K)) (by kernel_rfl) ⟨c1, ck⟩ (fun hHeld => ?_)
      refine wpAnyH_take (i := 0) (v := ?_) rfl (by kernel_rfl) (by kernel_rfl) (by kernel_rfl) (fun _ _ _ h => h) (Or.inl ⟨by kernel_rfl, ?_⟩) (by assumption) ?_
      rotate_left
      · intro w hSw
        (try dsimp only at hSw)
        go_simp
        try (with_reducible rfl)
      (try simp only [Act.put, List.getElem_toArray, List.getElem_cons_zero, List.setIfInBounds_toArray, List.set_cons_zero, List.set_cons_succ])
      refine wpAnyH_take (i := 1) (v := ?_) rfl (by kernel_rfl) (by kernel_rfl) (by kernel_rfl) (fun _ _ _ h => h) (Or.inl ⟨by kernel_rfl, ?_⟩) (by assumption) ?_
      rotate_left
      · intro w hSw
        (try dsimp only at hSw)
        go_simp
        try (with_reducible rfl)
      (try simp only [Act.put, List.getElem_toArray, List.getElem_cons_succ, List.getElem_cons_zero, List.setIfInBounds_toArray, List.set_cons_zero, List.set_cons_succ])
      refine wpAnyH_take (i := 2) (v := ?_) rfl (by kernel_rfl) (by kernel_rfl) (by kernel_rfl) (fun _ _ _ h => h) (Or.inl ⟨by kernel_rfl, ?_⟩) (by assumption) ?_
      rotate_left
      · intro w hSw
        (try dsimp only at hSw)
        go_simp
        try (with_reducible rfl)
      (try simp only [Act.put, List.getElem_toArray, List.getElem_cons_succ, List.getElem_cons_zero, List.setIfInBounds_toArray, List.set_cons_zero, List.set_cons_succ])
      refine wpAnyH_take (i := 3) (v := ?_) rfl (by kernel_rfl) (by kernel_rfl) (by kernel_rfl) (fun _ _ _ h => h) (Or.inl ⟨by kernel_rfl, ?_⟩) (by assumption) ?_
      rotate_left
      · intro w hSw
        (try dsimp only at hSw)
        go_simp
        try (with_reducible rfl)
      (try simp only [Act.put, List.getElem_toArray, List.getElem_cons_succ, List.getElem_cons_zero, List.setIfInBounds_toArray, List.set_cons_zero, List.set_cons_succ])
      refine wpAnyH_take (i := 4) (v := ?_) rfl (by kernel_rfl) (by kernel_rfl) (by kernel_rfl) (fun _ _ _ h => h) (Or.inl ⟨by kernel_rfl, ?_⟩) (by assumption) ?_
      rotate_left
      · intro w hSw
        (try dsimp only at hSw)
        go_simp
        try (with_reducible rfl)
      (try simp only [Act.put, List.getElem_toArray, List.getElem_cons_succ, List.getElem_cons_zero, List.setIfInBounds_toArray, List.set_cons_zero, List.set_cons_succ])
      refine wpAnyH_ready (rs := [5]) (by kernel_rfl) (by simp) ?_
      refine AllReadyH.cons rfl (fun K hK => ?_) AllReadyH.nil
      refine step_mapf_delete rfl (.tmp 23) (.tmp 24) 57 rfl 84 under_texts (HMB.out.block rfl) rfl k (by unfold maxLen; omega) (congrArg Value.string HKK.out.symm) ?_
      intro wC hmC huC hzC
      refine hK.out _ _ ⟨(box_upd HBXB.out.drew huC HNG.out.symm).cell 1, (box_upd HKB2.out.drew huC hKm).cell 0⟩ (fun hHeld => ?_)
      clear hK K
      (try simp only [Act.put, List.getElem_toArray, List.getElem_cons_succ, List.getElem_cons_zero, List.setIfInBounds_toArray, List.set_cons_zero, List.set_cons_succ])
      refine wpAnyH_done (by kernel_rfl) ?_ _
      have HBXC := Lib.hid (box_upd HBXB.out.drew huC HNG.out.symm)
      have HKC := Lib.hid (box_upd HKB2.out.drew huC hKm)
      have HRC := Lib.hid (box_upd HRB2.out.drew huC hRm)
      have HMC := Lib.hid hmC
      have hoc : wC.ownsRow B 9 1 (.slice A kl cap) kl (txts d.keys) := own_upd (w := wB.drew) HOB.out huC HOM2.out
      have HUC : Hid (Upd wB wC m) := Lib.hid ⟨huC.os, huC.tape, huC.output, huC.size, huC.block⟩
      have HDF : Hid (Calls Tryz.prog 57 #[.slice A kl cap, .func (.func 58) #[] #[.pointer (some ⟨w.heap.size, 0, none⟩)]] wC fun e w' => RowOut wC B 9 1 (d.keys.filter (fun x => !decide (x = k))).length (Value.slice A kl cap).ownBlock (txts (d.keys.filter (fun x => !decide (x = k)))) e w') := Lib.hid (by
        refine delfunc_txt d.keys (fun x => decide (x = k)) 58 #[.pointer (some ⟨w.heap.size, 0, none⟩)] B (.slice A kl cap) wC drop1_enters (by rw [HKL.out]; exact hoc) (by rw [HKL.out]; omega) (fun x hx w1 hg => ?_)
        exact drop1_any x k w.heap.size w1 (by rw [HKK.out]; exact (HKC.out.grown hg (fun e => HOK.out e.symm)).cell 0))
      have c0 : wC.cell? ⟨g, 0, none⟩ = some (.slice A kl cap) := HBXC.out.cell 0
      have hzC2 : wB.heap.size ≤ wC.heap.size := HUC.out.size
      clear huC hmC hzC hHeld c1 ck hoc t0
      go_wp2_with (fail)
      refine HDF.out.mono ?_
      rintro e w3 ⟨v3, rfl, hown3, hvb, hgr⟩
      obtain ⟨A3, cap3, rfl⟩ := own_slice hown3
      have HBX3 := Lib.hid (HBXC.out.grown hgr (fun e => HOG2.out e.symm))
      have HK3 := Lib.hid (HKC.out.grown hgr (fun e => HOK.out e.symm))
      have HR3 := Lib.hid (HRC.out.grown hgr (fun e => HOR.out e.symm))
      have HM3 := Lib.hid (HMC.out.kept hgr (fun e => HOM2.out e.symm))
      have HO3 := Lib.hid hown3
      have HVB := Lib.hid hvb
      have HGR := Lib.hid hgr
      have hz3 := hgr.size
      obtain ⟨kl3, hkl3⟩ : ∃ n, (d.keys.filter (fun x => !decide (x = k))).length = n := ⟨_, rfl⟩
      rw [hkl3] at HO3 HVB
      rw [hkl3]
      have HKL3 := Lib.hid hkl3
      have c0 : w3.cell? ⟨g, 0, none⟩ = some (.slice A kl cap) := HBX3.out.cell 0
      have q0 : w3.frozen? ⟨g, 0, none⟩ = false := HBX3.out.frozen 0
      clear hown3 hvb hgr hkl3
      go_upto_region 6 with (fail)
      obtain ⟨w4, hw4⟩ : ∃ w4, w3.setCell ⟨g, 0, none⟩ (.slice A3 kl3 cap3) = w4 := ⟨_, rfl⟩
      rw [hw4]
      have HBX4 : Hid (Box w4 g 59 #[.slice A3 kl3 cap3, .map (some m), .int .i64 bb]) := Lib.hid (by rw [← hw4]; exact HBX3.out.set 0 _)
      have HR4 := Lib.hid (show Box w4 (w.heap.size + 1) 35 #[.int .i64 0, .string ⟨#[]⟩, .bool false, .slice none 0 0] by rw [← hw4]; exact HR3.out.far hRg _)
      have HK4 := Lib.hid (show Box w4 w.heap.size 9 #[.string K] by rw [← hw4]; exact HK3.out.far hKg _)
      have HU4 : Hid (Upd w3 w4 g) := Lib.hid (by rw [← hw4]; exact (Upd.refl w3 g).set (.inl rfl) _)
      have d2 : w4.cell? ⟨g, 2, none⟩ = some (.int .i64 bb) := HBX4.out.cell 2
      have f2 : w4.frozen? ⟨g, 2, none⟩ = false := HBX4.out.frozen 2
      have dk : w4.cell? ⟨w.heap.size, 0, none⟩ = some (.string K) := HK4.out.cell 0
      clear hw4 c0 q0
      go_region
      obtain ⟨w5, hw5⟩ : ∃ w5, (w4.setCell ⟨g, 2, none⟩ (.int .i64 (bb - ((K.size : Int) + (WA.size : Int))))).drew = w5 := ⟨_, rfl⟩
      rw [hw5]
      have HBX5 : Hid (Box w5 g 59 #[.slice A3 kl3 cap3, .map (some m), .int .i64 (bb - ((K.size : Int) + (WA.size : Int)))]) := Lib.hid (by rw [← hw5]; exact (HBX4.out.set 2 _).drew)
      have HR5 := Lib.hid (show Box w5 (w.heap.size + 1) 35 #[.int .i64 0, .string ⟨#[]⟩, .bool false, .slice none 0 0] by rw [← hw5]; exact (HR4.out.far hRg _).drew)
      have HU5 : Hid (Upd w4 w5 g) := Lib.hid (by rw [← hw5]; exact ((Upd.refl w4 g).set (.inl rfl) _).drew)
      clear hw5 d2 f2 dk
      go_wp2_with (refine wpList_store_box rfl 35 (.tmp 4) (.tmp 48) rfl (w.heap.size + 1) #[.int .i64 0, .string WA, .bool true, .slice none 0 0] rfl rfl 35 _ HR5.out info_ans rfl (ans_one _ _ _ _ _ _) ?_; intro wz hxz huz hzz; have HZZ := Lib.hid hzz; clear hzz)
      refine bodyPost_ret (results_box rfl _ _ (w.heap.size + 1) 35 _ _ rfl hxz Tryz.underlying35 rfl info_ans) rfl ?_
      rw [HD.out]
      have n1x := own_box_ne HO3.out HBX3.out drawer_ne_string
      have n2x := map_own_ne HM3.out HO3.out
      have n3x := own_box_ne HO3.out HR3.out ans_ne_string
      have hUS : UpdS w wz (fun i => i = g ∨ i = m ∨ (Value.slice A d.keys.length cap).ownBlock = some i) := ((((((UpdS.refl w _).below HBW.out).upd HUC.out (.inl (.inr (.inl rfl)))).grown HGR.out (fun x hx => .inl (.inr (.inr (by cases A <;> exact hx))))).upd HU4.out (.inl (.inl rfl))).upd HU5.out (.inl (.inl rfl))).upd huz (.inr (by omega))
      refine ⟨⟨g, m, n, .slice A3 kl3 cap3, ⟨d.keys.filter (fun x => !decide (x = k)), Story.setF d.f k none, d.bytes - ((k.length : Int) + (was.length : Int))⟩⟩, .slice none 0 0, rfl, rfl, rfl, by simp only; omega, by rw [← HWW.out]; rfl, nil_own _ _ _, ⟨?_, ?_, ?_, hlg, hlm⟩, hUS, ?_, Apart.nil _ _ _⟩
      · have := box_upd HBX5.out huz hRg.symm
        rw [← HBB.out, HSZ.out.1, HSZ.out.2] at this
        exact this
      · have := own_upd3 HO3.out HU4.out HU5.out huz n1x n1x n3x
        simp only
        rw [HKL3.out]; exact this
      · exact ((HM3.out.upd HU4.out HNG.out).upd HU5.out HNG.out).upd huz hRm.symm
      · intro x hx
        left
        have h2 : (Value.slice A3 kl3 cap3).ownBlock = some x := hx
        rw [HVB.out] at h2
        cases A <;> exact h2
end Go.Proofs.YtdolmjeiakdfhaaGreatDoor

namespace Go.Proofs.YtdolmjeiakdfhaaGreatDoor
set_option linter.unusedSimpArgs false
set_option linter.unusedVariables false
open Go.RowKit

theorem DrAt.upd {w w1 : World} {B R : Nat} {r : Rc} (h : DrAt w B r) (hu : Upd w w1 R) (h1 : r.g ≠ R) (h2 : r.m ≠ R) (h3 : r.v.ownBlock ≠ some R) : DrAt w1 B r := ⟨box_upd h.box hu h1, own_upd h.own hu h3, h.map.upd hu h2, h.lg, h.lm⟩
theorem DrAt.below {w w1 : World} {B : Nat} {r : Rc} (h : DrAt w B r) (hb : Below w.heap.size w w1) : DrAt w1 B r := ⟨h.box.below hb h.box.lt, own_below h.own hb, h.map.below hb, h.lg, h.lm⟩
/-- the answer goes through a block of the caller's own. -/
theorem OpOut.lift {B R : Nat} {r : Rc} {res : Story.Ans × Story.D} {w wA w' wz : World} {e : Ending} (hA : Below w.heap.size w wA) (hR1 : w.heap.size ≤ R) (hR2 : R < wA.heap.size) (hg : r.g < w.heap.size) (hm : r.m < w.heap.size) (hv : ∀ x, r.v.ownBlock = some x → x < w.heap.size) (h : OpOut B r res wA e w') (hu : Upd w' wz R) : OpOut B r res w e wz := by
  obtain ⟨r', kv, h1, h2, h3, h4, h5, h6, h7, h8, h9, h10⟩ := h
  refine ⟨r', kv, h1, h2, h3, h4, h5, ?_, ?_, ?_, ?_, h10⟩
  · exact own_base (own_upd h6 hu (fun e => by have := (h6.lt _ e).1; omega)) hA.size
  · refine h7.upd hu (by rw [h1]; omega) (by rw [h2]; omega) (fun e => ?_)
    rcases h9 R e with h | h
    · have := hv R h; omega
    · omega
  · have a1 : UpdS w w' r.S := ⟨h8.os.trans hA.os, h8.tape.trans hA.tape, h8.output.trans hA.output, Nat.le_trans hA.size h8.size, fun i hi hn => (h8.block i (Nat.lt_of_lt_of_le hi hA.size) hn).trans (hA.block i hi)⟩
    exact a1.upd hu (.inr hR1)
  · intro x hx
    rcases h9 x hx with h | h
    · exact .inl h
    · exact .inr (Nat.le_trans hA.size h)
theorem txts_at3 (l : List (List UInt8)) (j : Nat) (h : j < l.length) : (txts l)[j]? = some (.string ((l.map byt).getD j ByteArray.empty)) := by
  simp [txts, h, List.getD]
def CloneOut (l : List (List UInt8)) (w : World) (e : Ending) (w' : World) : Prop := ∃ v, e = .returned v ∧ w'.ownsRow w.heap.size 9 1 v l.length (txts l) ∧ Below w.heap.size w w'
theorem clone_txts (l : List (List UInt8)) (v : Value) (w : World) (hv : Rd w 1 (txts l) l.length v) (hl : l.length ≤ 100000) :
    Calls Tryz.prog 42 #[v] w (CloneOut l w) := by
  obtain ⟨A, cap, rfl, h1, h2, h3⟩ := hv
  cases A with
  | none =>
    have hl0 : l = [] := by
      cases l with
      | nil => rfl
      | cons x t =>
        obtain ⟨_, _, e, _⟩ := h3 (by simp)
        cases e
    subst hl0
    exact (Tryz.slices_Clone_string_nil 0 cap w).mono fun e w' ⟨a, b⟩ => ⟨_, a, nil_own _ _ _, b ▸ Below.refl _ _⟩
  | some a =>
    by_cases h0 : l.length = 0
    · have hl0 : l = [] := List.eq_nil_of_length_eq_zero h0
      subst hl0
      exact (Tryz.slices_Clone_string_zero a cap w).mono fun e w' ⟨v', a, b, _, c⟩ => ⟨v', a, b, c⟩
    · obtain ⟨g, o, e, h4, h5⟩ := h3 (by omega)
      injection e with e
      subst e
      refine (Tryz.slices_Clone_string g o l.length cap (l.map byt) w (by simp) (by omega) (fun j hj => h5 j _ (txts_at3 l j (by simpa using hj)))).mono fun e w' ⟨v', a, b, _, c⟩ => ⟨v', a, ?_, c⟩
      have e1 : ((l.map byt).take l.length).map Value.string = txts l := by rw [List.take_of_length_le (by simp)]; simp [txts, Function.comp_def]
      rw [e1] at b
      exact b
set_option maxRecDepth 100000 in
set_option maxHeartbeats 8000000 in
theorem empty_any (B : Nat) (r : Rc) (w : World) (h : DrAt w B r) (hn : r.n ≤ 1000) (hkl : r.d.keys.length ≤ 1000) (hB : B ≤ w.heap.size) :
    Calls Tryz.prog 41 #[.pointer (some ⟨r.g, 0, none⟩)] w (OpOut B r (Story.clear r.d) w) := by
  obtain ⟨g, m, n, kv, d⟩ := r
  have hbox := h.box
  have hown := h.own
  have hmap := h.map
  have hlg := h.lg
  have hlm := h.lm
  simp only at hbox hown hmap hlg hlm hn hkl
  obtain ⟨A, cap, rfl⟩ := own_slice hown
  have hng : m ≠ g := map_box_ne hmap hbox
  have hgl := hbox.lt
  have hml := hmap.lt
  have HBX : Hid (Box w g 59 #[.slice A d.keys.length cap, .map (some m), .int .i64 d.bytes]) := Lib.hid hbox
  have HM := Lib.hid hmap
  obtain ⟨kl, hkl2⟩ : ∃ n, d.keys.length = n := ⟨_, rfl⟩
  have HC : Hid (Story.clear d = (⟨0, [], decide (0 < kl), []⟩, Story.d0)) := Lib.hid (by unfold Story.clear; rw [hkl2])
  rw [hkl2] at HBX hkl
  obtain ⟨wA, hwA⟩ : ∃ wA, w.alloc (.cells #[.int .i64 0, .string ⟨#[]⟩, .bool false, .slice none 0 0] 35) = wA := ⟨_, rfl⟩
  have hbel : Below w.heap.size w wA := by rw [← hwA]; exact below1 w _
  have HR : Hid (Box wA w.heap.size 35 #[.int .i64 0, .string ⟨#[]⟩, .bool false, .slice none 0 0]) := Lib.hid (by rw [← hwA]; exact Box.new w _ _)
  have HWA := Lib.hid hwA
  have HBA := Lib.hid hbel
  have HBXA := Lib.hid (HBX.out.below hbel hgl)
  have HMA := Lib.hid (HM.out.below hbel)
  have HNG := Lib.hid hng
  have hRg : w.heap.size ≠ g := by omega
  have hRm : w.heap.size ≠ m := by omega
  have hzA : w.heap.size + 1 ≤ wA.heap.size := by rw [← hwA]; simp
  have x0 : wA.cell? ⟨g, 0, none⟩ = some (.slice A kl cap) := HBXA.out.cell 0
  have x1 : wA.cell? ⟨g, 1, none⟩ = some (.map (some m)) := HBXA.out.cell 1
  have d1 : decide ((kl : Int) > 0) = decide (0 < kl) := by rw [Bool.eq_iff_iff]; simp
  obtain ⟨q, hq⟩ : ∃ q, decide (0 < kl) = q := ⟨_, rfl⟩
  rw [hq] at d1 HC
  clear h hbox hown hmap hkl2 hwA hbel
  go_enter Tryz.func41, Tryz.ntmps41
  go_upto_region 1 with (fail)
  rw [show w.alloc (.cells #[.int .i64 0, .string ⟨#[]⟩, .bool false, .slice none 0 0] 35) = wA from HWA.out]
  go_upto_region 3 with (refine wpList_mapf_clear rfl (.tmp 13) 57 rfl 84 under_texts HMA.out rfl ?_; intro wC hmC huC hzC; have HZC := Lib.hid hzC; clear hzC)
  have HMC := Lib.hid hmC
  have HUC := Lib.hid huC
  have HBXC := Lib.hid (box_upd HBXA.out huC HNG.out.symm)
  have HRC := Lib.hid (box_upd HR.out huC hRm)
  have c0 : wC.cell? ⟨g, 0, none⟩ = some (.slice A kl cap) := HBXC.out.cell 0
  have f0 : wC.frozen? ⟨g, 0, none⟩ = false := HBXC.out.frozen 0
  have c2 : wC.cell? ⟨g, 2, none⟩ = some (.int .i64 d.bytes) := HBXC.out.cell 2
  have f2 : wC.frozen? ⟨g, 2, none⟩ = false := HBXC.out.frozen 2
  clear hmC huC HZC x0 x1
  go_upto_region 4 with (fail)
  obtain ⟨wD, hwD⟩ : ∃ wD, (wC.setCell ⟨g, 0, none⟩ (.slice none 0 0)).setCell ⟨g, 2, none⟩ (.int .i64 0) = wD := ⟨_, rfl⟩
  rw [hwD]
  have HBXD : Hid (Box wD g 59 #[.slice none 0 0, .map (some m), .int .i64 0]) := Lib.hid (by rw [← hwD]; exact (HBXC.out.set 0 _).set 2 _)
  have HRD := Lib.hid (show Box wD w.heap.size 35 #[.int .i64 0, .string ⟨#[]⟩, .bool false, .slice none 0 0] by rw [← hwD]; exact (HRC.out.far hRg _).far hRg _)
  have HUD : Hid (Upd wC wD g) := Lib.hid (by rw [← hwD]; exact ((Upd.refl wC g).set (.inl rfl) _).set (.inl rfl) _)
  clear hwD c0 f0 c2 f2
  go_wp2_with (refine wpList_store_box rfl 35 (.tmp 2) (.tmp 21) rfl w.heap.size #[.int .i64 0, .string ⟨#[]⟩, .bool q, .slice none 0 0] rfl rfl 35 _ HRD.out info_ans rfl (ans_one _ _ _ _ _ _) ?_; intro wz hxz huz hzz; have HZZ := Lib.hid hzz; clear hzz)
  refine bodyPost_ret (results_box rfl _ _ w.heap.size 35 _ _ rfl hxz Tryz.underlying35 rfl info_ans) rfl ?_
  rw [HC.out]
  have hUS : UpdS w wz (fun i => i = g ∨ i = m ∨ (Value.slice A d.keys.length cap).ownBlock = some i) := ((((UpdS.refl w _).below HBA.out).upd HUC.out (.inl (.inr (.inl rfl)))).upd HUD.out (.inl (.inl rfl))).upd huz (.inr (Nat.le_refl _))
  refine ⟨⟨g, m, 0, .slice none 0 0, Story.d0⟩, .slice none 0 0, rfl, rfl, rfl, Nat.zero_le _, rfl, nil_own _ _ _, ⟨?_, nil_own _ _ _, ?_, hlg, hlm⟩, hUS, fun x hx => absurd (show (none : Option Nat) = some x from hx) (by simp), Apart.nil _ _ _⟩
  · exact box_upd HBXD.out huz hRg.symm
  · exact (HMC.out.upd HUD.out HNG.out).upd huz hRm.symm
end Go.Proofs.YtdolmjeiakdfhaaGreatDoor

namespace Go.Proofs.YtdolmjeiakdfhaaGreatDoor
set_option linter.unusedSimpArgs false
set_option linter.unusedVariables false
open Go.RowKit

def ocells (o : Story.Op) : Array Value := #[.int .i64 o.kind, .string (byt o.loc), .string (byt o.key), .string (byt o.value)]
theorem acells_one (a : Story.Ans) (g : Option Addr) (n c : Nat) : (acells a (.slice g n c)).all (·.oneCell') = true := by simp [acells, Value.oneCell']
theorem UpdS.box {w w1 : World} {S : Nat → Prop} {b : Nat} {t : TypeId} {cs : Array Value} (h : UpdS w w1 S) (hb : Box w b t cs) (hn : ¬ S b) : Box w1 b t cs := (h.block b hb.lt hn).trans hb
section
variable {d : Story.D} {o : Story.Op}
theorem do_put (h : o.kind = 1) : Story.doOp d o = Story.put d o.key o.value := by unfold Story.doOp; rw [if_pos h]
theorem do_get (h : o.kind = 2) : Story.doOp d o = Story.get d o.key := by unfold Story.doOp; rw [if_neg (by omega), if_pos h]
theorem do_drop (h : o.kind = 3) : Story.doOp d o = Story.drop d o.key := by unfold Story.doOp; rw [if_neg (by omega), if_neg (by omega), if_pos h]
theorem do_clear (h : o.kind = 4) : Story.doOp d o = Story.clear d := by unfold Story.doOp; rw [if_neg (by omega), if_neg (by omega), if_neg (by omega), if_pos h]
theorem do_keys (h : o.kind = 5) : Story.doOp d o = Story.keysOf d := by unfold Story.doOp; rw [if_neg (by omega), if_neg (by omega), if_neg (by omega), if_neg (by omega), if_pos h]
theorem do_none (h1 : o.kind ≠ 1) (h2 : o.kind ≠ 2) (h3 : o.kind ≠ 3) (h4 : o.kind ≠ 4) (h5 : o.kind ≠ 5) : Story.doOp d o = (⟨1, [], false, []⟩, d) := by unfold Story.doOp; rw [if_neg h1, if_neg h2, if_neg h3, if_neg h4, if_neg h5]
end
theorem opOut_same {B : Nat} {r : Rc} {a : Story.Ans} {w wz : World} {kv : Value} {e : Ending} (hD : DrAt w B r) (hb : Below w.heap.size w wz) (he : e = .returned (.agg (acells a kv))) (hk : wz.ownsRow w.heap.size 9 1 kv a.keys.length (txts a.keys)) : OpOut B r (a, r.d) w e wz :=
  ⟨r, kv, rfl, rfl, rfl, Nat.le_succ _, he, hk, hD.below hb, (UpdS.refl _ _).below hb, fun x hx => .inl hx, fun x h1 h2 => by have := (hk.lt x h1).1; have := (hD.own.lt x h2).2; omega⟩
theorem get_eq {d : Story.D} {k was : List UInt8} {is : Bool} (h1 : (d.f k).getD [] = was) (h2 : (d.f k).isSome = is) : Story.get d k = (⟨0, was, is, []⟩, d) := by subst h1; subst h2; rfl
set_option maxRecDepth 100000 in
set_option maxHeartbeats 8000000 in
theorem do_any (B : Nat) (r : Rc) (o : Story.Op) (w : World) (h : DrAt w B r) (hi : Story.Inv r.d) (hk : o.key.length ≤ 140737488355328) (hv : o.value.length ≤ 140737488355328) (hn : r.n ≤ 1000) (hkl : r.d.keys.length ≤ 1000) (hB : B ≤ w.heap.size) :
    Calls Tryz.prog 21 #[.pointer (some ⟨r.g, 0, none⟩), .agg (ocells o)] w (OpOut B r (Story.doOp r.d o) w) := by
  obtain ⟨wA, hwA⟩ : ∃ wA, (w.alloc (.cells (ocells o) 32)).alloc (.cells #[.int .i64 0, .string ⟨#[]⟩, .bool false, .slice none 0 0] 35) = wA := ⟨_, rfl⟩
  have hbel : Below w.heap.size w wA := by rw [← hwA]; exact (below1 w _).alloc (by simp) _
  have HWA := Lib.hid hwA
  have HBA := Lib.hid hbel
  have hzA : w.heap.size + 2 = wA.heap.size := by rw [← hwA]; simp
  have hboxO : Box wA w.heap.size 32 (ocells o) := by rw [← hwA]; exact (Box.new w _ _).alloc _
  have HR : Hid (Box wA (w.heap.size + 1) 35 #[.int .i64 0, .string ⟨#[]⟩, .bool false, .slice none 0 0]) := Lib.hid (by rw [← hwA]; exact new2 w _ _ _)
  have HD := Lib.hid h
  have HDA := Lib.hid (h.below hbel)
  have HI := Lib.hid hi
  have HP : Hid (Calls Tryz.prog 39 #[.pointer (some ⟨r.g, 0, none⟩), .string (byt o.key), .string (byt o.value)] wA (OpOut B r (Story.put r.d o.key o.value) wA)) := Lib.hid (put_any B r o.key o.value wA HDA.out hi hk hv hn hkl (by omega))
  have HDR : Hid (Calls Tryz.prog 40 #[.pointer (some ⟨r.g, 0, none⟩), .string (byt o.key)] wA (OpOut B r (Story.drop r.d o.key) wA)) := Lib.hid (drop_any B r o.key wA HDA.out hi hk hn hkl (by omega))
  have HE : Hid (Calls Tryz.prog 41 #[.pointer (some ⟨r.g, 0, none⟩)] wA (OpOut B r (Story.clear r.d) wA)) := Lib.hid (empty_any B r wA HDA.out hn hkl (by omega))
  have HCL : Hid (∀ w1, Rd w1 1 (txts r.d.keys) r.d.keys.length r.v → Calls Tryz.prog 42 #[r.v] w1 (CloneOut r.d.keys w1)) := Lib.hid (fun w1 h1 => clone_txts r.d.keys r.v w1 h1 (by omega))
  have HLK : Hid (∀ w1, MapF textRdr w1 r.m r.n r.d.f → (Instr.lookup 57 (.map (some r.m)) (.string (byt o.key)) true).run Tryz.prog w1 = .ok (.tuple #[textV ((r.d.f o.key).getD []), .bool (r.d.f o.key).isSome]) w1) := Lib.hid (fun w1 h1 => h1.look_ok under_texts (zero_text w1) o.key (by unfold maxLen; omega))
  have hgl := h.box.lt
  have hml := h.map.lt
  have HVL : Hid (∀ x, r.v.ownBlock = some x → x < w.heap.size) := Lib.hid (fun x hx => (h.own.lt x hx).2)
  have x0 : wA.cell? ⟨w.heap.size, 0, none⟩ = some (.int .i64 o.kind) := hboxO.cell 0
  have x2 : wA.cell? ⟨w.heap.size, 2, none⟩ = some (.string (byt o.key)) := hboxO.cell 2
  have x3 : wA.cell? ⟨w.heap.size, 3, none⟩ = some (.string (byt o.value)) := hboxO.cell 3
  have g0 : wA.cell? ⟨r.g, 0, none⟩ = some r.v := HDA.out.box.cell 0
  have g1 : wA.cell? ⟨r.g, 1, none⟩ = some (.map (some r.m)) := HDA.out.box.cell 1
  obtain ⟨kd, hkd⟩ : ∃ kd, o.kind = kd := ⟨_, rfl⟩
  rw [hkd] at x0
  have HKD := Lib.hid hkd
  obtain ⟨K, hK⟩ : ∃ K, byt o.key = K := ⟨_, rfl⟩
  obtain ⟨V, hV⟩ : ∃ K, byt o.value = K := ⟨_, rfl⟩
  rw [hK] at x2 HP HDR HLK
  rw [hV] at x3 HP
  obtain ⟨oc, hoc⟩ : ∃ oc, ocells o = oc := ⟨_, rfl⟩
  rw [hoc] at hboxO HWA ⊢
  have HZA := Lib.hid hzA
  have hRS : ¬ r.S (w.heap.size + 1) := by
    rintro (h | h | h)
    · omega
    · omega
    · have := HVL.out _ h; omega
  have HRS := Lib.hid hRS
  clear h hi hwA hbel hzA hboxO hkd hK hV hoc hRS
  go_enter Tryz.func21, Tryz.ntmps21
  go_upto_region 1 with (fail)
  rw [show (w.alloc (.cells oc 32)).alloc (.cells #[.int .i64 0, .string ⟨#[]⟩, .bool false, .slice none 0 0] 35) = wA from HWA.out]
  by_cases h1 : kd = 1
  · subst h1
    have HEQ := Lib.hid (do_put (d := r.d) (o := o) (by rw [HKD.out]))
    go_wp2_with (fail)
    refine HP.out.mono ?_
    rintro e w1 ⟨r', kv, h1, h2, h3, h4, rfl, h6, h7, h8, h9, h10⟩
    obtain ⟨A, cap, rfl⟩ := own_slice h6
    have HRX := Lib.hid (h8.box HR.out HRS.out)
    have HOUT : Hid (OpOut B r _ wA _ w1) := Lib.hid ⟨r', _, h1, h2, h3, h4, rfl, h6, h7, h8, h9, h10⟩
    clear h1 h2 h3 h4 h6 h7 h8 h9 h10
    go_wp2_with (refine wpList_store_box rfl 35 (.tmp 4) (.tmp 16) rfl (w.heap.size + 1) (acells _ (.slice A _ cap)) rfl rfl 35 _ HRX.out info_ans rfl (acells_one _ _ _ _) ?_; intro wz hxz huz hzz; have HZZ := Lib.hid hzz; clear hzz)
    refine bodyPost_ret (results_box rfl _ _ (w.heap.size + 1) 35 _ _ rfl hxz Tryz.underlying35 rfl info_ans) rfl ?_
    rw [HEQ.out]
    exact OpOut.lift HBA.out (Nat.le_succ _) (by have := HZA.out; omega) hgl hml HVL.out HOUT.out huz
  by_cases h3 : kd = 3
  · subst h3
    have HEQ := Lib.hid (do_drop (d := r.d) (o := o) (by rw [HKD.out]))
    go_wp2_with (fail)
    refine HDR.out.mono ?_
    rintro e w1 ⟨r', kv, h1, h2, h3, h4, rfl, h6, h7, h8, h9, h10⟩
    obtain ⟨A, cap, rfl⟩ := own_slice h6
    have HRX := Lib.hid (h8.box HR.out HRS.out)
    have HOUT : Hid (OpOut B r _ wA _ w1) := Lib.hid ⟨r', _, h1, h2, h3, h4, rfl, h6, h7, h8, h9, h10⟩
    clear h1 h2 h3 h4 h6 h7 h8 h9 h10
    go_wp2_with (refine wpList_store_box rfl 35 (.tmp 4) (.tmp 38) rfl (w.heap.size + 1) (acells _ (.slice A _ cap)) rfl rfl 35 _ HRX.out info_ans rfl (acells_one _ _ _ _) ?_; intro wz hxz huz hzz; have HZZ := Lib.hid hzz; clear hzz)
    refine bodyPost_ret (results_box rfl _ _ (w.heap.size + 1) 35 _ _ rfl hxz Tryz.underlying35 rfl info_ans) rfl ?_
    rw [HEQ.out]
    exact OpOut.lift HBA.out (Nat.le_succ _) (by have := HZA.out; omega) hgl hml HVL.out HOUT.out huz
  by_cases h4 : kd = 4
  · subst h4
    have HEQ := Lib.hid (do_clear (d := r.d) (o := o) (by rw [HKD.out]))
    go_wp2_with (fail)
    refine HE.out.mono ?_
    rintro e w1 ⟨r', kv, h1, h2, h3, h4, rfl, h6, h7, h8, h9, h10⟩
    obtain ⟨A, cap, rfl⟩ := own_slice h6
    have HRX := Lib.hid (h8.box HR.out HRS.out)
    have HOUT : Hid (OpOut B r _ wA _ w1) := Lib.hid ⟨r', _, h1, h2, h3, h4, rfl, h6, h7, h8, h9, h10⟩
    clear h1 h2 h3 h4 h6 h7 h8 h9 h10
    go_wp2_with (refine wpList_store_box rfl 35 (.tmp 4) (.tmp 42) rfl (w.heap.size + 1) (acells _ (.slice A _ cap)) rfl rfl 35 _ HRX.out info_ans rfl (acells_one _ _ _ _) ?_; intro wz hxz huz hzz; have HZZ := Lib.hid hzz; clear hzz)
    refine bodyPost_ret (results_box rfl _ _ (w.heap.size + 1) 35 _ _ rfl hxz Tryz.underlying35 rfl info_ans) rfl ?_
    rw [HEQ.out]
    exact OpOut.lift HBA.out (Nat.le_succ _) (by have := HZA.out; omega) hgl hml HVL.out HOUT.out huz
  by_cases h5 : kd = 5
  · subst h5
    have HEQ : Hid (Story.doOp r.d o = (⟨0, [], false, r.d.keys⟩, r.d)) := Lib.hid (do_keys (by rw [HKD.out]))
    have hrd : Rd wA 1 (txts r.d.keys) r.d.keys.length r.v := Rd.own HDA.out.own
    have HC1 := Lib.hid (HCL.out wA hrd)
    clear hrd
    go_wp2_with (fail)
    refine HC1.out.mono ?_
    rintro e w1 ⟨kv, rfl, hown, hb1⟩
    obtain ⟨A, cap, rfl⟩ := own_slice hown
    have HB1 : Hid (Below w.heap.size w w1) := Lib.hid (HBA.out.trans (hb1.mono HBA.out.size))
    have HR1 := Lib.hid (HR.out.below hb1 HR.out.lt)
    have HO1 := Lib.hid hown
    obtain ⟨kl, hkl2⟩ : ∃ n, r.d.keys.length = n := ⟨_, rfl⟩
    have HKL := Lib.hid hkl2
    rw [hkl2] at HO1
    rw [hkl2]
    have hz1 := hb1.size
    clear hown hb1 hkl2
    go_wp2_with (refine wpList_store_box rfl 35 (.tmp 4) (.tmp 50) rfl (w.heap.size + 1) #[.int .i64 0, .string ⟨#[]⟩, .bool false, .slice A kl cap] rfl rfl 35 _ HR1.out info_ans rfl (ans_one _ _ _ _ _ _) ?_; intro wz hxz huz hzz; have HZZ := Lib.hid hzz; clear hzz)
    refine bodyPost_ret (results_box rfl _ _ (w.heap.size + 1) 35 _ _ rfl hxz Tryz.underlying35 rfl info_ans) rfl ?_
    rw [HEQ.out]
    have hzAA := HZA.out
    refine opOut_same HD.out (HB1.out.trans (huz.own (by omega) (by omega))) rfl ?_
    have := own_base (own_upd HO1.out huz (fun e => by have := (HO1.out.lt _ e).1; omega)) HBA.out.size
    simp only
    rw [HKL.out]; exact this
  by_cases h2 : kd = 2
  · subst h2
    obtain ⟨was, hws⟩ : ∃ was, (r.d.f o.key).getD [] = was := ⟨_, rfl⟩
    obtain ⟨is, his⟩ : ∃ is, (r.d.f o.key).isSome = is := ⟨_, rfl⟩
    have HEQ : Hid (Story.doOp r.d o = (⟨0, was, is, []⟩, r.d)) := Lib.hid (by rw [do_get (by rw [HKD.out]), get_eq hws his])
    rw [hws, his] at HLK
    obtain ⟨WA, hWA⟩ : ∃ K, byt was = K := ⟨_, rfl⟩
    unfold textV at HLK
    rw [hWA] at HLK
    have HWW := Lib.hid hWA
    have hmT : MapF textRdr ((wA.alloc (.cells #[.string ⟨#[]⟩] 84)).drew) r.m r.n r.d.f := (HDA.out.map.below (below1 wA _)).block rfl
    have hlk := HLK.out _ hmT
    have hlkA := HLK.out wA.drew (HDA.out.map.block rfl)
    have x2T : ((wA.alloc (.cells #[.string ⟨#[]⟩] 84)).drew).cell? ⟨w.heap.size, 2, none⟩ = some (.string K) := by rw [((below1 wA (.cells #[.string ⟨#[]⟩] 84)).drew).cell (p := ⟨w.heap.size, 2, none⟩) (by show w.heap.size < _; have := HZA.out; omega)]; exact x2
    have g1T : ((wA.alloc (.cells #[.string ⟨#[]⟩] 84)).drew).cell? ⟨r.g, 1, none⟩ = some (.map (some r.m)) := (HDA.out.box.alloc _).cell 1
    clear hws his hWA hmT h1 h3 h4 h5
    go_upto_region 5 with (fail)
    go_region
    all_goals
      obtain ⟨wB, hwB⟩ : ∃ wB, (wA.alloc (.cells #[.string WA] 84)).drew = wB := ⟨_, rfl⟩
      rw [hwB]
      have hAB : Below wA.heap.size wA wB := by rw [← hwB]; exact (below1 wA _).drew
      have HB1 : Hid (Below w.heap.size w wB) := Lib.hid (HBA.out.trans (hAB.mono HBA.out.size))
      have HR1 := Lib.hid (HR.out.below hAB HR.out.lt)
      have t0 : wB.cell? ⟨wA.heap.size, 0, none⟩ = some (.string WA) := by rw [← hwB]; exact (Box.new wA _ _).drew.cell 0
      have hz1 := hAB.size
      clear hwB hAB hlk hlkA x2T g1T
      go_wp2_with (refine wpList_store_box rfl 35 (.tmp 4) (.tmp 32) rfl (w.heap.size + 1) #[.int .i64 0, .string WA, .bool is, .slice none 0 0] rfl rfl 35 _ HR1.out info_ans rfl (ans_one _ _ _ _ _ _) ?_; intro wz hxz huz hzz; have HZZ := Lib.hid hzz; clear hzz)
      refine bodyPost_ret (results_box rfl _ _ (w.heap.size + 1) 35 _ _ rfl hxz Tryz.underlying35 rfl info_ans) rfl ?_
      rw [HEQ.out]
      have hzAA := HZA.out
      exact opOut_same HD.out (HB1.out.trans (huz.own (by omega) (by omega))) (by rw [← HWW.out]; rfl) (nil_own _ _ _)
  have n1 : (kd == 1) = false := beq_no h1
  have n2 : (kd == 2) = false := beq_no h2
  have n3 : (kd == 3) = false := beq_no h3
  have n4 : (kd == 4) = false := beq_no h4
  have n5 : (kd == 5) = false := beq_no h5
  have HEQ : Hid (Story.doOp r.d o = (⟨1, [], false, []⟩, r.d)) := Lib.hid (do_none (by rw [HKD.out]; exact h1) (by rw [HKD.out]; exact h2) (by rw [HKD.out]; exact h3) (by rw [HKD.out]; exact h4) (by rw [HKD.out]; exact h5))
  clear h1 h2 h3 h4 h5
  go_wp2_with (refine wpList_store_box rfl 35 (.tmp 4) (.tmp 51) rfl (w.heap.size + 1) #[.int .i64 1, .string ⟨#[]⟩, .bool false, .slice none 0 0] rfl rfl 35 _ HR.out info_ans rfl (ans_one _ _ _ _ _ _) ?_; intro wz hxz huz hzz; have HZZ := Lib.hid hzz; clear hzz)
  refine bodyPost_ret (results_box rfl _ _ (w.heap.size + 1) 35 _ _ rfl hxz Tryz.underlying35 rfl info_ans) rfl ?_
  rw [HEQ.out]
  have hzAA := HZA.out
  exact opOut_same HD.out (HBA.out.trans (huz.own (by omega) (by omega))) rfl (nil_own _ _ _)
end Go.Proofs.YtdolmjeiakdfhaaGreatDoor

namespace Go.Proofs.YtdolmjeiakdfhaaGreatDoor
set_option linter.unusedSimpArgs false
set_option linter.unusedVariables false
open Go.RowKit

/-- pointers as elements of a map. -/
def ptrV : Option Nat → Value
  | none => .pointer none
  | some g => .pointer (some ⟨g, 0, none⟩)
def ptrR (v : Value) : Option (DataW Unit × List MemPlace) := match v with
  | .pointer none => some (.lit (.bool false), [])
  | .pointer (some a) => if a.off = 0 ∧ a.spot = none then some (.lit (.int .i64 (a.block : Int)), []) else none
  | _ => none
def ptrE : Option Nat → DataW Unit
  | none => .lit (.bool false)
  | some g => .lit (.int .i64 (g : Int))
theorem ptrR_ok (x : Option Nat) : ptrR (ptrV x) = some (ptrE x, []) := by cases x <;> simp [ptrR, ptrV, ptrE]
theorem ptrR_inv (v : Value) (x : Option Nat) (ps : List MemPlace) (h : ptrR v = some (ptrE x, ps)) : v = ptrV x := by
  unfold ptrR at h
  split at h
  · cases x with
    | none => rfl
    | some g => simp [ptrE] at h
  · rename_i a
    split at h
    · rename_i ha
      cases x with
      | none => simp [ptrE] at h
      | some g =>
        simp only [ptrE, Option.some.injEq, Prod.mk.injEq, DataW.lit.injEq, Lit.int.injEq] at h
        obtain ⟨b, o, s⟩ := a
        simp only at ha h
        obtain ⟨rfl, rfl⟩ := ha
        have : b = g := by omega
        subst this; rfl
    · cases h
  · cases h
def ptrRdr : Rdr (Option Nat) := ⟨ptrV, ptrR, ptrE, ptrR_ok, ptrR_inv⟩
abbrev Og := List UInt8 × Rc
def look (L : List Og) : List UInt8 → Option (Option Nat) := fun x => (L.find? fun p => decide (p.1 = x)).map fun p => some p.2.g
def stOf (L : List Og) : Story.St := fun x => (L.find? fun p => decide (p.1 = x)).map fun p => p.2.d
def ac (a : Story.Ans × Value) : Array Value := acells a.1 a.2
structure Sta (w : World) (B M n : Nat) (L : List Og) (A : List (Story.Ans × Value)) (ov : Value) : Prop where
  map : MapF ptrRdr w M n (look L)
  lM : B ≤ M
  dr : ∀ p ∈ L, DrAt w B p.2 ∧ Story.Inv p.2.d ∧ p.2.n ≤ n ∧ p.2.d.keys.length ≤ n
  far : L.Pairwise (fun p q => p.1 ≠ q.1 ∧ p.2.g ≠ q.2.g ∧ p.2.m ≠ q.2.m ∧ Apart p.2.v q.2.v)
  nM : ∀ p ∈ L, p.2.m ≠ M
  out : w.ownsRow B 35 4 ov A.length (flat ac A)
  ans : ∀ a ∈ A, w.ownsRow B 9 1 a.2 a.1.keys.length (txts a.1.keys)
  aps : ∀ a ∈ A, ∀ p ∈ L, Apart a.2 p.2.v
theorem own_box_ne4 {w : World} {base g n k : Nat} {e t : TypeId} {v : Value} {xs : List Value} {cs : Array Value} (h : w.ownsRow base e k v n xs) (hb : Box w g t cs) (hne : t ≠ e) : v.ownBlock ≠ some g := by
  rcases h.2 with ⟨rfl, _⟩ | ⟨g', cap, cur, rfl, _, hg, _⟩
  · simp [Value.ownBlock]
  · intro e2
    simp only [Value.ownBlock, Option.some.injEq] at e2
    subst e2
    have h1 : w.heap[g']? = some (.cells cs t (0, 0)) := hb
    rw [h1] at hg
    injection hg with hg
    injection hg with _ hg _
    exact hne hg
theorem map_own_ne4 {α : Type} {r : Rdr α} {w : World} {b n k m base : Nat} {f : List UInt8 → Option α} {e : TypeId} {v : Value} {xs : List Value} (h : MapF r w b n f) (ho : w.ownsRow base e m v k xs) : v.ownBlock ≠ some b := by
  obtain ⟨D, ⟨es, c, h0, _⟩, _⟩ := h
  rcases ho.2 with ⟨rfl, _⟩ | ⟨g', cap, cur, rfl, _, hg, _⟩
  · simp [Value.ownBlock]
  · intro e2
    simp only [Value.ownBlock, Option.some.injEq] at e2
    subst e2
    rw [h0] at hg; cases hg
theorem own_own_ne {w : World} {B1 B2 k1 k2 n1 n2 : Nat} {e1 e2 : TypeId} {v1 v2 : Value} {x1 x2 : List Value} (h1 : w.ownsRow B1 e1 k1 v1 n1 x1) (h2 : w.ownsRow B2 e2 k2 v2 n2 x2) (hne : e1 ≠ e2) : Apart v1 v2 := by
  intro g a b
  rcases h1.2 with ⟨rfl, _⟩ | ⟨g1, c1, cur1, rfl, _, hg1, _⟩
  · simp [Value.ownBlock] at a
  · rcases h2.2 with ⟨rfl, _⟩ | ⟨g2, c2, cur2, rfl, _, hg2, _⟩
    · simp [Value.ownBlock] at b
    · simp only [Value.ownBlock, Option.some.injEq] at a b
      subst a; subst b
      rw [hg1] at hg2
      injection hg2 with hg2
      injection hg2 with _ hg2 _
      exact hne hg2
theorem own_upds {w w1 : World} {base : Nat} {e : TypeId} {k n : Nat} {v : Value} {xs : List Value} {S : Nat → Prop} (h : w.ownsRow base e k v n xs) (hu : UpdS w w1 S) (hn : ∀ b, v.ownBlock = some b → ¬ S b) : w1.ownsRow base e k v n xs := by
  refine ⟨h.1, ?_⟩
  rcases h.2 with h2 | ⟨g, cap, cur, rfl, h3, h4, h5⟩
  · exact .inl h2
  · exact .inr ⟨g, cap, cur, rfl, h3, (hu.block g (Array.getElem?_eq_some_iff.1 h4).1 (hn g rfl)).trans h4, h5⟩
section
variable {w w1 : World} {B M n : Nat} {L : List Og} {A : List (Story.Ans × Value)} {ov : Value}
theorem Sta.below (h : Sta w B M n L A ov) (hb : Below w.heap.size w w1) : Sta w1 B M n L A ov :=
  ⟨h.map.below hb, h.lM, fun p hp => let ⟨a, b⟩ := h.dr p hp; ⟨a.below hb, b⟩, h.far, h.nM, own_below h.out hb, fun a ha => own_below (h.ans a ha) hb, h.aps⟩
theorem Sta.mono (h : Sta w B M n L A ov) {n' : Nat} (hn : n ≤ n') : Sta w B M n' L A ov :=
  ⟨h.map.mono hn, h.lM, fun p hp => let ⟨a, b, c, d⟩ := h.dr p hp; ⟨a, b, Nat.le_trans c hn, Nat.le_trans d hn⟩, h.far, h.nM, h.out, h.ans, h.aps⟩
theorem ans_ne_drawer : 59 ≠ 35 := by decide
theorem str_ne_ans : 9 ≠ 35 := by decide
/-- an answer was appended. -/
theorem Sta.push (h : Sta w B M n L A ov) {a : Story.Ans × Value} {v' : Value} (ho : w1.ownsRow B 35 4 v' (A.length + 1) (flat ac A ++ (ac a).toList)) (hg : w.grownBy w1 ov.ownBlock) (ha : w.ownsRow B 9 1 a.2 a.1.keys.length (txts a.1.keys)) (hap : ∀ p ∈ L, Apart a.2 p.2.v) : Sta w1 B M n L (A ++ [a]) v' := by
  have key : ∀ {k m : Nat} {v : Value} {xs : List Value}, w.ownsRow B 9 k v m xs → w1.ownsRow B 9 k v m xs := fun hv => own_grown hv hg (by
    have := (own_own_ne hv h.out str_ne_ans).ne
    exact this)
  refine ⟨h.map.kept hg (fun e => map_own_ne4 h.map h.out e.symm), h.lM, fun p hp => ?_, h.far, h.nM, ?_, ?_, ?_⟩
  · obtain ⟨d, e⟩ := h.dr p hp
    exact ⟨⟨d.box.grown hg (fun e => own_box_ne4 h.out d.box ans_ne_drawer e.symm), key d.own, d.map.kept hg (fun e => map_own_ne4 d.map h.out e.symm), d.lg, d.lm⟩, e⟩
  · rw [List.length_append, flat_append]
    simpa [flat] using ho
  · intro x hx
    rcases List.mem_append.1 hx with hx | hx
    · exact key (h.ans x hx)
    · simp at hx; subst hx; exact key ha
  · intro x hx p hp
    rcases List.mem_append.1 hx with hx | hx
    · exact h.aps x hx p hp
    · simp at hx; subst hx; exact hap p hp
/-- a drawer in the place of one. -/
def repl (L : List Og) (x : List UInt8) (r : Rc) : List Og := L.map fun p => if p.1 = x then (x, r) else p
theorem find_repl (x : List UInt8) (r : Rc) (y : List UInt8) : ∀ L : List Og, ((repl L x r).find? fun p => decide (p.1 = y)) = if y = x then (L.find? fun p => decide (p.1 = x)).map fun _ => (x, r) else L.find? fun p => decide (p.1 = y)
  | [] => by simp [repl]
  | p :: L => by
    have ih := find_repl x r y L
    unfold repl at ih ⊢
    rw [List.map_cons, List.find?_cons, List.find?_cons, List.find?_cons, ih]
    by_cases e : p.1 = x
    · rw [if_pos e]
      by_cases e2 : y = x
      · subst e2; simp [e]
      · have e3 : ¬ x = y := fun h => e2 h.symm
        have e4 : ¬ p.1 = y := by rw [e]; exact e3
        simp [e2, e3, e4]
    · rw [if_neg e]
      by_cases e2 : y = x
      · subst e2; simp [e]
      · by_cases e4 : p.1 = y <;> simp [e2, e4]
theorem find_mem {L : List Og} {x : List UInt8} {r : Rc} (hf : L.Pairwise (fun p q => p.1 ≠ q.1)) (h : (x, r) ∈ L) : (L.find? fun p => decide (p.1 = x)) = some (x, r) := by
  induction L with
  | nil => simp at h
  | cons p L ih =>
    have hp := List.pairwise_cons.1 hf
    rw [List.find?_cons]
    rcases List.mem_cons.1 h with rfl | h
    · simp
    · have : ¬ p.1 = x := hp.1 _ h
      simp [this]; exact ih hp.2 h
theorem stOf_repl {L : List Og} {x : List UInt8} {r r' : Rc} (hf : L.Pairwise (fun p q => p.1 ≠ q.1)) (h : (x, r) ∈ L) : stOf (repl L x r') = Story.setS (stOf L) x r'.d := by
  funext y
  unfold stOf Story.setS
  rw [find_repl]
  by_cases e : y = x
  · rw [if_pos e, if_pos e, find_mem hf h]; rfl
  · rw [if_neg e, if_neg e]
theorem look_repl {L : List Og} {x : List UInt8} {r r' : Rc} (hf : L.Pairwise (fun p q => p.1 ≠ q.1)) (h : (x, r) ∈ L) (hg : r'.g = r.g) : look (repl L x r') = look L := by
  funext y
  unfold look
  rw [find_repl]
  by_cases e : y = x
  · rw [if_pos e, e, find_mem hf h]; simp [hg]
  · rw [if_neg e]
theorem mem_repl {L : List Og} {x : List UInt8} {r : Rc} {p : Og} (h : p ∈ repl L x r) : (p = (x, r)) ∨ (p ∈ L ∧ p.1 ≠ x) := by
  unfold repl at h
  obtain ⟨q, hq, e⟩ := List.mem_map.1 h
  by_cases e2 : q.1 = x
  · rw [if_pos e2] at e; exact .inl e.symm
  · rw [if_neg e2] at e; subst e; exact .inr ⟨hq, e2⟩
theorem Sta.names (h : Sta w B M n L A ov) : L.Pairwise (fun p q => p.1 ≠ q.1) := h.far.imp fun h => h.1
/-- two drawers of a state. -/
theorem Sta.two (h : Sta w B M n L A ov) {x : List UInt8} {r : Rc} {q : Og} (hp : (x, r) ∈ L) (hq : q ∈ L) (hne : q.1 ≠ x) : q.2.g ≠ r.g ∧ q.2.m ≠ r.m ∧ Apart q.2.v r.v := by
  have hpw := h.far
  clear h
  induction L with
  | nil => simp at hp
  | cons y L ih =>
    have hy := List.pairwise_cons.1 hpw
    rcases List.mem_cons.1 hp with e1 | hp2
    · subst e1
      rcases List.mem_cons.1 hq with e2 | hq2
      · subst e2; exact absurd rfl hne
      · obtain ⟨a, b, c, d⟩ := hy.1 q hq2
        exact ⟨fun e => b e.symm, fun e => c e.symm, d.symm⟩
    · rcases List.mem_cons.1 hq with e2 | hq2
      · subst e2
        obtain ⟨a, b, c, d⟩ := hy.1 _ hp2
        exact ⟨b, c, d⟩
      · exact ih hp2 hq2 hy.2
end
end Go.Proofs.YtdolmjeiakdfhaaGreatDoor

namespace Go.Proofs.YtdolmjeiakdfhaaGreatDoor
set_option linter.unusedSimpArgs false
set_option linter.unusedVariables false
open Go.RowKit

section
variable {w w1 w' : World} {B M n : Nat} {L : List Og} {A : List (Story.Ans × Value)} {ov : Value} {x : List UInt8} {r : Rc}
theorem Sta.uniq (h : Sta w B M n L A ov) (hp : (x, r) ∈ L) {q : Og} (hq : q ∈ L) (e : q.1 = x) : q = (x, r) := by
  have h1 := find_mem h.names hp
  obtain ⟨y, z⟩ := q
  simp only at e
  subst e
  rw [find_mem h.names hq] at h1
  injection h1
theorem new_apart {u v : Value} (hn : ∀ y, u.ownBlock = some y → r.v.ownBlock = some y ∨ w.heap.size ≤ y) (ha : Apart r.v v) (hl : ∀ y, v.ownBlock = some y → y < w.heap.size) : Apart u v := by
  intro y h1 h2
  rcases hn y h1 with h | h
  · exact ha y h h2
  · have := hl y h2; omega
theorem own_lt {w : World} {base k n : Nat} {e : TypeId} {v : Value} {xs : List Value} (h : w.ownsRow base e k v n xs) : ∀ y, v.ownBlock = some y → y < w.heap.size := fun y hy => (h.lt y hy).2
theorem Sta.op (h : Sta w B M n L A ov) (hp : (x, r) ∈ L) (o : Story.Op) {e : Ending} (hB : B ≤ w.heap.size) (hout : OpOut B r (Story.doOp r.d o) w e w') :
    ∃ r' kv, e = .returned (.agg (acells (Story.doOp r.d o).1 kv)) ∧ Sta w' B M (n + 1) (repl L x r') A ov ∧ stOf (repl L x r') = Story.setS (stOf L) x (Story.doOp r.d o).2 ∧
      w'.ownsRow w.heap.size 9 1 kv (Story.doOp r.d o).1.keys.length (txts (Story.doOp r.d o).1.keys) ∧ (∀ p ∈ repl L x r', Apart kv p.2.v) ∧ Below B w w' := by
  obtain ⟨r', kv, h1, h2, h3, h4, h5, h6, h7, h8, h9, h10⟩ := hout
  obtain ⟨hd, hi, hrn, hrk⟩ := h.dr _ hp
  simp only at hd hi hrn hrk
  have hkv : ∀ y, kv.ownBlock = some y → w.heap.size ≤ y := fun y hy => (h6.lt y hy).1
  have hS : ∀ i, r.S i → B ≤ i := by
    rintro i (rfl | rfl | hi)
    · exact hd.lg
    · exact hd.lm
    · exact (hd.own.lt i hi).1
  have hMr : ¬ r.S M := by
    rintro (e | e | e)
    · exact map_box_ne h.map hd.box e
    · exact h.nM _ hp e.symm
    · exact map_own_ne4 h.map hd.own e
  have hfar : (repl L x r').Pairwise (fun p q => p.1 ≠ q.1 ∧ p.2.g ≠ q.2.g ∧ p.2.m ≠ q.2.m ∧ Apart p.2.v q.2.v) := by
    unfold repl
    rw [List.pairwise_map]
    refine h.far.imp_of_mem fun {a b} ha hb hab => ?_
    by_cases ea : a.1 = x
    · have eb : b.1 ≠ x := fun eb => hab.1 (ea.trans eb.symm)
      obtain ⟨t1, t2, t3⟩ := h.two hp hb eb
      rw [if_pos ea, if_neg eb]
      exact ⟨fun e => eb e.symm, by rw [h1]; exact fun e => t1 e.symm, by rw [h2]; exact fun e => t2 e.symm, new_apart h9 t3.symm (own_lt (h.dr b hb).1.own)⟩
    · rw [if_neg ea]
      by_cases eb : b.1 = x
      · obtain ⟨t1, t2, t3⟩ := h.two hp ha ea
        rw [if_pos eb]
        exact ⟨ea, by rw [h1]; exact t1, by rw [h2]; exact t2, (new_apart h9 t3.symm (own_lt (h.dr a ha).1.own)).symm⟩
      · rw [if_neg eb]; exact hab
  refine ⟨r', kv, h5, ⟨?_, h.lM, ?_, hfar, ?_, ?_, ?_, ?_⟩, by rw [← h3]; exact stOf_repl h.names hp, h6, ?_, ⟨h8.os, h8.tape, h8.output, h8.size, fun i hi => h8.block i (by omega) (fun hs => by have := hS i hs; omega)⟩⟩
  · rw [look_repl h.names hp h1]
    exact (h.map.block (h8.block M h.map.lt hMr)).mono (Nat.le_succ _)
  · intro p hp2
    rcases mem_repl hp2 with rfl | ⟨hq, hne⟩
    · refine ⟨h7, by rw [h3]; exact Story.do_inv hi o, by simp only; omega, ?_⟩
      simp only
      rw [h3]
      have := Story.do_len r.d o
      omega
    · obtain ⟨qd, qi, qn, qk⟩ := h.dr p hq
      obtain ⟨t1, t2, t3⟩ := h.two hp hq hne
      refine ⟨⟨h8.box qd.box ?_, own_upds qd.own h8 ?_, qd.map.block (h8.block _ qd.map.lt ?_), qd.lg, qd.lm⟩, qi, by omega, by omega⟩
      · rintro (e | e | e)
        · exact t1 e
        · exact map_box_ne hd.map qd.box e.symm
        · exact own_box_ne4 hd.own qd.box drawer_ne_string e
      · rintro b hb (e | e | e)
        · subst e; exact own_box_ne4 qd.own hd.box drawer_ne_string hb
        · subst e; exact map_own_ne4 hd.map qd.own hb
        · exact t3 b hb e
      · rintro (e | e | e)
        · exact map_box_ne qd.map hd.box e
        · exact t2 e
        · exact map_own_ne4 qd.map hd.own e
  · intro p hp2
    rcases mem_repl hp2 with rfl | ⟨hq, hne⟩
    · simp only; rw [h2]; exact h.nM _ hp
    · exact h.nM p hq
  · refine own_upds h.out h8 ?_
    rintro b hb (e | e | e)
    · subst e; exact own_box_ne4 h.out hd.box ans_ne_drawer hb
    · subst e; exact map_own_ne4 hd.map h.out hb
    · exact own_own_ne hd.own h.out str_ne_ans b e hb
  · intro a ha
    refine own_upds (h.ans a ha) h8 ?_
    rintro b hb (e | e | e)
    · subst e; exact own_box_ne4 (h.ans a ha) hd.box drawer_ne_string hb
    · subst e; exact map_own_ne4 hd.map (h.ans a ha) hb
    · exact h.aps a ha _ hp b hb e
  · intro a ha p hp2
    rcases mem_repl hp2 with rfl | ⟨hq, hne⟩
    · exact (new_apart h9 (h.aps a ha _ hp).symm (own_lt (h.ans a ha))).symm
    · exact h.aps a ha p hq
  · intro p hp2
    rcases mem_repl hp2 with rfl | ⟨hq, hne⟩
    · exact h10
    · intro y hy1 hy2
      have := hkv y hy1
      have := ((h.dr p hq).1.own.lt y hy2).2
      omega
/-- one drawer more. -/
theorem Sta.add (h : Sta w B M n L A ov) {g m : Nat} (hx : ∀ p ∈ L, p.1 ≠ x) (hg : w.heap.size ≤ g) (hm : w.heap.size ≤ m) (hBw : B ≤ w.heap.size)
    (hd : DrAt w1 B ⟨g, m, 0, .slice none 0 0, Story.d0⟩) (hM : MapF ptrRdr w1 M (n + 1) (putF (look L) x (some (some g)))) (hu : Upd w w1 M) :
    Sta w1 B M (n + 1) (L ++ [(x, ⟨g, m, 0, .slice none 0 0, Story.d0⟩)]) A ov ∧ stOf (L ++ [(x, ⟨g, m, 0, .slice none 0 0, Story.d0⟩)]) = Story.setS (stOf L) x Story.d0 := by
  have hml := h.map.lt
  have hfind : ∀ y, ((L ++ [((x, ⟨g, m, 0, .slice none 0 0, Story.d0⟩) : Og)]).find? fun p => decide (p.1 = y)) = if y = x then some (x, ⟨g, m, 0, .slice none 0 0, Story.d0⟩) else L.find? fun p => decide (p.1 = y) := by
    intro y
    rw [List.find?_append]
    by_cases e : y = x
    · subst e
      have : (L.find? fun p => decide (p.1 = y)) = none := by
        rw [List.find?_eq_none]
        intro p hp; simpa using hx p hp
      rw [this]; simp
    · rw [if_neg e]
      have e2 : ¬ x = y := fun h => e h.symm
      simp [e2]
  have hne : ∀ p ∈ L, p.2.g ≠ g ∧ p.2.m ≠ m ∧ p.2.g < w.heap.size ∧ p.2.m < w.heap.size := fun p hp => by
    have := (h.dr p hp).1
    have h1 := this.box.lt
    have h2 := this.map.lt
    exact ⟨by omega, by omega, h1, h2⟩
  have hown : ∀ {e : TypeId} {k j : Nat} {v : Value} {xs : List Value}, w.ownsRow B e k v j xs → w1.ownsRow B e k v j xs := fun hv => own_upd hv hu (map_own_ne4 h.map hv)
  refine ⟨⟨?_, h.lM, ?_, ?_, ?_, hown h.out, fun a ha => hown (h.ans a ha), ?_⟩, ?_⟩
  · have : look (L ++ [(x, ⟨g, m, 0, .slice none 0 0, Story.d0⟩)]) = putF (look L) x (some (some g)) := by
      funext y
      unfold look putF
      rw [hfind]
      by_cases e : y = x
      · rw [if_pos e, if_pos e]; rfl
      · rw [if_neg e, if_neg e]
    rw [this]; exact hM
  · intro p hp
    rcases List.mem_append.1 hp with hp | hp
    · obtain ⟨a, b, c, d⟩ := h.dr p hp
      exact ⟨⟨box_upd a.box hu (fun e => map_box_ne h.map a.box e.symm), hown a.own, a.map.upd hu (h.nM p hp), a.lg, a.lm⟩, b, by omega, by omega⟩
    · simp at hp; subst hp
      exact ⟨hd, Story.inv_d0, Nat.zero_le _, Nat.zero_le _⟩
  · refine List.pairwise_append.2 ⟨h.far, by simp, fun p hp q hq => ?_⟩
    simp at hq; subst hq
    obtain ⟨a, b, _⟩ := hne p hp
    exact ⟨hx p hp, a, b, (Apart.nil _ _ _).symm⟩
  · intro p hp
    rcases List.mem_append.1 hp with hp | hp
    · exact h.nM p hp
    · simp at hp; subst hp
      simp only; omega
  · intro a ha p hp
    rcases List.mem_append.1 hp with hp | hp
    · exact h.aps a ha p hp
    · simp at hp; subst hp
      exact (Apart.nil _ _ _).symm
  · funext y
    unfold stOf Story.setS
    rw [hfind]
    by_cases e : y = x
    · rw [if_pos e, if_pos e]; rfl
    · rw [if_neg e, if_neg e]
theorem look_none {L : List Og} {x : List UInt8} (h : (look L x).getD none = none) : (∀ p ∈ L, p.1 ≠ x) ∧ stOf L x = none := by
  unfold look at h
  unfold stOf
  cases hf : L.find? fun p => decide (p.1 = x) with
  | none =>
    rw [List.find?_eq_none] at hf
    exact ⟨fun p hp => by simpa using hf p hp, rfl⟩
  | some q => rw [hf] at h; simp at h
theorem look_some {L : List Og} {x : List UInt8} {g : Nat} (h : (look L x).getD none = some g) : ∃ r, (x, r) ∈ L ∧ r.g = g ∧ stOf L x = some r.d := by
  unfold look at h
  unfold stOf
  cases hf : L.find? fun p => decide (p.1 = x) with
  | none => rw [hf] at h; simp at h
  | some q =>
    rw [hf] at h
    have h1 := List.find?_some hf
    have h2 := List.mem_of_find?_eq_some hf
    obtain ⟨y, r⟩ := q
    simp at h1 h
    subst h1
    exact ⟨r, h2, h, rfl⟩
end
end Go.Proofs.YtdolmjeiakdfhaaGreatDoor
