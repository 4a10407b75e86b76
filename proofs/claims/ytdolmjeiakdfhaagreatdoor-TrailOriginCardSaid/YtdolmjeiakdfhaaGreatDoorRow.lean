/-
  A row of the call's own, of elements of k cells: append in place, copy, clear; each leaves the block known whole. Conditions: as each says.
-/
import Derived.Test.YtdolmjeiakdfhaaGreatDoorMem
import Derived.Laws.CopyOwn
import Derived.Deep.AppendLies
import Derived.Deep.MidRow
import Derived.Lib.SliceRun
import Derived.Lib.Hide
namespace Go.Proofs.YtdolmjeiakdfhaaGreatDoor
set_option linter.unusedSimpArgs false
set_option linter.unusedVariables false
open Go.RowKit

theorem upd_setRow (w : World) (g : Nat) (cs : Array Value) : Upd w (w.setRow g cs) g := ⟨rfl, rfl, rfl, by simp, fun k _ hn => setRow_other w g k cs (by simpa using hn)⟩
theorem splice_size {α : Type} (L : List α) (o : Nat) (cs : List α) (h : o + cs.length ≤ L.length) : (splice L o cs).length = L.length := length_splice L o cs h
theorem splice_take {α : Type} (L : List α) (o : Nat) (cs : List α) (h : o ≤ L.length) : (splice L o cs).take (o + cs.length) = L.take o ++ cs := by
  have h1 : (L.take o).length = o := by simp; omega
  unfold splice
  rw [List.take_append, h1, List.take_append]
  simp
  exact List.take_of_length_le (by omega)
theorem splice_low {α : Type} (L : List α) (o : Nat) (cs : List α) (k : Nat) (hk : k ≤ o) (h : o ≤ L.length) : (splice L o cs).take k = L.take k := by
  have h1 : (L.take o).length = o := by simp; omega
  unfold splice
  rw [List.take_append_of_le_length (by omega), List.take_take, Nat.min_eq_left hk]

section
variable {P : Program} {ops : Array Oper} {rest : List Oper} {o : Oper} {a : Act} {w : World} {K : Act → World → Prop} {Q : Exit → Act → World → Prop} {E : Prop}

theorem run_append_row (w : World) (t ty e : TypeId) (i : TypeInfo) (size : Nat) (ht : P.underlying t = some (.slice e)) (hi : P.info? e = some i) (hs : i.size = size)
    (g off n cap : Nat) (cur : List Value) (te : TypeId) (hg : Box w g te cur.toArray) (ad : Addr) (m c : Nat) (news : List Value) (hl : news.length = m * size) (hc : ∀ j u, news[j]? = some u → w.cell? (ad.add j) = some u) (h1 : ∀ u ∈ news, u.oneCell' = true)
    (hroom : n + m ≤ cap) (hfit : off + n * size + news.length ≤ cur.length) :
    (Builtin.append_ #[t, t] ty #[.slice (some ⟨g, off, none⟩) n cap, .slice (some ad) m c]).run P w = .ok (.slice (some ⟨g, off, none⟩) (n + m) cap) (w.setRow g (splice cur (off + n * size) news).toArray) := by
  subst hs
  have hfc := run_firstCells_some (P := P) w i.size m ad m c news hl hc
  have hst := run_storeCells_at P g (off + n * i.size) te news 0 cur.toArray w hg (by simpa using hfit) h1
  simp only [Nat.add_zero, List.append_assoc] at hst
  simp [Builtin.append_, run_underlying ht, sizeOf, typeInfo, hi, Builtin.lenOf, hroom, hfc, Addr.add_lit, hst, splice]

/-- append where there is room, in a row that is known whole: one step of a region that draws. -/
theorem step_append_row (hgd : o.guard = none) (s x : Operand) (t : TypeId) (hop : o.op = Op.call { callee := Callee.builtin Builtin.append, args := #[s, x], argTypes := #[t, t] })
    (e : TypeId) (i : TypeInfo) (size : Nat) (ht : P.underlying t = some (.slice e)) (hi : P.info? e = some i) (hs : i.size = size)
    (g off n cap : Nat) (hsv : a.eval s = .slice (some ⟨g, off, none⟩) n cap) (cur : List Value) (te : TypeId) (hg : Box w g te cur.toArray)
    (ad : Addr) (m c : Nat) (news : List Value) (hx : a.eval x = .slice (some ad) m c) (hl : news.length = m * size) (hc : ∀ j u, news[j]? = some u → w.cell? (ad.add j) = some u) (h1 : ∀ u ∈ news, u.oneCell' = true)
    (hroom : n + m ≤ cap) (hfit : off + n * size + news.length ≤ cur.length)
    (h : ∀ w', Hid (Box w' g te (splice cur (off + n * size) news).toArray) → Upd w w' g → w'.heap.size = w.heap.size → K (a.put o.dst (.slice (some ⟨g, off, none⟩) (n + m) cap)) w') :
    if Region.wanted o (yielded ops a.tmps) = true then Oper.wp P o a w K Q else E := by
  have hw : Region.wanted o (yielded ops a.tmps) = true := by simp [Region.wanted, hgd]
  rw [if_pos hw]
  have hrun := run_append_row (P := P) w t o.type e i size ht hi hs g off n cap cur te hg ad m c news hl hc h1 hroom hfit
  unfold Oper.wp execOp
  simp only [hop, resolve, invoke, builtin, Sem.run_bind, Sem.run_pure, Result.andThen_ok, List.map_toArray, List.map_cons, List.map_nil, hsv, hx, hrun]
  exact h _ (setRow_heap w g _ _ te _ hg) (upd_setRow w g _) (by simp)

theorem run_copy_rowk (w : World) (dT sT ty e : TypeId) (i : TypeInfo) (size : Nat) (ht : P.underlying dT = some (.slice e)) (hi : P.info? e = some i) (hs : i.size = size)
    (g off dLen dCap : Nat) (cur : List Value) (te : TypeId) (hg : Box w g te cur.toArray) (ad : Addr) (sLen sCap : Nat) (news : List Value) (hl : news.length = Nat.min sLen dLen * size) (hc : ∀ j u, news[j]? = some u → w.cell? (ad.add j) = some u) (h1 : ∀ u ∈ news, u.oneCell' = true)
    (hfit : off + news.length ≤ cur.length) :
    (Builtin.copy_ #[dT, sT] ty #[.slice (some ⟨g, off, none⟩) dLen dCap, .slice (some ad) sLen sCap]).run P w = .ok (goInt (Nat.min sLen dLen)) (w.setRow g (splice cur off news).toArray) := by
  subst hs
  have hfc := run_firstCells_some (P := P) w i.size (Nat.min sLen dLen) ad sLen sCap news hl hc
  have hst := run_storeCells_at P g off te news 0 cur.toArray w hg (by simpa using hfit) h1
  simp only [Nat.add_zero, List.append_assoc] at hst
  simp only [Builtin.copy_, List.getElem?_toArray, List.getElem?_cons_zero, List.getElem?_cons_succ, Sem.run_bind, run_underlying ht, Result.andThen_ok, Builtin.lenOf, Sem.run_pure, sizeOf, typeInfo]
  simp [splice]
  simp [hi, hfc, hst, Result.andThen]
theorem wpList_copy_rowk (hgd : o.guard = none) (d s : Operand) (dT sT : TypeId)
    (hop : o.op = .call { callee := .builtin .copy, args := #[d, s], argTypes := #[dT, sT] })
    (e : TypeId) (i : TypeInfo) (size : Nat) (ht : P.underlying dT = some (.slice e)) (hi : P.info? e = some i) (hs : i.size = size)
    (g off dLen dCap : Nat) (hd : a.eval d = .slice (some ⟨g, off, none⟩) dLen dCap) (cur : List Value) (te : TypeId) (hg : Box w g te cur.toArray) (ad : Addr) (sLen sCap : Nat) (hsv : a.eval s = .slice (some ad) sLen sCap)
    (news : List Value) (hl : news.length = Nat.min sLen dLen * size) (hc : ∀ j u, news[j]? = some u → w.cell? (ad.add j) = some u) (h1 : ∀ u ∈ news, u.oneCell' = true)
    (hfit : off + news.length ≤ cur.length)
    (h : ∀ w', Hid (Box w' g te (splice cur off news).toArray) → Upd w w' g → w'.heap.size = w.heap.size → wpList P ops Q rest (a.put o.dst (goInt (Nat.min sLen dLen))) w') : wpList P ops Q (o :: rest) a w := by
  refine wpList_plain hgd fun K hK => ?_
  have hrun := run_copy_rowk (P := P) w dT sT o.type e i size ht hi hs g off dLen dCap cur te hg ad sLen sCap news hl hc h1 hfit
  unfold Oper.wp execOp
  simp only [hop, resolve, invoke, builtin, Sem.run_bind, Sem.run_pure, Result.andThen_ok, List.map_toArray, List.map_cons, List.map_nil, hd, hsv, hrun]
  exact hK _ _ (h _ (setRow_heap w g _ _ te _ hg) (upd_setRow w g _) (by simp))
theorem step_copy_rowk (hgd : o.guard = none) (d s : Operand) (dT sT : TypeId)
    (hop : o.op = .call { callee := .builtin .copy, args := #[d, s], argTypes := #[dT, sT] })
    (e : TypeId) (i : TypeInfo) (size : Nat) (ht : P.underlying dT = some (.slice e)) (hi : P.info? e = some i) (hs : i.size = size)
    (g off dLen dCap : Nat) (hd : a.eval d = .slice (some ⟨g, off, none⟩) dLen dCap) (cur : List Value) (te : TypeId) (hg : Box w g te cur.toArray) (ad : Addr) (sLen sCap : Nat) (hsv : a.eval s = .slice (some ad) sLen sCap)
    (news : List Value) (hl : news.length = Nat.min sLen dLen * size) (hc : ∀ j u, news[j]? = some u → w.cell? (ad.add j) = some u) (h1 : ∀ u ∈ news, u.oneCell' = true)
    (hfit : off + news.length ≤ cur.length)
    (h : ∀ w', Hid (Box w' g te (splice cur off news).toArray) → Upd w w' g → w'.heap.size = w.heap.size → K (a.put o.dst (goInt (Nat.min sLen dLen))) w') :
    if Region.wanted o (yielded ops a.tmps) = true then Oper.wp P o a w K Q else E := by
  have hw : Region.wanted o (yielded ops a.tmps) = true := by simp [Region.wanted, hgd]
  rw [if_pos hw]
  have hrun := run_copy_rowk (P := P) w dT sT o.type e i size ht hi hs g off dLen dCap cur te hg ad sLen sCap news hl hc h1 hfit
  unfold Oper.wp execOp
  simp only [hop, resolve, invoke, builtin, Sem.run_bind, Sem.run_pure, Result.andThen_ok, List.map_toArray, List.map_cons, List.map_nil, hd, hsv, hrun]
  exact h _ (setRow_heap w g _ _ te _ hg) (upd_setRow w g _) (by simp)

theorem zeroCells_one (z : Array Value) : Builtin.zeroCells z 1 = z := by
  unfold Builtin.zeroCells
  apply Array.ext
  · simp
  · intro i h1 h2
    simp at h1
    simp [Nat.mod_eq_of_lt h1, h1]
theorem run_clear_one (w : World) (t e ty : TypeId) (z : Value) (ht : P.underlying t = some (.slice e)) (hv : ∀ w, (zeroValue e).run P w = .ok z w) (h1 : ∀ u ∈ z.cells.toList, u.oneCell' = true)
    (g off c : Nat) (cur : List Value) (te : TypeId) (hg : Box w g te cur.toArray) (hfit : off + z.cells.size ≤ cur.length) :
    (Builtin.clear_ #[t] ty #[.slice (some ⟨g, off, none⟩) 1 c]).run P w = .ok (.tuple #[]) (w.setRow g (splice cur off z.cells.toList).toArray) := by
  have hst := run_storeCells_at P g off te z.cells.toList 0 cur.toArray w hg (by simpa using hfit) h1
  simp only [Nat.add_zero, List.append_assoc] at hst
  simp [Builtin.clear_, run_underlying ht, hv, zeroCells_one, hst, splice]
theorem wpList_clear_one (hgd : o.guard = none) (s : Operand) (t : TypeId) (hop : o.op = .call { callee := .builtin .clear, args := #[s], argTypes := #[t] })
    (e : TypeId) (z : Value) (ht : P.underlying t = some (.slice e)) (hv : ∀ w, (zeroValue e).run P w = .ok z w) (h1 : ∀ u ∈ z.cells.toList, u.oneCell' = true)
    (g off n c : Nat) (hs : a.eval s = .slice (some ⟨g, off, none⟩) n c) (hn : n = 1) (cur : List Value) (te : TypeId) (hg : Box w g te cur.toArray) (hfit : off + z.cells.size ≤ cur.length)
    (h : ∀ w', Hid (Box w' g te (splice cur off z.cells.toList).toArray) → Upd w w' g → w'.heap.size = w.heap.size → wpList P ops Q rest (a.put o.dst (.tuple #[])) w') : wpList P ops Q (o :: rest) a w := by
  refine wpList_plain hgd fun K hK => ?_
  subst hn
  have hrun := run_clear_one (P := P) w t e o.type z ht hv h1 g off c cur te hg hfit
  unfold Oper.wp execOp
  simp only [hop, resolve, invoke, builtin, Sem.run_bind, Sem.run_pure, Result.andThen_ok, List.map_toArray, List.map_cons, List.map_nil, hs, hrun]
  exact hK _ _ (h _ (setRow_heap w g _ _ te _ hg) (upd_setRow w g _) (by simp))
end

/-- an own row, opened: its block is known whole. -/
theorem own_box {w : World} {base : Nat} {e : TypeId} {k n : Nat} {v : Value} {xs : List Value} (h : w.ownsRow base e k v n xs) (hn : 0 < n) :
    ∃ g cap R, v = .slice (some ⟨g, 0, none⟩) n cap ∧ base ≤ g ∧ Box w g e (xs ++ R).toArray ∧ n ≤ cap ∧ cap ≤ 9223372036854775807 ∧ (xs ++ R).length = cap * k := by
  rcases h.2 with ⟨_, h0⟩ | ⟨g, cap, cur, hv, hb, hg, h1, h2, h3, h4⟩
  · omega
  · unfold maxLen at h2
    have e1 : xs ++ cur.toList.drop (n * k) = cur.toList := by rw [← h4, List.take_append_drop]
    refine ⟨g, cap, cur.toList.drop (n * k), hv, hb, ?_, h1, by omega, ?_⟩
    · rw [e1]; exact hg
    · rw [e1]; simpa using h3
theorem box_own {w : World} {base : Nat} {e : TypeId} {k n cap g : Nat} {xs cur : List Value} (hb : base ≤ g) (hg : Box w g e cur.toArray) (hn : n ≤ cap) (hc : cap ≤ 9223372036854775807) (hs : cur.length = cap * k) (ht : cur.take (n * k) = xs) (hl : xs.length = n * k) :
    w.ownsRow base e k (.slice (some ⟨g, 0, none⟩) n cap) n xs :=
  ⟨hl, .inr ⟨g, cap, cur.toArray, rfl, hb, hg, hn, by unfold maxLen; omega, by simpa using hs, by simpa using ht⟩⟩
theorem own_grown {w w1 : World} {base : Nat} {e : TypeId} {k n : Nat} {v : Value} {xs : List Value} {row : Option Nat} (h : w.ownsRow base e k v n xs) (hg : w.grownBy w1 row) (hne : v.ownBlock = none ∨ v.ownBlock ≠ row) : w1.ownsRow base e k v n xs := h.kept hg hne
theorem own_below {w w1 : World} {base : Nat} {e : TypeId} {k n : Nat} {v : Value} {xs : List Value} (h : w.ownsRow base e k v n xs) (hb : Below w.heap.size w w1) : w1.ownsRow base e k v n xs :=
  h.kept (row := none) ⟨hb.os, hb.tape, hb.output, hb.size, fun i hi _ => hb.block i hi⟩ (by cases hv : v.ownBlock <;> simp)
theorem own_base {w : World} {base base' : Nat} {e : TypeId} {k n : Nat} {v : Value} {xs : List Value} (h : w.ownsRow base e k v n xs) (hb : base' ≤ base) : w.ownsRow base' e k v n xs := by
  refine ⟨h.1, ?_⟩
  rcases h.2 with hn | ⟨g, cap, cur, e1, h1, h2⟩
  · exact .inl hn
  · exact .inr ⟨g, cap, cur, e1, by omega, h2⟩
end Go.Proofs.YtdolmjeiakdfhaaGreatDoor
