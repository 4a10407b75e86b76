/-
  Texts that the law leans on: JlH, JlI. Conditions: as each says.
-/
import Derived.Test.YtonjdlialejedaaGreatDoorXAx
import Derived.Laws.IdiomStrings
import Derived.Test.YtonjdlialejedaaGreatDoorXAb
import Derived.OwnWalk
import Derived.Test.YtonjdlialejedaaGreatDoorXAa
set_option linter.unusedSimpArgs false
set_option linter.unusedVariables false
namespace Go.Proofs.YtonjdlialejedaaGreatDoor.Jl
open Go.Lib (hid)
open Go.RowKit
theorem wpList_to_bytes {P : Program} {ops : Array Oper} {rest : List Oper} {o : Oper} {a : Act} {w : World} {Q : Exit → Act → World → Prop} (hgd : o.guard = none) (src dst e : TypeId) (x : Operand) (ho : o.op = .convert src dst x)
  (hs : P.underlying src = some .string) (hd : P.underlying dst = some (.slice e)) (he : P.underlying e = some (.int .u8)) (s : ByteArray) (hx : a.eval x = .string s)
  (h : ∀ (w' : World) (cap : Nat), (∀ (j : Nat) (c : UInt8), s.data.toList[j]? = some c → w'.cell? ⟨w.heap.size, j, none⟩ = some (.int .u8 (c.toNat : Int))) → Below w.heap.size w w' → w.heap.size < w'.heap.size →
   wpList P ops Q rest (a.put o.dst (.slice (some ⟨w.heap.size, 0, none⟩) s.size cap)) w') : wpList P ops Q (o :: rest) a w :=
 wpList_plain hgd fun _ hK => by
  unfold Oper.wp execOp
  simp only [ho, hx, Sem.run_bind, run_bytes_of_string w src dst e s hs hd he, Result.andThen_ok, Sem.run_pure]
  refine hK _ _ (h _ _ ?_ ((Below.refl _ w).drew.alloc (Nat.le_refl _) _) (by simp))
  intro j c hc
  have := World.cell?_alloc_mark w.drew (bytesRow s (grownCap w s.size 0 e)) e ((bytesRow s (grownCap w s.size 0 e)).size, (bytesRow s (grownCap w s.size 0 e)).size + 1) j
  refine Eq.trans this ?_
  obtain ⟨h1, h2⟩ := List.getElem?_eq_some_iff.1 hc
  have h3 : j < s.data.size := by simpa using h1
  unfold bytesRow
  rw [Array.getElem?_append_left (by simpa using h3)]
  simp
  exact ⟨c, by simpa using hc, rfl⟩
theorem all_dig (l : Lexy.Bs) (m : Nat) (hm : Lexy.digLen l = m) : ∀ (j : Nat) (c : UInt8), (l.take m)[j]? = some c → 48 ≤ c.toNat ∧ c.toNat ≤ 57 := by
 intro j c hc
 have h1 := Lexy.take_tw Lexy.isDigit l
 have : m = (l.takeWhile Lexy.isDigit).length := hm.symm
 rw [this, h1] at hc
 have := Lexy.all_tw Lexy.isDigit l c (List.mem_of_getElem? hc)
 simpa [Lexy.isDigit] using this
theorem head_letter (l : Lexy.Bs) : (l.head?.map Lexy.isLetter).getD false = Lexy.isLetter ((l[0]?).getD 0) := by
 cases l with
 | nil => decide
 | cons c r => simp
set_option maxRecDepth 100000 in
set_option maxHeartbeats 1000000 in
theorem number_any (b : Nat) (s : ByteArray) (k : Nat) (o : Value) (w : World) (h : Rd w b s k o) (hk : k ≤ s.size) (hm : s.size ≤ 1000000) :
  Calls Tryz.prog 43 #[.pointer (some ⟨b, 0, none⟩)] w fun e w' =>
   Out w b s k o (match Lexy.numF 0 ((s.data.toList.drop k).take (Lexy.digLen (s.data.toList.drop k))) with
    | none => .err 2
    | some n => if (((s.data.toList.drop k).drop (Lexy.digLen (s.data.toList.drop k))).head?.map Lexy.isLetter).getD false then .err 4 else .ok (⟨2, [], n⟩, Lexy.digLen (s.data.toList.drop k))) e w' := by
 have hlt := Box.lt h
 have hrun := hid (fun w (h : Rd w b s k o) => run_digit b s k o w h hk hm)
 obtain ⟨m, hm'⟩ : ∃ m, Lexy.digLen (s.data.toList.drop k) = m := ⟨_, rfl⟩
 have hmm : ((s.data.toList.drop k).takeWhile Lexy.isDigit).length = m := hm'
 have hdig := all_dig _ _ hm'
 have hml : k + m ≤ s.size := by
  have := tw_len Lexy.isDigit (s.data.toList.drop k); rw [hmm, List.length_drop] at this; simp at this; omega
 rw [hmm] at hrun
 rw [hm']
 obtain ⟨x, hx⟩ : ∃ x, s.extract k (k + m) = x := ⟨_, rfl⟩
 have hxl : (s.data.toList.drop k).take m = x.data.toList := by rw [← hx]; simp
 have hxs : x.size = m := by rw [← hx]; simp; omega
 rw [hx] at hrun
 rw [hxl] at hdig ⊢
 have hd2 : (s.data.toList.drop k).drop m = s.data.toList.drop (k + m) := by rw [List.drop_drop]
 rw [hd2]
 obtain ⟨D, hD⟩ : ∃ D, x.data.toList = D := ⟨_, rfl⟩
 have hDl : D.length = m := by rw [← hD, ← hxs]; simp
 rw [hD] at hdig ⊢
 obtain ⟨F, hF⟩ : ∃ F : Lexy.Res (Lexy.Tk × Nat), (match Lexy.numF 0 D with
    | none => Lexy.Res.err 2
    | some n => if ((s.data.toList.drop (k + m)).head?.map Lexy.isLetter).getD false then .err 4 else .ok (⟨2, [], n⟩, m)) = F := ⟨_, rfl⟩
 rw [hF]
 have HF := hid hF
 have hxm : x.size ≤ 1000000 := by omega
 have HXS := hid hxs
 have HDL := hid hDl
 have HDD := hid hD
 have HDG := hid hdig
 clear hF hxs hDl hD hdig hd2 hx hxl hmm hm'
 go_enter Tryz.func43, Tryz.ntmps43
 go_wp2_with fail
 refine (hrun.out _ (h.alloc _)).mono ?_
 rintro e w1 ⟨rfl, hr1, hu1⟩
 have hsz := h1size hu1
 have hx1 : Box w1 w.heap.size 40 #[.int .i64 0, .int .i64 0, .int .i64 0, .string ⟨#[]⟩, .int .i64 0] := Box.grown (Box.new w _ _) hu1 (by simp; omega)
 have hup1 : Upd w w1 b := ((Upd.refl w b).alloc _).trans hu1
 go_wp2_with (refine wpList_to_bytes rfl 9 51 5 (.tmp 8) rfl Tryz.underlying9 Tryz.underlying51 Tryz.underlying5 x rfl ?_; intro w2 cap hc2 hbl2 hsz2)
 have hr2 : Rd w2 b s (k + m) o := Rd.below hr1 hbl2 (by omega)
 have hx2 : Box w2 w.heap.size 40 #[.int .i64 0, .int .i64 0, .int .i64 0, .string ⟨#[]⟩, .int .i64 0] := Box.below hx1 hbl2 (by omega)
 have hup2 : Upd w w2 b := hup1.step hbl2
 have HC2 := hid hc2
 clear hc2
 go_loop [4, 11] (fun v i => ∃ (j n : Nat), j ≤ x.size ∧ n ≤ 9007199254740992 ∧ i = .int .i64 (j : Int) ∧ v = .int .i64 (n : Int) ∧ Hid (Lexy.numF n (D.drop j) = Lexy.numF 0 D)) (fun _ i => x.size - (intOf i).toNat)
 case atStart => exact ⟨0, 0, Nat.zero_le _, by omega, rfl, rfl, hid (by simp)⟩
 case round =>
  obtain ⟨j, n, hj, hn, rfl, rfl, H⟩ := hrel
  by_cases hjx : j < x.size
  ·obtain ⟨c, hc⟩ : ∃ c, D[j]? = some c := ⟨_, List.getElem?_eq_getElem (by rw [HDL.out, ← HXS.out]; exact hjx)⟩
   obtain ⟨c0, c9⟩ := HDG.out j c hc
   have hcell : w2.cell? ⟨w1.heap.size, j, none⟩ = some (.int .u8 (c.toNat : Int)) := HC2.out j c (by rw [HDD.out]; exact hc)
   have hl1 : decide ((j : Int) < (x.size : Int)) = true := by simp; omega
   have hd : D.drop j = c :: D.drop (j + 1) := by
    obtain ⟨h1, h2⟩ := List.getElem?_eq_some_iff.1 hc
    rw [List.drop_eq_getElem_cons h1, h2]
   have hstep := H.out
   rw [hd] at hstep
   simp only [Lexy.numF] at hstep
   have d0 : (48 : Int) ≤ (c.toNat : Int) := by omega
   have d9 : (c.toNat : Int) ≤ 57 := by omega
   clear hd hc c0 c9
   by_cases hov : 9007199254740992 < 10 * n + (c.toNat - 48)
   ·rw [if_pos hov] at hstep
    have hFe : Hid (F = .err 2) := by rw [← HF.out, ← hstep]; exact hid rfl
    have ht : decide ((9007199254740992 : Int) < 10 * (n : Int) + ((c.toNat : Int) - 48)) = true := by simp; omega
    clear hstep
    go_wp2_with (refine wpList_store_box rfl 40 (.tmp 2) (.tmp 23) rfl w.heap.size #[.int .i64 0, .int .i64 0, .int .i64 0, .string ⟨#[]⟩, .int .i64 0] rfl rfl 40 _ hx2 info_tok5 rfl (tok_one _ _ _ _ _) ?_; intro w6 hx6 hu6 hz6)
    refine bodyPost_ret (results_box_tmp rfl _ _ w.heap.size 40 _ _ rfl hx6 Tryz.underlying40 rfl info_tok5) rfl ?_
    rw [hFe.out]
    exact ⟨rfl, hup2.far hu6 (Nat.le_refl _)⟩
   ·rw [if_neg hov] at hstep
    have HST := hid hstep
    have ht : decide ((9007199254740992 : Int) < 10 * (n : Int) + ((c.toNat : Int) - 48)) = false := by simp; omega
    clear hstep
    go_wp2
    go_round
    case rel =>
     have e : (10 * (n : Int) + ((c.toNat : Int) - 48)) = ((10 * n + (c.toNat - 48) : Nat) : Int) := by omega
     rw [e]
     exact ⟨j + 1, 10 * n + (c.toNat - 48), by omega, by omega, by go_num, rfl, HST⟩
    case measure => simp [intOf]; omega
  ·have hl1 : decide ((j : Int) < (x.size : Int)) = false := by simp; omega
   have hstep := H.out
   rw [List.drop_eq_nil_of_le (by rw [HDL.out, ← HXS.out]; omega)] at hstep
   simp only [Lexy.numF] at hstep
   have hFF := HF.out
   rw [← hstep] at hFF
   simp only [head_letter] at hFF
   have P0 := hid (fun w (h : Rd w b s (k + m) o) => peek_any b s (k + m) 0 o w h hml hm (by omega))
   obtain ⟨d, hd⟩ : ∃ d, ((s.data.toList.drop (k + m))[0]?).getD 0 = d := ⟨_, rfl⟩
   rw [hd] at P0 hFF
   have HLt := hid (fun w => letter_any d w)
   cases hld : Lexy.isLetter d with
   | true =>
    rw [hld] at HLt hFF
    have HFF := hid hFF
    clear hFF hstep hld hd
    go_wp2_with fail
    refine (P0.out _ hr2).mono ?_
    rintro e w3 ⟨rfl, n3, rfl⟩
    go_wp2_with fail
    refine (HLt.out _).mono ?_
    rintro e w3 ⟨rfl, rfl⟩
    go_wp2_with (refine wpList_store_box rfl 40 (.tmp 2) (.tmp 28) rfl w.heap.size #[.int .i64 0, .int .i64 0, .int .i64 0, .string ⟨#[]⟩, .int .i64 0] rfl rfl 40 _ (hx2.drewN _) info_tok5 rfl (tok_one _ _ _ _ _) ?_; intro w6 hx6 hu6 hz6)
    refine bodyPost_ret (results_box_tmp rfl _ _ w.heap.size 40 _ _ rfl hx6 Tryz.underlying40 rfl info_tok5) rfl ?_
    rw [← HFF.out]
    exact ⟨rfl, (hup2.drewN _).far hu6 (Nat.le_refl _)⟩
   | false =>
    rw [hld] at HLt hFF
    have HFF := hid hFF
    clear hFF hstep hld hd
    go_wp2_with fail
    refine (P0.out _ hr2).mono ?_
    rintro e w3 ⟨rfl, n3, rfl⟩
    go_wp2_with fail
    refine (HLt.out _).mono ?_
    rintro e w3 ⟨rfl, rfl⟩
    go_wp2_with (refine wpList_store_box rfl 40 (.tmp 2) (.tmp 30) rfl w.heap.size #[.int .i64 _, .int .i64 0, .int .i64 0, .string ⟨#[]⟩, .int .i64 _] rfl rfl 40 _ (hx2.drewN _) info_tok5 rfl (tok_one _ _ _ _ _) ?_; intro w6 hx6 hu6 hz6)
    refine bodyPost_ret (results_box_tmp rfl _ _ w.heap.size 40 _ _ rfl hx6 Tryz.underlying40 rfl info_tok5) rfl ?_
    rw [← HFF.out]
    exact ⟨rfl, Box.grown (hr2.drewN _) hu6 (by simp; omega), (hup2.drewN _).far hu6 (Nat.le_refl _)⟩
end Go.Proofs.YtonjdlialejedaaGreatDoor.Jl
namespace Go.Proofs.YtonjdlialejedaaGreatDoor.Jl
open Go.Lib (hid)
open Go.RowKit
def byteCells (acc : Lexy.Bs) : List Value := acc.map fun c => Value.int .u8 (c.toNat : Int)
theorem wpList_of_bytes {P : Program} {ops : Array Oper} {rest : List Oper} {o : Oper} {a : Act} {w : World} {Q : Exit → Act → World → Prop} (hgd : o.guard = none) (src dst e : TypeId) (x : Operand) (ho : o.op = .convert src dst x)
  (hs : P.underlying src = some (.slice e)) (he : P.underlying e = some (.int .u8)) (hd : P.underlying dst = some .string) (v : Value) (hx : a.eval x = v) (base : Nat) (acc : Lexy.Bs)
  (hown : w.ownsRow base e 1 v acc.length (byteCells acc)) (h : wpList P ops Q rest (a.put o.dst (.string ⟨acc.toArray⟩)) w) : wpList P ops Q (o :: rest) a w := by
 have hrun : (convert src dst v).run P w = .ok (.string ⟨acc.toArray⟩) w := by
  rcases hown.2 with ⟨rfl, hn⟩ | ⟨g, cap, cur, rfl, hb, hg, rest⟩
  ·have : acc = [] := by cases acc with | nil => rfl | cons c r => simp at hn
   subst this
   rw [run_convert_bytes_string w src dst e none 0 0 hs he hd]
   rfl
  ·have hcells := hown.cells (g := g) rfl
   have := run_convert_bytes_back (P := P) w src dst e ⟨g, 0, none⟩ cap acc hs he hd (fun j hj => hcells j _ (by simp [byteCells, hj]))
   exact this
 refine wpList_plain hgd fun _ hK => ?_
 unfold Oper.wp execOp
 simp only [ho, hx, Sem.run_bind, hrun, Result.andThen_ok, Sem.run_pure]
 exact hK _ _ h
theorem info_u8 : (Tryz.prog.info? 5).map (fun i => (i.zero, i.size, i.bytes)) = some (some (.int .u8 0), 1, 1) := by kernel_rfl
theorem own_far {w w' : World} {base b : Nat} {e : TypeId} {size : Nat} {v : Value} {n : Nat} {xs : List Value} (h : w.ownsRow base e size v n xs) (hu : Upd w w' b) (hb : b < base) : w'.ownsRow base e size v n xs :=
 h.kept hu (by
  cases hv : v.ownBlock with
  | none => exact .inl rfl
  | some g => refine .inr ?_; have := (h.lt g hv).1; simp; omega)
theorem _root_.Go.Proofs.YtonjdlialejedaaGreatDoor.Upd.thenB {a w w1 : World} {b : Nat} (h : Upd a w b) (k : Below a.heap.size w w1) : Upd a w1 b :=
 ⟨k.os.trans h.os, k.tape.trans h.tape, k.output.trans h.output, Nat.le_trans h.size k.size, fun i hi hn => (k.block i hi).trans (h.block i hi hn)⟩
theorem one_new (w : World) (x : Value) (t : TypeId) (g : Nat) (hg : w.heap.size = g) : ∀ (j : Nat) (u : Value), [x][j]? = some u → (w.alloc (.cells #[x] t)).cell? ((⟨g, 0, none⟩ : Addr).add j) = some u := by
 subst hg
 intro j u hj
 cases j with
 | zero =>
  simp at hj
  subst hj
  have h := (Box.new w t #[x]).cell 0
  exact h
 | succ j => simp at hj
theorem one_cell (n : Int) : ∀ u ∈ [Value.int .u8 n], u.oneCell' = true := by intro u hu; simp at hu; subst hu; rfl
def tres (k : Nat) : Option (Lexy.Bs × Nat) → Lexy.Res (Lexy.Tk × Nat)
 | none => .err 4
 | some (t, p) => .ok (⟨3, t, 0⟩, p - k)
set_option maxRecDepth 100000 in
set_option maxHeartbeats 2000000 in
theorem text_any (b : Nat) (s : ByteArray) (k : Nat) (o : Value) (w : World) (h : Rd w b s k o) (hk : k < s.size) (hm : s.size ≤ 1000000) :
  Calls Tryz.prog 44 #[.pointer (some ⟨b, 0, none⟩)] w fun e w' =>
   Out w b s k o (match Lexy.txt (s.data.toList.drop (k + 1)) with
    | none => .err 4
    | some (t, m) => .ok (⟨3, t, 0⟩, 1 + m)) e w' := by
 have hlt := Box.lt h
 obtain ⟨l, hl⟩ : ∃ l, s.data.toList = l := ⟨_, rfl⟩
 have hsz : l.length = s.size := by rw [← hl]; simp
 obtain ⟨F, hF⟩ : ∃ F, Lexy.fin [] (k + 1) (l.drop (k + 1)) = F := ⟨_, rfl⟩
 obtain ⟨R, hR⟩ : ∃ R : Lexy.Res (Lexy.Tk × Nat), tres k F = R := ⟨_, rfl⟩
 have hgoal : (match Lexy.txt (s.data.toList.drop (k + 1)) with
    | none => (.err 4 : Lexy.Res (Lexy.Tk × Nat))
    | some (t, m) => .ok (⟨3, t, 0⟩, 1 + m)) = R := by
  rw [← hR, ← hF, hl]
  unfold Lexy.fin
  cases Lexy.txt (l.drop (k + 1)) with
  | none => rfl
  | some x => simp [tres]; omega
 rw [hgoal]
 have HL := hid hl
 have HS := hid hsz
 have HF := hid hF
 have HR := hid hR
 have HEsc := hid (fun (k' : Nat) w (h : Rd w b s k' o) (hk : k' ≤ s.size) => escape_any b s k' o w h hk hm)
 clear hl hsz hF hR hgoal
 obtain ⟨i0, hi0, hz0, hz1, hz2⟩ := info_parts info_u8
 have hs0 := h.text; have hp0 := h.place; have hf0 := h.free 1
 go_enter Tryz.func44, Tryz.ntmps44
 go_wp2
 clear hs0 hp0 hf0
 go_loopg [4] (s.size - (k + 1)) (fun g v wr => ∃ (k' : Nat) (acc : Lexy.Bs), k + 1 ≤ k' ∧ k' ≤ s.size ∧ g = s.size - k' ∧ acc.length ≤ k' ∧ Rd wr b s k' o ∧ Box wr w.heap.size 40 #[.int .i64 0, .int .i64 0, .int .i64 0, .string ⟨#[]⟩, .int .i64 0] ∧ Upd w wr b ∧
  wr.ownsRow (w.heap.size + 1) 5 1 v acc.length (byteCells acc) ∧ Hid (Lexy.fin acc k' (l.drop k') = F))
 case atStart =>
  exact ⟨k + 1, [], Nat.le_refl _, hk, rfl, Nat.zero_le _, (h.moveI _ (k + 1) (by omega)).alloc _, by simpa using Box.new (w.setCell ⟨b, 1, none⟩ (.int .i64 ((k : Int) + 1))) 40 #[.int .i64 0, .int .i64 0, .int .i64 0, .string ⟨#[]⟩, .int .i64 0], ((Upd.refl w b).set (.inl rfl) _).alloc _, World.ownsRow_nil _ _ _ _, HF⟩
 case round =>
  obtain ⟨k', acc, hkk, hks, hg, hal, hr, hx, hu, hown, H⟩ := hrel
  have HG := hid hg; clear hg
  have hwz : w.heap.size < wr.heap.size := hx.lt
  have hs0 := hr.text; have hp0 := hr.place; have hf := hr.free 1
  by_cases hlt' : k' < s.size
  ·obtain ⟨c, hc⟩ : ∃ c, l[k']? = some c := ⟨_, List.getElem?_eq_getElem (by rw [HS.out]; exact hlt')⟩
   have hl1 : decide ((k' : Int) < s.size) = true := by simp; omega
   have hi := fun w => run_at s c (k' : Int) (by omega) (by rw [HL.out]; exact hc) w
   have hd : l.drop k' = c :: l.drop (k' + 1) := by
    obtain ⟨h1, h2⟩ := List.getElem?_eq_some_iff.1 hc
    rw [List.drop_eq_getElem_cons h1, h2]
   have HD := hid hd
   clear hc hd
   by_cases h34 : c = 34
   ·subst h34
    have HFn : Hid (F = some (acc, k' + 1)) := by rw [← H.out, HD.out]; exact hid (Lexy.fin_quote acc k' _)
    go_wp2
    go_quiet (fail)
    go_wp2
    go_quiet (fail)
    go_wp2_with (first | (refine wpList_of_bytes rfl 51 9 5 (.tmp 44) rfl Tryz.underlying51 Tryz.underlying5 Tryz.underlying9 u4 rfl (w.heap.size + 1) acc (ownsRow_setCell_below hown (a := ⟨b, 1, none⟩) (by simp; omega) _) ?_) | (refine wpList_store_box rfl 40 (.tmp 2) (.tmp 46) rfl w.heap.size #[.int .i64 _, .int .i64 0, .int .i64 0, .string ⟨acc.toArray⟩, .int .i64 0] rfl rfl 40 _ ((hx.drewN _).far (by simp; omega) _) info_tok5 rfl (tok_one _ _ _ _ _) ?_; intro w6 hx6 hu6 hz6))
    refine bodyPost_ret (results_box_tmp rfl _ _ w.heap.size 40 _ _ rfl hx6 Tryz.underlying40 rfl info_tok5) rfl ?_
    rw [← HR.out, HFn.out]
    refine ⟨rfl, ?_, ((hu.drewN _).set (.inl rfl) _).far hu6 (Nat.le_refl _)⟩
    rw [show k + (k' + 1 - k) = k' + 1 by omega]
    exact Box.grown ((hr.drewN _).moveI _ (k' + 1) (by omega)) hu6 (by simp; omega)
   ·have n34 : ((c.toNat : Int) == 34) = false := byte_ne (d := 34) h34
    by_cases hlow : c.toNat < 32
    ·have HFn : Hid (F = none) := by rw [← H.out, HD.out]; exact hid (Lexy.fin_low acc k' _ hlow)
     have e32 : decide ((c.toNat : Int) < 32) = true := by simp; omega
     clear hlow
     go_wp2
     go_quiet (fail)
     go_wp2
     go_quiet (fail)
     go_wp2_with (refine wpList_store_box rfl 40 (.tmp 2) (.tmp 50) rfl w.heap.size #[.int .i64 0, .int .i64 0, .int .i64 0, .string ⟨#[]⟩, .int .i64 0] rfl rfl 40 _ ((hx.drewN _).far (by simp; omega) _) info_tok5 rfl (tok_one _ _ _ _ _) ?_; intro w6 hx6 hu6 hz6)
     refine bodyPost_ret (results_box_tmp rfl _ _ w.heap.size 40 _ _ rfl hx6 Tryz.underlying40 rfl info_tok5) rfl ?_
     rw [← HR.out, HFn.out]
     exact ⟨rfl, ((hu.drewN _).set (.inl rfl) _).far hu6 (Nat.le_refl _)⟩
    ·have e32 : decide ((c.toNat : Int) < 32) = false := by simp; omega
     by_cases h92 : c = 92
     ·subst h92
      clear n34 e32 h34 hlow
      have hesc := HEsc.out (k' + 1)
      rw [HL.out] at hesc
      cases hes : Lexy.esc (l.drop (k' + 1)) with
      | none =>
       have HFn : Hid (F = none) := by rw [← H.out, HD.out]; exact hid (Lexy.fin_bad acc k' _ hes)
       rw [show escV (l.drop (k' + 1)) = (0, 0) by unfold escV; rw [hes]; rfl] at hesc
       have HE := hid hesc
       clear hesc hes
       go_wp2
       go_quiet (fail)
       go_wp2
       go_quiet (fail)
       go_wp2_with fail
       refine (HE.out _ ((hr.drewN _).moveI _ (k' + 1) (by omega)) (by omega)).mono ?_
       rintro e w3 ⟨rfl, n3, rfl⟩
       go_wp2_with (refine wpList_store_box rfl 40 (.tmp 2) (.tmp 61) rfl w.heap.size #[.int .i64 0, .int .i64 0, .int .i64 0, .string ⟨#[]⟩, .int .i64 0] rfl rfl 40 _ (((hx.drewN _).far (by simp; omega) _).drewN _) info_tok5 rfl (tok_one _ _ _ _ _) ?_; intro w6 hx6 hu6 hz6)
       refine bodyPost_ret (results_box_tmp rfl _ _ w.heap.size 40 _ _ rfl hx6 Tryz.underlying40 rfl info_tok5) rfl ?_
       rw [← HR.out, HFn.out]
       exact ⟨rfl, (((hu.drewN _).set (.inl rfl) _).drewN _).far hu6 (Nat.le_refl _)⟩
      | some dn =>
       obtain ⟨d, n⟩ := dn
       obtain ⟨_, hn1, hn0⟩ := Lexy.esc_app (z := []) hes
       rw [List.length_drop, HS.out] at hn1
       have HN : Hid (Lexy.fin (acc ++ [d]) (k' + 1 + n) (l.drop (k' + 1 + n)) = F) := by
        rw [← H.out, HD.out, Lexy.fin_esc acc k' _ hes, List.drop_drop]; exact hid rfl
       rw [show escV (l.drop (k' + 1)) = (d, n) by unfold escV; rw [hes]; rfl] at hesc
       have HE := hid hesc
       have hn00 : ((n : Int) == 0) = false := by simp; omega
       clear hesc hes
       go_wp2
       go_quiet (fail)
       go_wp2
       go_quiet (fail)
       go_wp2_with fail
       refine (HE.out _ ((hr.drewN _).moveI _ (k' + 1) (by omega)) (by omega)).mono ?_
       rintro e w3 ⟨rfl, n3, rfl⟩
       go_wp2_with (at_builtin; refine wpList_append_own _ rfl (.tmp 71) (.tmp 73) 51 rfl (w.heap.size + 1) 5 i0 (.int .u8 0) 1 1 Tryz.underlying51 hi0 hz0 hz1 hz2 rfl (by decide) u4 acc.length (byteCells acc) rfl ((ownsRow_setCell_below (ownsRow_setCell_below hown (a := ⟨b, 1, none⟩) (by simp; omega) _) (a := ⟨b, 1, none⟩) (by simp; omega) _).alloc _) ⟨wr.heap.size, 0, none⟩ 1 1 [.int .u8 (d.toNat : Int)] rfl rfl (one_new _ _ _ _ (by simp)) (one_cell _) (by unfold maxLen; omega) (by omega) (by simp; omega) ?_; intro v2 w7 hown7 hgrow7 hnil7)
       have hb7 : Below (w.heap.size + 1) _ w7 := below_grown hgrow7 (by simp; omega) (fun g hg => (hown.lt g hg).1)
       go_wp2
       go_roundg (s.size - (k' + 1 + n))
       case measure => rw [HG.out]; omega
       case rel => exact ⟨k' + 1 + n, acc ++ [d], by omega, by omega, rfl, by simp; omega, Rd.below ((Rd.moveI (((hr.drewN _).moveI _ (k' + 1) (by omega)).drewN _) _ (k' + 1 + n) (by omega)).alloc _) hb7 (by omega), Box.below (((((hx.drewN _).far (by simp; omega) _).drewN _).far (by simp; omega) _).alloc _) hb7 (by omega), (((((hu.drewN _).set (.inl rfl) _).drewN _).set (.inl rfl) _).alloc _).thenB (hb7.mono (by omega)), by simpa [byteCells] using hown7, HN⟩
     ·have n92 : ((c.toNat : Int) == 92) = false := byte_ne (d := 92) h92
      have HN : Hid (Lexy.fin (acc ++ [c]) (k' + 1) (l.drop (k' + 1)) = F) := by
       rw [← H.out, HD.out]; exact hid (Lexy.fin_byte acc k' _ h34 hlow h92).symm
      clear h34 hlow h92
      go_wp2
      go_quiet (fail)
      go_wp2
      go_quiet (fail)
      go_wp2_with (at_builtin; refine wpList_append_own _ rfl (.tmp 71) (.tmp 73) 51 rfl (w.heap.size + 1) 5 i0 (.int .u8 0) 1 1 Tryz.underlying51 hi0 hz0 hz1 hz2 rfl (by decide) u4 acc.length (byteCells acc) rfl ((ownsRow_setCell_below hown (a := ⟨b, 1, none⟩) (by simp; omega) _).alloc _) ⟨wr.heap.size, 0, none⟩ 1 1 [.int .u8 (c.toNat : Int)] rfl rfl (one_new _ _ _ _ (by simp)) (one_cell _) (by unfold maxLen; omega) (by omega) (by simp; omega) ?_; intro v2 w7 hown7 hgrow7 hnil7)
      have hb7 : Below (w.heap.size + 1) _ w7 := below_grown hgrow7 (by simp; omega) (fun g hg => (hown.lt g hg).1)
      go_wp2
      go_roundg (s.size - (k' + 1))
      case measure => rw [HG.out]; omega
      case rel => exact ⟨k' + 1, acc ++ [c], by omega, by omega, rfl, by simp; omega, Rd.below (((hr.drewN _).moveI _ (k' + 1) (by omega)).alloc _) hb7 (by omega), Box.below (((hx.drewN _).far (by simp; omega) _).alloc _) hb7 (by omega), (((hu.drewN _).set (.inl rfl) _).alloc _).thenB (hb7.mono (by omega)), by simpa [byteCells] using hown7, HN⟩
  ·have hl1 : decide ((k' : Int) < s.size) = false := by simp; omega
   have HFn : Hid (F = none) := by rw [← H.out, List.drop_eq_nil_of_le (by rw [HS.out]; omega)]; exact hid (Lexy.fin_nil acc k')
   go_wp2
   go_quiet (fail)
   go_wp2_with (refine wpList_store_box rfl 40 (.tmp 2) (.tmp 75) rfl w.heap.size #[.int .i64 0, .int .i64 0, .int .i64 0, .string ⟨#[]⟩, .int .i64 0] rfl rfl 40 _ (hx.drewN _) info_tok5 rfl (tok_one _ _ _ _ _) ?_; intro w6 hx6 hu6 hz6)
   refine bodyPost_ret (results_box_tmp rfl _ _ w.heap.size 40 _ _ rfl hx6 Tryz.underlying40 rfl info_tok5) rfl ?_
   rw [← HR.out, HFn.out]
   exact ⟨rfl, (hu.drewN _).far hu6 (Nat.le_refl _)⟩
end Go.Proofs.YtonjdlialejedaaGreatDoor.Jl
