/-
  Texts that the law leans on: JlI, JlJ, JlK, JlL, PmX, PmY, PwE. Conditions: as each says.
-/
import Derived.Test.YtonjdlialejedaaGreatDoorFAj
import Derived.Test.YtonjdlialejedaaGreatDoorFAa
import Derived.OwnWalk
import Derived.Deep.RegionLaw
import Derived.Deep.AppendLies
import Derived.RegionTactic
import Derived.BigRegion
import Derived.Test.YtonjdlialejedaaGreatDoorFAi
import Derived.Laws.ResultCell
import Derived.Test.YtonjdlialejedaaGreatDoorFAc
set_option linter.unusedSimpArgs false
set_option linter.unusedVariables false
namespace Go.Proofs.YtonjdlialejedaaGreatDoor.Jl
open Go.Lib (hid)
open Go.RowKit
def byteCells (acc : Lexy.Bs) : List Value := acc.map fun c => Value.int .u8 (c.toNat : Int)
theorem wpList_of_bytes {P : Program} {ops : Array Oper} {rest : List Oper} {o : Oper} {a : Act} {w : World} {Q : Exit → Act → World → Prop} (hgd : o.guard = none) (src dst e : TypeId) (x : Operand) (ho : o.op = .convert src dst x)
  (hs : P.underlying src = some (.slice e)) (he : P.underlying e = some (.int .u8)) (hd : P.underlying dst = some .string) (v : Value) (hx : a.eval x = v) (base : Nat) (acc : Lexy.Bs)
  (hown : w.ownsRow base e 1 v acc.length (byteCells acc)) (h : wpList P ops Q rest (a.put o.dst (.string ⟨acc.toArray⟩)) w) : wpList P ops Q (o :: rest) a w := by
 have hrun : (convert src dst v).run P w = .ok (.string ⟨acc.toArray⟩) w := by
  rcases hown.2 with ⟨rfl, hn⟩ | ⟨g, cap, cur, rfl, hb, hg, rest⟩
  ·have : acc = [] := by cases acc with | nil => rfl | cons c r => simp at hn
   subst this
   rw [run_convert_bytes_string w src dst e none 0 0 hs he hd]
   rfl
  ·have hcells := hown.cells (g := g) rfl
   have := run_convert_bytes_back (P := P) w src dst e ⟨g, 0, none⟩ cap acc hs he hd (fun j hj => hcells j _ (by simp [byteCells, hj]))
   exact this
 refine wpList_plain hgd fun _ hK => ?_
 unfold Oper.wp execOp
 simp only [ho, hx, Sem.run_bind, hrun, Result.andThen_ok, Sem.run_pure]
 exact hK _ _ h
theorem info_u8 : (Tryz.prog.info? 5).map (fun i => (i.zero, i.size, i.bytes)) = some (some (.int .u8 0), 1, 1) := by kernel_rfl
theorem own_far {w w' : World} {base b : Nat} {e : TypeId} {size : Nat} {v : Value} {n : Nat} {xs : List Value} (h : w.ownsRow base e size v n xs) (hu : Upd w w' b) (hb : b < base) : w'.ownsRow base e size v n xs :=
 h.kept hu (by
  cases hv : v.ownBlock with
  | none => exact .inl rfl
  | some g => refine .inr ?_; have := (h.lt g hv).1; simp; omega)
theorem _root_.Go.Proofs.YtonjdlialejedaaGreatDoor.Upd.thenB {a w w1 : World} {b : Nat} (h : Upd a w b) (k : Below a.heap.size w w1) : Upd a w1 b :=
 ⟨k.os.trans h.os, k.tape.trans h.tape, k.output.trans h.output, Nat.le_trans h.size k.size, fun i hi hn => (k.block i hi).trans (h.block i hi hn)⟩
theorem one_new (w : World) (x : Value) (t : TypeId) (g : Nat) (hg : w.heap.size = g) : ∀ (j : Nat) (u : Value), [x][j]? = some u → (w.alloc (.cells #[x] t)).cell? ((⟨g, 0, none⟩ : Addr).add j) = some u := by
 subst hg
 intro j u hj
 cases j with
 | zero =>
  simp at hj
  subst hj
  have h := (Box.new w t #[x]).cell 0
  exact h
 | succ j => simp at hj
theorem one_cell (n : Int) : ∀ u ∈ [Value.int .u8 n], u.oneCell' = true := by intro u hu; simp at hu; subst hu; rfl
def tres (k : Nat) : Option (Lexy.Bs × Nat) → Lexy.Res (Lexy.Tk × Nat)
 | none => .err 4
 | some (t, p) => .ok (⟨3, t, 0⟩, p - k)
set_option maxRecDepth 100000 in
set_option maxHeartbeats 2000000 in
theorem text_any (b : Nat) (s : ByteArray) (k : Nat) (o : Value) (w : World) (h : Rd w b s k o) (hk : k < s.size) (hm : s.size ≤ 1000000) :
  Calls Tryz.prog 44 #[.pointer (some ⟨b, 0, none⟩)] w fun e w' =>
   Out w b s k o (match Lexy.txt (s.data.toList.drop (k + 1)) with
    | none => .err 4
    | some (t, m) => .ok (⟨3, t, 0⟩, 1 + m)) e w' := by
 have hlt := Box.lt h
 obtain ⟨l, hl⟩ : ∃ l, s.data.toList = l := ⟨_, rfl⟩
 have hsz : l.length = s.size := by rw [← hl]; simp
 obtain ⟨F, hF⟩ : ∃ F, Lexy.fin [] (k + 1) (l.drop (k + 1)) = F := ⟨_, rfl⟩
 obtain ⟨R, hR⟩ : ∃ R : Lexy.Res (Lexy.Tk × Nat), tres k F = R := ⟨_, rfl⟩
 have hgoal : (match Lexy.txt (s.data.toList.drop (k + 1)) with
    | none => (.err 4 : Lexy.Res (Lexy.Tk × Nat))
    | some (t, m) => .ok (⟨3, t, 0⟩, 1 + m)) = R := by
  rw [← hR, ← hF, hl]
  unfold Lexy.fin
  cases Lexy.txt (l.drop (k + 1)) with
  | none => rfl
  | some x => simp [tres]; omega
 rw [hgoal]
 have HL := hid hl
 have HS := hid hsz
 have HF := hid hF
 have HR := hid hR
 have HEsc := hid (fun (k' : Nat) w (h : Rd w b s k' o) (hk : k' ≤ s.size) => escape_any b s k' o w h hk hm)
 clear hl hsz hF hR hgoal
 obtain ⟨i0, hi0, hz0, hz1, hz2⟩ := info_parts info_u8
 have hs0 := h.text; have hp0 := h.place; have hf0 := h.free 1
 go_enter Tryz.func44, Tryz.ntmps44
 go_wp2
 clear hs0 hp0 hf0
 go_loopg [4] (s.size - (k + 1)) (fun g v wr => ∃ (k' : Nat) (acc : Lexy.Bs), k + 1 ≤ k' ∧ k' ≤ s.size ∧ g = s.size - k' ∧ acc.length ≤ k' ∧ Rd wr b s k' o ∧ Box wr w.heap.size 40 #[.int .i64 0, .int .i64 0, .int .i64 0, .string ⟨#[]⟩, .int .i64 0] ∧ Upd w wr b ∧
  wr.ownsRow (w.heap.size + 1) 5 1 v acc.length (byteCells acc) ∧ Hid (Lexy.fin acc k' (l.drop k') = F))
 case atStart =>
  exact ⟨k + 1, [], Nat.le_refl _, hk, rfl, Nat.zero_le _, (h.moveI _ (k + 1) (by omega)).alloc _, by simpa using Box.new (w.setCell ⟨b, 1, none⟩ (.int .i64 ((k : Int) + 1))) 40 #[.int .i64 0, .int .i64 0, .int .i64 0, .string ⟨#[]⟩, .int .i64 0], ((Upd.refl w b).set (.inl rfl) _).alloc _, World.ownsRow_nil _ _ _ _, HF⟩
 case round =>
  obtain ⟨k', acc, hkk, hks, hg, hal, hr, hx, hu, hown, H⟩ := hrel
  have HG := hid hg; clear hg
  have hwz : w.heap.size < wr.heap.size := hx.lt
  have hs0 := hr.text; have hp0 := hr.place; have hf := hr.free 1
  by_cases hlt' : k' < s.size
  ·obtain ⟨c, hc⟩ : ∃ c, l[k']? = some c := ⟨_, List.getElem?_eq_getElem (by rw [HS.out]; exact hlt')⟩
   have hl1 : decide ((k' : Int) < s.size) = true := by simp; omega
   have hi := fun w => run_at s c (k' : Int) (by omega) (by rw [HL.out]; exact hc) w
   have hd : l.drop k' = c :: l.drop (k' + 1) := by
    obtain ⟨h1, h2⟩ := List.getElem?_eq_some_iff.1 hc
    rw [List.drop_eq_getElem_cons h1, h2]
   have HD := hid hd
   clear hc hd
   by_cases h34 : c = 34
   ·subst h34
    have HFn : Hid (F = some (acc, k' + 1)) := by rw [← H.out, HD.out]; exact hid (Lexy.fin_quote acc k' _)
    go_wp2
    go_quiet (fail)
    go_wp2
    go_quiet (fail)
    go_wp2_with (first | (refine wpList_of_bytes rfl 51 9 5 (.tmp 44) rfl Tryz.underlying51 Tryz.underlying5 Tryz.underlying9 u4 rfl (w.heap.size + 1) acc (ownsRow_setCell_below hown (a := ⟨b, 1, none⟩) (by simp; omega) _) ?_) | (refine wpList_store_box rfl 40 (.tmp 2) (.tmp 46) rfl w.heap.size #[.int .i64 _, .int .i64 0, .int .i64 0, .string ⟨acc.toArray⟩, .int .i64 0] rfl rfl 40 _ ((hx.drewN _).far (by simp; omega) _) info_tok5 rfl (tok_one _ _ _ _ _) ?_; intro w6 hx6 hu6 hz6))
    refine bodyPost_ret (results_box_tmp rfl _ _ w.heap.size 40 _ _ rfl hx6 Tryz.underlying40 rfl info_tok5) rfl ?_
    rw [← HR.out, HFn.out]
    refine ⟨rfl, ?_, ((hu.drewN _).set (.inl rfl) _).far hu6 (Nat.le_refl _)⟩
    rw [show k + (k' + 1 - k) = k' + 1 by omega]
    exact Box.grown ((hr.drewN _).moveI _ (k' + 1) (by omega)) hu6 (by simp; omega)
   ·have n34 : ((c.toNat : Int) == 34) = false := byte_ne (d := 34) h34
    by_cases hlow : c.toNat < 32
    ·have HFn : Hid (F = none) := by rw [← H.out, HD.out]; exact hid (Lexy.fin_low acc k' _ hlow)
     have e32 : decide ((c.toNat : Int) < 32) = true := by simp; omega
     clear hlow
     go_wp2
     go_quiet (fail)
     go_wp2
     go_quiet (fail)
     go_wp2_with (refine wpList_store_box rfl 40 (.tmp 2) (.tmp 50) rfl w.heap.size #[.int .i64 0, .int .i64 0, .int .i64 0, .string ⟨#[]⟩, .int .i64 0] rfl rfl 40 _ ((hx.drewN _).far (by simp; omega) _) info_tok5 rfl (tok_one _ _ _ _ _) ?_; intro w6 hx6 hu6 hz6)
     refine bodyPost_ret (results_box_tmp rfl _ _ w.heap.size 40 _ _ rfl hx6 Tryz.underlying40 rfl info_tok5) rfl ?_
     rw [← HR.out, HFn.out]
     exact ⟨rfl, ((hu.drewN _).set (.inl rfl) _).far hu6 (Nat.le_refl _)⟩
    ·have e32 : decide ((c.toNat : Int) < 32) = false := by simp; omega
     by_cases h92 : c = 92
     ·subst h92
      clear n34 e32 h34 hlow
      have hesc := HEsc.out (k' + 1)
      rw [HL.out] at hesc
      cases hes : Lexy.esc (l.drop (k' + 1)) with
      | none =>
       have HFn : Hid (F = none) := by rw [← H.out, HD.out]; exact hid (Lexy.fin_bad acc k' _ hes)
       rw [show escV (l.drop (k' + 1)) = (0, 0) by unfold escV; rw [hes]; rfl] at hesc
       have HE := hid hesc
       clear hesc hes
       go_wp2
       go_quiet (fail)
       go_wp2
       go_quiet (fail)
       go_wp2_with fail
       refine (HE.out _ ((hr.drewN _).moveI _ (k' + 1) (by omega)) (by omega)).mono ?_
       rintro e w3 ⟨rfl, n3, rfl⟩
       go_wp2_with (refine wpList_store_box rfl 40 (.tmp 2) (.tmp 61) rfl w.heap.size #[.int .i64 0, .int .i64 0, .int .i64 0, .string ⟨#[]⟩, .int .i64 0] rfl rfl 40 _ (((hx.drewN _).far (by simp; omega) _).drewN _) info_tok5 rfl (tok_one _ _ _ _ _) ?_; intro w6 hx6 hu6 hz6)
       refine bodyPost_ret (results_box_tmp rfl _ _ w.heap.size 40 _ _ rfl hx6 Tryz.underlying40 rfl info_tok5) rfl ?_
       rw [← HR.out, HFn.out]
       exact ⟨rfl, (((hu.drewN _).set (.inl rfl) _).drewN _).far hu6 (Nat.le_refl _)⟩
      | some dn =>
       obtain ⟨d, n⟩ := dn
       obtain ⟨_, hn1, hn0⟩ := Lexy.esc_app (z := []) hes
       rw [List.length_drop, HS.out] at hn1
       have HN : Hid (Lexy.fin (acc ++ [d]) (k' + 1 + n) (l.drop (k' + 1 + n)) = F) := by
        rw [← H.out, HD.out, Lexy.fin_esc acc k' _ hes, List.drop_drop]; exact hid rfl
       rw [show escV (l.drop (k' + 1)) = (d, n) by unfold escV; rw [hes]; rfl] at hesc
       have HE := hid hesc
       have hn00 : ((n : Int) == 0) = false := by simp; omega
       clear hesc hes
       go_wp2
       go_quiet (fail)
       go_wp2
       go_quiet (fail)
       go_wp2_with fail
       refine (HE.out _ ((hr.drewN _).moveI _ (k' + 1) (by omega)) (by omega)).mono ?_
       rintro e w3 ⟨rfl, n3, rfl⟩
       go_wp2_with (at_builtin; refine wpList_append_own _ rfl (.tmp 71) (.tmp 73) 51 rfl (w.heap.size + 1) 5 i0 (.int .u8 0) 1 1 Tryz.underlying51 hi0 hz0 hz1 hz2 rfl (by decide) u4 acc.length (byteCells acc) rfl ((ownsRow_setCell_below (ownsRow_setCell_below hown (a := ⟨b, 1, none⟩) (by simp; omega) _) (a := ⟨b, 1, none⟩) (by simp; omega) _).alloc _) ⟨wr.heap.size, 0, none⟩ 1 1 [.int .u8 (d.toNat : Int)] rfl rfl (one_new _ _ _ _ (by simp)) (one_cell _) (by unfold maxLen; omega) (by omega) (by simp; omega) ?_; intro v2 w7 hown7 hgrow7 hnil7)
       have hb7 : Below (w.heap.size + 1) _ w7 := below_grown hgrow7 (by simp; omega) (fun g hg => (hown.lt g hg).1)
       go_wp2
       go_roundg (s.size - (k' + 1 + n))
       case measure => rw [HG.out]; omega
       case rel => exact ⟨k' + 1 + n, acc ++ [d], by omega, by omega, rfl, by simp; omega, Rd.below ((Rd.moveI (((hr.drewN _).moveI _ (k' + 1) (by omega)).drewN _) _ (k' + 1 + n) (by omega)).alloc _) hb7 (by omega), Box.below (((((hx.drewN _).far (by simp; omega) _).drewN _).far (by simp; omega) _).alloc _) hb7 (by omega), (((((hu.drewN _).set (.inl rfl) _).drewN _).set (.inl rfl) _).alloc _).thenB (hb7.mono (by omega)), by simpa [byteCells] using hown7, HN⟩
     ·have n92 : ((c.toNat : Int) == 92) = false := byte_ne (d := 92) h92
      have HN : Hid (Lexy.fin (acc ++ [c]) (k' + 1) (l.drop (k' + 1)) = F) := by
       rw [← H.out, HD.out]; exact hid (Lexy.fin_byte acc k' _ h34 hlow h92).symm
      clear h34 hlow h92
      go_wp2
      go_quiet (fail)
      go_wp2
      go_quiet (fail)
      go_wp2_with (at_builtin; refine wpList_append_own _ rfl (.tmp 71) (.tmp 73) 51 rfl (w.heap.size + 1) 5 i0 (.int .u8 0) 1 1 Tryz.underlying51 hi0 hz0 hz1 hz2 rfl (by decide) u4 acc.length (byteCells acc) rfl ((ownsRow_setCell_below hown (a := ⟨b, 1, none⟩) (by simp; omega) _).alloc _) ⟨wr.heap.size, 0, none⟩ 1 1 [.int .u8 (c.toNat : Int)] rfl rfl (one_new _ _ _ _ (by simp)) (one_cell _) (by unfold maxLen; omega) (by omega) (by simp; omega) ?_; intro v2 w7 hown7 hgrow7 hnil7)
      have hb7 : Below (w.heap.size + 1) _ w7 := below_grown hgrow7 (by simp; omega) (fun g hg => (hown.lt g hg).1)
      go_wp2
      go_roundg (s.size - (k' + 1))
      case measure => rw [HG.out]; omega
      case rel => exact ⟨k' + 1, acc ++ [c], by omega, by omega, rfl, by simp; omega, Rd.below (((hr.drewN _).moveI _ (k' + 1) (by omega)).alloc _) hb7 (by omega), Box.below (((hx.drewN _).far (by simp; omega) _).alloc _) hb7 (by omega), (((hu.drewN _).set (.inl rfl) _).alloc _).thenB (hb7.mono (by omega)), by simpa [byteCells] using hown7, HN⟩
  ·have hl1 : decide ((k' : Int) < s.size) = false := by simp; omega
   have HFn : Hid (F = none) := by rw [← H.out, List.drop_eq_nil_of_le (by rw [HS.out]; omega)]; exact hid (Lexy.fin_nil acc k')
   go_wp2
   go_quiet (fail)
   go_wp2_with (refine wpList_store_box rfl 40 (.tmp 2) (.tmp 75) rfl w.heap.size #[.int .i64 0, .int .i64 0, .int .i64 0, .string ⟨#[]⟩, .int .i64 0] rfl rfl 40 _ (hx.drewN _) info_tok5 rfl (tok_one _ _ _ _ _) ?_; intro w6 hx6 hu6 hz6)
   refine bodyPost_ret (results_box_tmp rfl _ _ w.heap.size 40 _ _ rfl hx6 Tryz.underlying40 rfl info_tok5) rfl ?_
   rw [← HR.out, HFn.out]
   exact ⟨rfl, (hu.drewN _).far hu6 (Nat.le_refl _)⟩
end Go.Proofs.YtonjdlialejedaaGreatDoor.Jl
namespace Go.Proofs.YtonjdlialejedaaGreatDoor.Jl
open Go.Lib (hid)
open Go.RowKit
def tokC (t : Lexy.Tk) (lo hi : Nat) : Array Value := #[.int .i64 (t.kind : Int), .int .i64 (lo : Int), .int .i64 (hi : Int), .string (bytes t.text), .int .i64 (t.num : Int)]
theorem tokC_one (t : Lexy.Tk) (lo hi : Nat) : (tokC t lo hi).all (·.oneCell') = true := tok_one _ _ _ _ _
theorem letter_is (c : UInt8) (p : Bool) (h : Lexy.isLetter c = p) (w : World) : Calls Tryz.prog 40 #[.int .u8 (c.toNat : Int)] w fun e w' => e = .returned (.bool p) ∧ w = w' := by
 rw [← h]; exact letter_any c w
theorem digit_is (c : UInt8) (p : Bool) (h : Lexy.isDigit c = p) (w : World) : Calls Tryz.prog 42 #[.int .u8 (c.toNat : Int)] w fun e w' => e = .returned (.bool p) ∧ w = w' := by
 rw [← h]; exact digit_any c w
set_option maxRecDepth 100000 in
set_option maxHeartbeats 1000000 in
theorem next_number (b : Nat) (s : ByteArray) (k : Nat) (o : Value) (w : World) (h : Rd w b s k o) (hk : k ≤ s.size) (hm : s.size ≤ 1000000) (c : UInt8) (hc : ((s.data.toList.drop k)[0]?).getD 0 = c) (hl : Lexy.isLetter c = false) (hd : Lexy.isDigit c = true)
  (r : Lexy.Res (Lexy.Tk × Nat)) (H : ∀ w1, Below w.heap.size w w1 → Rd w1 b s k o → Calls Tryz.prog 43 #[.pointer (some ⟨b, 0, none⟩)] w1 fun e w' => Out w1 b s k o r e w') :
  Calls Tryz.prog 24 #[.pointer (some ⟨b, 0, none⟩)] w fun e w' => Out w b s k o r e w' := by
 have P0 : Hid (∀ w, Rd w b s k o → Calls Tryz.prog 38 #[.pointer (some ⟨b, 0, none⟩), .int .i64 0] w fun e w' => e = .returned (.int .u8 (c.toNat : Int)) ∧ ∃ n, w' = w.drewN n) := by
  intro w h
  have := peek_any b s k 0 o w h hk hm (by omega)
  rw [hc] at this
  exact this
 have HH := hid H
 have hlt := Box.lt h
 clear H hc
 have HLt := hid (fun w => letter_is c false hl w)
 clear hl
 have HDg := hid (fun w => digit_is c true hd w)
 clear hd
 cases r with
 | err n =>
  go_enter Tryz.func24, Tryz.ntmps24
  go_wp2_with fail
  refine (P0.out _ (h.alloc _)).mono ?_
  rintro e w1 ⟨rfl, m1, rfl⟩
  go_wp2_with fail
  refine (HLt.out _).mono ?_
  rintro e w1 ⟨rfl, rfl⟩
  go_wp2_with fail
  refine (HDg.out _).mono ?_
  rintro e w1 ⟨rfl, rfl⟩
  go_wp2_with fail
  refine (HH.out _ (below_drewN ((Below.refl _ w).alloc (Nat.le_refl _) _) _) ((h.alloc _).drewN _)).mono ?_
  rintro e w2 ⟨rfl, hu2⟩
  have htk : Box w2 w.heap.size 40 #[.int .i64 0, .int .i64 0, .int .i64 0, .string ⟨#[]⟩, .int .i64 0] := Box.grown ((Box.new w _ _).drewN _) hu2 (by simp; omega)
  have hup : Upd w w2 b := (((Upd.refl w b).alloc _).drewN _).trans hu2
  go_wp2_with (refine wpList_store_box rfl 40 (.tmp 2) (.tmp 17) rfl w.heap.size (tokC ⟨0, [], 0⟩ 0 0) rfl rfl 40 _ htk info_tok5 rfl (tokC_one _ _ _) ?_; intro w6 hx6 hu6 hz6)
  refine bodyPost_ret (results_box_tmp rfl _ _ w.heap.size 40 _ _ rfl hx6 Tryz.underlying40 rfl info_tok5) rfl ?_
  exact ⟨rfl, hup.far hu6 (Nat.le_refl _)⟩
 | ok tn =>
  obtain ⟨t, n⟩ := tn
  go_enter Tryz.func24, Tryz.ntmps24
  go_wp2_with fail
  refine (P0.out _ (h.alloc _)).mono ?_
  rintro e w1 ⟨rfl, m1, rfl⟩
  go_wp2_with fail
  refine (HLt.out _).mono ?_
  rintro e w1 ⟨rfl, rfl⟩
  go_wp2_with fail
  refine (HDg.out _).mono ?_
  rintro e w1 ⟨rfl, rfl⟩
  go_wp2_with fail
  refine (HH.out _ (below_drewN ((Below.refl _ w).alloc (Nat.le_refl _) _) _) ((h.alloc _).drewN _)).mono ?_
  rintro e w2 ⟨rfl, hr2, hu2⟩
  have htk : Box w2 w.heap.size 40 #[.int .i64 0, .int .i64 0, .int .i64 0, .string ⟨#[]⟩, .int .i64 0] := Box.grown ((Box.new w _ _).drewN _) hu2 (by simp; omega)
  have hup : Upd w w2 b := (((Upd.refl w b).alloc _).drewN _).trans hu2
  go_wp2_with (refine wpList_store_box rfl 40 (.tmp 2) (.tmp 17) rfl w.heap.size (tokC t 0 0) rfl rfl 40 _ htk info_tok5 rfl (tokC_one _ _ _) ?_; intro w6 hx6 hu6 hz6)
  refine bodyPost_ret (results_box_tmp rfl _ _ w.heap.size 40 _ _ rfl hx6 Tryz.underlying40 rfl info_tok5) rfl ?_
  exact ⟨rfl, Box.grown hr2 hu6 (by simp; omega), hup.far hu6 (Nat.le_refl _)⟩
set_option maxRecDepth 100000 in
set_option maxHeartbeats 1000000 in
theorem next_text (b : Nat) (s : ByteArray) (k : Nat) (o : Value) (w : World) (h : Rd w b s k o) (hk : k ≤ s.size) (hm : s.size ≤ 1000000) (c : UInt8) (hc : ((s.data.toList.drop k)[0]?).getD 0 = c) (hl : Lexy.isLetter c = false) (hd : Lexy.isDigit c = false) (hq : ((c.toNat : Int) == 34) = true)
  (r : Lexy.Res (Lexy.Tk × Nat)) (H : ∀ w1, Below w.heap.size w w1 → Rd w1 b s k o → Calls Tryz.prog 44 #[.pointer (some ⟨b, 0, none⟩)] w1 fun e w' => Out w1 b s k o r e w') :
  Calls Tryz.prog 24 #[.pointer (some ⟨b, 0, none⟩)] w fun e w' => Out w b s k o r e w' := by
 have P0 : Hid (∀ w, Rd w b s k o → Calls Tryz.prog 38 #[.pointer (some ⟨b, 0, none⟩), .int .i64 0] w fun e w' => e = .returned (.int .u8 (c.toNat : Int)) ∧ ∃ n, w' = w.drewN n) := by
  intro w h
  have := peek_any b s k 0 o w h hk hm (by omega)
  rw [hc] at this
  exact this
 have HH := hid H
 have hlt := Box.lt h
 clear H hc
 have HLt := hid (fun w => letter_is c false hl w)
 clear hl
 have HDg := hid (fun w => digit_is c false hd w)
 clear hd
 cases r with
 | err n =>
  go_enter Tryz.func24, Tryz.ntmps24
  go_wp2_with fail
  refine (P0.out _ (h.alloc _)).mono ?_
  rintro e w1 ⟨rfl, m1, rfl⟩
  go_wp2_with fail
  refine (HLt.out _).mono ?_
  rintro e w1 ⟨rfl, rfl⟩
  go_wp2_with fail
  refine (HDg.out _).mono ?_
  rintro e w1 ⟨rfl, rfl⟩
  go_wp2_with fail
  refine (HH.out _ (below_drewN ((Below.refl _ w).alloc (Nat.le_refl _) _) _) ((h.alloc _).drewN _)).mono ?_
  rintro e w2 ⟨rfl, hu2⟩
  have htk : Box w2 w.heap.size 40 #[.int .i64 0, .int .i64 0, .int .i64 0, .string ⟨#[]⟩, .int .i64 0] := Box.grown ((Box.new w _ _).drewN _) hu2 (by simp; omega)
  have hup : Upd w w2 b := (((Upd.refl w b).alloc _).drewN _).trans hu2
  go_wp2_with (refine wpList_store_box rfl 40 (.tmp 2) (.tmp 24) rfl w.heap.size (tokC ⟨0, [], 0⟩ 0 0) rfl rfl 40 _ htk info_tok5 rfl (tokC_one _ _ _) ?_; intro w6 hx6 hu6 hz6)
  refine bodyPost_ret (results_box_tmp rfl _ _ w.heap.size 40 _ _ rfl hx6 Tryz.underlying40 rfl info_tok5) rfl ?_
  exact ⟨rfl, hup.far hu6 (Nat.le_refl _)⟩
 | ok tn =>
  obtain ⟨t, n⟩ := tn
  go_enter Tryz.func24, Tryz.ntmps24
  go_wp2_with fail
  refine (P0.out _ (h.alloc _)).mono ?_
  rintro e w1 ⟨rfl, m1, rfl⟩
  go_wp2_with fail
  refine (HLt.out _).mono ?_
  rintro e w1 ⟨rfl, rfl⟩
  go_wp2_with fail
  refine (HDg.out _).mono ?_
  rintro e w1 ⟨rfl, rfl⟩
  go_wp2_with fail
  refine (HH.out _ (below_drewN ((Below.refl _ w).alloc (Nat.le_refl _) _) _) ((h.alloc _).drewN _)).mono ?_
  rintro e w2 ⟨rfl, hr2, hu2⟩
  have htk : Box w2 w.heap.size 40 #[.int .i64 0, .int .i64 0, .int .i64 0, .string ⟨#[]⟩, .int .i64 0] := Box.grown ((Box.new w _ _).drewN _) hu2 (by simp; omega)
  have hup : Upd w w2 b := (((Upd.refl w b).alloc _).drewN _).trans hu2
  go_wp2_with (refine wpList_store_box rfl 40 (.tmp 2) (.tmp 24) rfl w.heap.size (tokC t 0 0) rfl rfl 40 _ htk info_tok5 rfl (tokC_one _ _ _) ?_; intro w6 hx6 hu6 hz6)
  refine bodyPost_ret (results_box_tmp rfl _ _ w.heap.size 40 _ _ rfl hx6 Tryz.underlying40 rfl info_tok5) rfl ?_
  exact ⟨rfl, Box.grown hr2 hu6 (by simp; omega), hup.far hu6 (Nat.le_refl _)⟩
set_option maxRecDepth 100000 in
set_option maxHeartbeats 1000000 in
theorem next_sign (b : Nat) (s : ByteArray) (k : Nat) (o : Value) (w : World) (h : Rd w b s k o) (hk : k ≤ s.size) (hm : s.size ≤ 1000000) (c : UInt8) (hc : ((s.data.toList.drop k)[0]?).getD 0 = c) (hl : Lexy.isLetter c = false) (hd : Lexy.isDigit c = false) (hq : ((c.toNat : Int) == 34) = false)
  (r : Lexy.Res (Lexy.Tk × Nat)) (H : ∀ w1, Below w.heap.size w w1 → Rd w1 b s k o → Calls Tryz.prog 45 #[.pointer (some ⟨b, 0, none⟩)] w1 fun e w' => Out w1 b s k o r e w') :
  Calls Tryz.prog 24 #[.pointer (some ⟨b, 0, none⟩)] w fun e w' => Out w b s k o r e w' := by
 have P0 : Hid (∀ w, Rd w b s k o → Calls Tryz.prog 38 #[.pointer (some ⟨b, 0, none⟩), .int .i64 0] w fun e w' => e = .returned (.int .u8 (c.toNat : Int)) ∧ ∃ n, w' = w.drewN n) := by
  intro w h
  have := peek_any b s k 0 o w h hk hm (by omega)
  rw [hc] at this
  exact this
 have HH := hid H
 have hlt := Box.lt h
 clear H hc
 have HLt := hid (fun w => letter_is c false hl w)
 clear hl
 have HDg := hid (fun w => digit_is c false hd w)
 clear hd
 cases r with
 | err n =>
  go_enter Tryz.func24, Tryz.ntmps24
  go_wp2_with fail
  refine (P0.out _ (h.alloc _)).mono ?_
  rintro e w1 ⟨rfl, m1, rfl⟩
  go_wp2_with fail
  refine (HLt.out _).mono ?_
  rintro e w1 ⟨rfl, rfl⟩
  go_wp2_with fail
  refine (HDg.out _).mono ?_
  rintro e w1 ⟨rfl, rfl⟩
  go_wp2_with fail
  refine (HH.out _ (below_drewN ((Below.refl _ w).alloc (Nat.le_refl _) _) _) ((h.alloc _).drewN _)).mono ?_
  rintro e w2 ⟨rfl, hu2⟩
  have htk : Box w2 w.heap.size 40 #[.int .i64 0, .int .i64 0, .int .i64 0, .string ⟨#[]⟩, .int .i64 0] := Box.grown ((Box.new w _ _).drewN _) hu2 (by simp; omega)
  have hup : Upd w w2 b := (((Upd.refl w b).alloc _).drewN _).trans hu2
  go_wp2_with (refine wpList_store_box rfl 40 (.tmp 2) (.tmp 28) rfl w.heap.size (tokC ⟨0, [], 0⟩ 0 0) rfl rfl 40 _ htk info_tok5 rfl (tokC_one _ _ _) ?_; intro w6 hx6 hu6 hz6)
  refine bodyPost_ret (results_box_tmp rfl _ _ w.heap.size 40 _ _ rfl hx6 Tryz.underlying40 rfl info_tok5) rfl ?_
  exact ⟨rfl, hup.far hu6 (Nat.le_refl _)⟩
 | ok tn =>
  obtain ⟨t, n⟩ := tn
  go_enter Tryz.func24, Tryz.ntmps24
  go_wp2_with fail
  refine (P0.out _ (h.alloc _)).mono ?_
  rintro e w1 ⟨rfl, m1, rfl⟩
  go_wp2_with fail
  refine (HLt.out _).mono ?_
  rintro e w1 ⟨rfl, rfl⟩
  go_wp2_with fail
  refine (HDg.out _).mono ?_
  rintro e w1 ⟨rfl, rfl⟩
  go_wp2_with fail
  refine (HH.out _ (below_drewN ((Below.refl _ w).alloc (Nat.le_refl _) _) _) ((h.alloc _).drewN _)).mono ?_
  rintro e w2 ⟨rfl, hr2, hu2⟩
  have htk : Box w2 w.heap.size 40 #[.int .i64 0, .int .i64 0, .int .i64 0, .string ⟨#[]⟩, .int .i64 0] := Box.grown ((Box.new w _ _).drewN _) hu2 (by simp; omega)
  have hup : Upd w w2 b := (((Upd.refl w b).alloc _).drewN _).trans hu2
  go_wp2_with (refine wpList_store_box rfl 40 (.tmp 2) (.tmp 28) rfl w.heap.size (tokC t 0 0) rfl rfl 40 _ htk info_tok5 rfl (tokC_one _ _ _) ?_; intro w6 hx6 hu6 hz6)
  refine bodyPost_ret (results_box_tmp rfl _ _ w.heap.size 40 _ _ rfl hx6 Tryz.underlying40 rfl info_tok5) rfl ?_
  exact ⟨rfl, Box.grown hr2 hu6 (by simp; omega), hup.far hu6 (Nat.le_refl _)⟩
set_option maxRecDepth 100000 in
set_option maxHeartbeats 1000000 in
theorem next_name (b : Nat) (s : ByteArray) (k : Nat) (o : Value) (w : World) (h : Rd w b s k o) (he : Env w) (hb : 4 ≤ b) (hk : k ≤ s.size) (hm : s.size ≤ 1000000) (c : UInt8) (hc : ((s.data.toList.drop k)[0]?).getD 0 = c) (hl : Lexy.isLetter c = true) :
  Calls Tryz.prog 24 #[.pointer (some ⟨b, 0, none⟩)] w fun e w' => Out w b s k o (.ok (⟨if (s.data.toList.drop k).take (Lexy.nameLen (s.data.toList.drop k)) ∈ Lexy.kws then 5 else 1, (s.data.toList.drop k).take (Lexy.nameLen (s.data.toList.drop k)), 0⟩, Lexy.nameLen (s.data.toList.drop k))) e w' := by
 have P0 : Hid (∀ w, Rd w b s k o → Calls Tryz.prog 38 #[.pointer (some ⟨b, 0, none⟩), .int .i64 0] w fun e w' => e = .returned (.int .u8 (c.toNat : Int)) ∧ ∃ n, w' = w.drewN n) := by
  intro w h
  have := peek_any b s k 0 o w h hk hm (by omega)
  rw [hc] at this
  exact this
 have HN := hid (fun w (h : Rd w b s k o) (he : Env w) => name_any b s k o w h he hb hk hm)
 obtain ⟨t, ht⟩ : ∃ t : Lexy.Tk, (⟨if (s.data.toList.drop k).take (Lexy.nameLen (s.data.toList.drop k)) ∈ Lexy.kws then 5 else 1, (s.data.toList.drop k).take (Lexy.nameLen (s.data.toList.drop k)), 0⟩ : Lexy.Tk) = t := ⟨_, rfl⟩
 rw [ht] at HN ⊢
 obtain ⟨n, hn⟩ : ∃ n, Lexy.nameLen (s.data.toList.drop k) = n := ⟨_, rfl⟩
 rw [hn] at HN ⊢
 have hlt := Box.lt h
 have HLt := hid (fun w => letter_is c true hl w)
 clear hl hc ht hn
 go_enter Tryz.func24, Tryz.ntmps24
 go_wp2_with fail
 refine (P0.out _ (h.alloc _)).mono ?_
 rintro e w1 ⟨rfl, m1, rfl⟩
 go_wp2_with fail
 refine (HLt.out _).mono ?_
 rintro e w1 ⟨rfl, rfl⟩
 go_wp2_with fail
 refine (HN.out _ ((h.alloc _).drewN _) ((he.alloc (by omega) _).drewN _)).mono ?_
 rintro e w2 ⟨rfl, hr2, hu2⟩
 have htk : Box w2 w.heap.size 40 #[.int .i64 0, .int .i64 0, .int .i64 0, .string ⟨#[]⟩, .int .i64 0] := Box.grown ((Box.new w _ _).drewN _) hu2 (by simp; omega)
 have hup : Upd w w2 b := (((Upd.refl w b).alloc _).drewN _).trans hu2
 go_wp2_with (refine wpList_store_box rfl 40 (.tmp 2) (.tmp 11) rfl w.heap.size (tokC t 0 0) rfl rfl 40 _ htk info_tok5 rfl (tokC_one _ _ _) ?_; intro w6 hx6 hu6 hz6)
 refine bodyPost_ret (results_box_tmp rfl _ _ w.heap.size 40 _ _ rfl hx6 Tryz.underlying40 rfl info_tok5) rfl ?_
 exact ⟨rfl, Box.grown hr2 hu6 (by simp; omega), hup.far hu6 (Nat.le_refl _)⟩
theorem next_any (b : Nat) (s : ByteArray) (k : Nat) (o : Value) (w : World) (h : Rd w b s k o) (he : Env w) (hb : 4 ≤ b) (hm : s.size ≤ 1000000) (hk : k < s.size) :
  Calls Tryz.prog 24 #[.pointer (some ⟨b, 0, none⟩)] w fun e w' => Out w b s k o (Lexy.next (s.data.toList.drop k)) e w' := by
 have hx : k < s.data.toList.length := by simpa using hk
 have hd : s.data.toList.drop k = s.data.toList[k] :: s.data.toList.drop (k + 1) := List.drop_eq_getElem_cons hx
 obtain ⟨c, hc⟩ : ∃ c, s.data.toList[k] = c := ⟨_, rfl⟩
 rw [hc] at hd
 have hc0 : ((s.data.toList.drop k)[0]?).getD 0 = c := by rw [hd]; rfl
 cases hl : Lexy.isLetter c with
 | true =>
  have := next_name b s k o w h he hb (by omega) hm c hc0 hl
  have e : Lexy.next (s.data.toList.drop k) = .ok (⟨if (s.data.toList.drop k).take (Lexy.nameLen (s.data.toList.drop k)) ∈ Lexy.kws then 5 else 1, (s.data.toList.drop k).take (Lexy.nameLen (s.data.toList.drop k)), 0⟩, Lexy.nameLen (s.data.toList.drop k)) := by
   rw [hd]; simp only [Lexy.next, hl, if_true]
  rw [e]
  exact this
 | false =>
  cases hdg : Lexy.isDigit c with
  | true =>
   refine next_number b s k o w h (by omega) hm c hc0 hl hdg _ (fun w1 _ hr => ?_)
   have := number_any b s k o w1 hr (by omega) hm
   have e : Lexy.next (s.data.toList.drop k) = (match Lexy.numF 0 ((s.data.toList.drop k).take (Lexy.digLen (s.data.toList.drop k))) with
    | none => .err 2
    | some n => if (((s.data.toList.drop k).drop (Lexy.digLen (s.data.toList.drop k))).head?.map Lexy.isLetter).getD false then .err 4 else .ok (⟨2, [], n⟩, Lexy.digLen (s.data.toList.drop k))) := by
    rw [hd]; simp only [Lexy.next, hl, hdg, if_true]; rfl
   rw [e]
   exact this
  | false =>
   by_cases hq : c = 34
   ·refine next_text b s k o w h (by omega) hm c hc0 hl hdg (by subst hq; decide) _ (fun w1 _ hr => ?_)
    have := text_any b s k o w1 hr hk hm
    have e : Lexy.next (s.data.toList.drop k) = (match Lexy.txt (s.data.toList.drop (k + 1)) with
     | none => .err 4
     | some (t, m) => .ok (⟨3, t, 0⟩, 1 + m)) := by
     rw [hd]; simp only [Lexy.next, hq]; rfl
    rw [e]
    exact this
   ·refine next_sign b s k o w h (by omega) hm c hc0 hl hdg (byte_ne (d := 34) hq) _ (fun w1 hbl hr => ?_)
    have := sign_any b s k o w1 hr (he.below hbl (by have := Box.lt h; omega)) hb hm hk
    have e : Lexy.next (s.data.toList.drop k) = Lexy.sign (s.data.toList.drop k) := by
     rw [hd]; simp only [Lexy.next, hl, hdg]; simp [hq]
    rw [e]
    exact this
end Go.Proofs.YtonjdlialejedaaGreatDoor.Jl
namespace Go.Proofs.YtonjdlialejedaaGreatDoor.Jl
open Go.Lib (hid)
open Go.RowKit
def tokCells (ts : List Lexy.Tok) : List Value := ts.flatMap fun t => (tokC t.toTk t.lo t.hi).toList
theorem tokCells_len (ts : List Lexy.Tok) : (tokCells ts).length = ts.length * 5 := by
 induction ts with
 | nil => rfl
 | cons t ts ih => simp only [tokCells, List.flatMap_cons, List.length_append, List.length_cons] at ih ⊢; rw [ih]; simp [tokC]; omega
def TokOut (w : World) (r : Lexy.Res (List Lexy.Tok)) (e : Ending) (w' : World) : Prop :=
 match r with
 | .err n => e = .returned (.tuple #[.slice none 0 0, .int .i64 (n : Int)]) ∧ Below w.heap.size w w'
 | .ok ts => ∃ (A : Option Addr) (cap : Nat), e = .returned (.tuple #[.slice A ts.length cap, .int .i64 0]) ∧ w'.ownsRow w.heap.size 40 5 (.slice A ts.length cap) ts.length (tokCells ts) ∧ Below w.heap.size w w'
theorem own_below {w w' : World} {base : Nat} {e : TypeId} {size : Nat} {v : Value} {n : Nat} {xs : List Value} (h : w.ownsRow base e size v n xs) (hb : Below w.heap.size w w') : w'.ownsRow base e size v n xs :=
 h.kept (row := none) ⟨hb.os, hb.tape, hb.output, hb.size, fun k hk _ => hb.block k hk⟩ (by
  cases hv : v.ownBlock with
  | none => exact .inl rfl
  | some g => exact .inr (by simp))
theorem tokL_one (t : Lexy.Tk) (lo hi : Nat) : ∀ u ∈ (tokC t lo hi).toList, u.oneCell' = true := by
 intro u hu
 simp [tokC] at hu
 rcases hu with rfl | rfl | rfl | rfl | rfl <;> rfl
theorem own_base {w : World} {base B : Nat} {e : TypeId} {size : Nat} {v : Value} {n : Nat} {xs : List Value} (h : w.ownsRow base e size v n xs) (hB : B ≤ base) : w.ownsRow B e size v n xs := by
 refine ⟨h.1, ?_⟩
 rcases h.2 with h0 | ⟨g, cap, cur, hv, hb, rest⟩
 ·exact .inl h0
 ·exact .inr ⟨g, cap, cur, hv, by omega, rest⟩
theorem next_err {l : Lexy.Bs} {n : Nat} (h : Lexy.next l = .err n) : n = 2 ∨ n = 4 := by
 cases l with
 | nil => simp [Lexy.next] at h; exact .inr h.symm
 | cons c r =>
  simp only [Lexy.next] at h
  split at h
  ·cases h
  ·split at h
   ·split at h
    ·simp at h; omega
    ·split at h
     ·simp at h; omega
     ·cases h
   ·split at h
    ·split at h
     ·simp at h; omega
     ·cases h
    ·unfold Lexy.sign at h
     split at h
     ·cases h
     ·split at h
      ·cases h
      ·simp at h; omega
theorem toksR_skip (rem p : Nat) (l : Lexy.Bs) : Lexy.toksR rem (p + Lexy.skp false l) (l.drop (Lexy.skp false l)) = Lexy.toksR rem p l := by
 rw [Lexy.toksR_eq, Lexy.toksR_eq rem p l, Lexy.skp_idem]
 simp only [List.drop_zero, Nat.add_zero]
def join (acc : List Lexy.Tok) : Lexy.Res (List Lexy.Tok) → Lexy.Res (List Lexy.Tok)
 | .err e => .err e
 | .ok ts => .ok (acc ++ ts)
theorem join_join (acc : List Lexy.Tok) (x : Lexy.Tok) (r : Lexy.Res (List Lexy.Tok)) : join acc (join [x] r) = join (acc ++ [x]) r := by
 cases r <;> simp [join]
theorem step_ok (rem k : Nat) (l : Lexy.Bs) (t : Lexy.Tk) (n : Nat) (hz : Lexy.skp false l = 0) (hne : l ≠ []) (hn : Lexy.next l = .ok (t, n)) :
  Lexy.toksR (rem + 1) k l = join [⟨t, k, k + n⟩] (Lexy.toksR rem (k + n + Lexy.skp false (l.drop n)) ((l.drop n).drop (Lexy.skp false (l.drop n)))) := by
 rw [toksR_skip, Lexy.toksR_eq, hz]
 cases l with
 | nil => exact absurd rfl hne
 | cons c r =>
  simp only [List.drop_zero, hn, Nat.add_zero]
  cases Lexy.toksR rem (k + n) ((c :: r).drop n) <;> rfl
theorem step_full (k : Nat) (l : Lexy.Bs) (t : Lexy.Tk) (n : Nat) (hz : Lexy.skp false l = 0) (hne : l ≠ []) (hn : Lexy.next l = .ok (t, n)) : Lexy.toksR 0 k l = .err 2 := by
 rw [Lexy.toksR_eq, hz]
 cases l with
 | nil => exact absurd rfl hne
 | cons c r => simp only [List.drop_zero, hn]
theorem step_err (rem k : Nat) (l : Lexy.Bs) (n : Nat) (hz : Lexy.skp false l = 0) (hne : l ≠ []) (hn : Lexy.next l = .err n) : Lexy.toksR rem k l = .err n := by
 rw [Lexy.toksR_eq, hz]
 cases l with
 | nil => exact absurd rfl hne
 | cons c r => simp only [List.drop_zero, hn]
theorem step_done (rem k : Nat) : Lexy.toksR rem k [] = .ok [] := by
 rw [Lexy.toksR_eq]; simp
theorem Rd.tell {w : World} {b k : Nat} {s : ByteArray} {o : Value} (h : Rd w b s k o) (v : Value) : Rd (w.setCell ⟨b, 2, none⟩ v) b s k v := by
 have := Box.set h 2 v; simpa [Rd] using this
theorem tokCells_snoc (acc : List Lexy.Tok) (x : Lexy.Tok) : tokCells (acc ++ [x]) = tokCells acc ++ (tokC x.toTk x.lo x.hi).toList := by simp [tokCells]
theorem info_tokz : (Tryz.prog.info? 40).map (fun i => (i.zero, i.size, i.bytes)) = some (some (.agg #[.int .i64 0, .int .i64 0, .int .i64 0, .string ⟨#[]⟩, .int .i64 0]), 5, 48) := by kernel_rfl
set_option maxRecDepth 100000 in
set_option maxHeartbeats 1000000 in
theorem tokens_small (s : ByteArray) (w : World) (he : Env w) (h4 : 4 ≤ w.heap.size) (hm : s.size ≤ 2000) :
  Calls Tryz.prog 14 #[.string s] w fun e w' => TokOut w (Lexy.toksR 1000 0 s.data.toList) e w' := by
 obtain ⟨l, hl⟩ : ∃ l, s.data.toList = l := ⟨_, rfl⟩
 have hsz : l.length = s.size := by rw [← hl]; simp
 have HSK := hid (fun (k : Nat) (o : Value) (w1 : World) (h : Rd w1 w.heap.size s k o) (hk : k ≤ s.size) => skip_any w.heap.size s k o w1 h hk (by omega))
 have HNX := hid (fun (k : Nat) (o : Value) (w1 : World) (h : Rd w1 w.heap.size s k o) (he : Env w1) (hk : k < s.size) => next_any w.heap.size s k o w1 h he h4 (by omega) hk)
 rw [hl] at HSK HNX ⊢
 obtain ⟨R, hR⟩ : ∃ R, Lexy.toksR 1000 0 l = R := ⟨_, rfl⟩
 rw [hR]
 have HL := hid hl
 have HS := hid hsz
 have HR : Hid (join [] (Lexy.toksR 1000 (0 + Lexy.skp false l) (l.drop (Lexy.skp false l))) = R) := by
  rw [toksR_skip, hR]; cases R <;> exact hid rfl
 have hk0 : Lexy.skp false l ≤ s.size := by have := Lexy.skp_le false l; omega
 clear hl hsz hR
 have ht0 : decide ((2000 : Int) < (s.size : Int)) = false := by simp; omega
 obtain ⟨i0, hi0, hz0, hz1, hz2⟩ := info_parts info_tokz
 go_enter Tryz.func14, Tryz.ntmps14
 go_wp2_with fail
 refine (HSK.out 0 (.slice none 0 0) _ (Box.new w _ _) (by omega)).mono ?_
 rintro e w1 ⟨rfl, hr1, hu1⟩
 go_wp2_with fail
 go_loopg [] (s.size - Lexy.skp false l) (fun g wr => ∃ (k : Nat) (acc : List Lexy.Tok) (A : Option Addr) (cap : Nat), k ≤ s.size ∧ g = s.size - k ∧ acc.length ≤ 1000 ∧ Rd wr w.heap.size s k (.slice A acc.length cap) ∧ Below w.heap.size w wr ∧
  wr.ownsRow (w.heap.size + 1) 40 5 (.slice A acc.length cap) acc.length (tokCells acc) ∧ Hid (join acc (Lexy.toksR (1000 - acc.length) k (l.drop k)) = R) ∧ Hid (Lexy.skp false (l.drop k) = 0))
 case atStart =>
  refine ⟨Lexy.skp false l, [], none, 0, hk0, rfl, by simp, by simpa using hr1, ?_, World.ownsRow_nil _ _ _ _, by simpa using HR, Lexy.skp_idem false l⟩
  exact ((Below.refl _ w).alloc (Nat.le_refl _) _).trans (hu1.own (Nat.le_refl _) (by simp))
 case round =>
  obtain ⟨k, acc, A, cap, hk, hg, hacc, hr, hbl, hown, H, HK⟩ := hrel
  have HG := hid hg; clear hg
  have hwz := Box.lt hr
  have hp0 := hr.place
  by_cases hlt : k < s.size
  ·have hl1 : decide ((k : Int) < s.size) = true := by simp; omega
   have hdz : l.drop k ≠ [] := by intro e; have := congrArg List.length e; rw [List.length_drop, HS.out] at this; simp at this; omega
   have hcall := HNX.out k (.slice A acc.length cap) wr hr (he.below hbl h4) hlt
   cases hr' : Lexy.next (l.drop k) with
   | err n =>
    rw [hr'] at hcall
    have hn0 : ((n : Int) == 0) = false := by rcases next_err hr' with rfl | rfl <;> rfl
    have HC := hid hcall
    have HRn : Hid (R = .err n) := by
     rw [← H.out, step_err _ _ _ n HK.out hdz hr']; exact hid rfl
    clear hcall hr'
    go_wp2_with fail
    refine (HC.out).mono ?_
    rintro e w2 ⟨rfl, hu2⟩
    go_wp2_with (refine wpList_store_box rfl 40 (.tmp 6) (.tmp 32) rfl w2.heap.size (tokC ⟨0, [], 0⟩ 0 0) rfl rfl 40 _ (Box.new w2 _ _) info_tok5 rfl (tokC_one _ _ _) ?_; intro w4 hx4 hu4 hz4)
    go_ret2
    rw [HRn.out]
    refine ⟨rfl, ?_⟩
    exact ((hbl.trans (hu2.own (Nat.le_refl _) (by omega))).alloc (by have := hu2.size; omega) _).trans (hu4.own (by have := hu2.size; omega) (by have := hu2.size; simp; omega))
   | ok tn =>
    obtain ⟨t, n⟩ := tn
    rw [hr'] at hcall
    have HC := hid hcall
    clear hcall
    by_cases hfull : acc.length = 1000
    ·have hnf : ((acc.length : Int) == 1000) = true := by simp; omega
     have HRn : Hid (R = .err 2) := by
      rw [← H.out, show 1000 - acc.length = 0 by omega, step_full _ _ t n HK.out hdz hr']; exact hid rfl
     clear hr' hfull
     go_wp2_with fail
     refine (HC.out).mono ?_
     rintro e w2 ⟨rfl, hr2, hu2⟩
     have htd2 := hr2.told
     have hlt2 := Box.lt hr2
     go_wp2_with (refine wpList_store_box rfl 40 (.tmp 6) (.tmp 32) rfl w2.heap.size (tokC t 0 0) rfl rfl 40 _ (Box.new w2 _ _) info_tok5 rfl (tokC_one _ _ _) ?_; intro w4 hx4 hu4 hz4; have hr4 : Rd w4 w.heap.size s (k + n) (.slice A acc.length cap) := Box.grown (Box.alloc hr2 _) hu4 (by simp; omega); have htd4 := hr4.told)
     go_ret2
     rw [HRn.out]
     refine ⟨rfl, ?_⟩
     exact ((hbl.trans (hu2.own (Nat.le_refl _) (by omega))).alloc (by have := hu2.size; omega) _).trans (hu4.own (by have := hu2.size; omega) (by have := hu2.size; simp; omega))
    ·have hnf : ((acc.length : Int) == 1000) = false := by simp; omega
     have hsplit := Lexy.next_split hr'
     have hnl := Lexy.next_len hr'
     have hn1 : 0 < n := hsplit.2.2.1
     rw [List.length_drop, HS.out] at hnl
     have hsk := Lexy.skp_le false (l.drop (k + n))
     rw [List.length_drop, HS.out] at hsk
     obtain ⟨k2, hk2⟩ : ∃ k2, k + n + Lexy.skp false (l.drop (k + n)) = k2 := ⟨_, rfl⟩
     have HN : Hid (join (acc ++ [⟨t, k, k + n⟩]) (Lexy.toksR (1000 - (acc.length + 1)) k2 (l.drop k2)) = R) := by
      rw [← H.out, show 1000 - acc.length = (1000 - (acc.length + 1)) + 1 by omega, step_ok _ _ _ t n HK.out hdz hr', join_join, List.drop_drop, List.drop_drop, hk2]; exact hid rfl
     have HZ : Hid (Lexy.skp false (l.drop k2) = 0) := by
      have := Lexy.skp_idem false (l.drop (k + n)); rw [List.drop_drop, hk2] at this; exact this
     have HSK2 := HSK.out (k + n) 
     rw [hk2] at HSK2
     have HK2 := hid HSK2
     have hk2b : k2 ≤ s.size := by omega
     have hk2a : k < k2 := by omega
     clear hsplit hk2 hsk HSK2
     clear hr'
     go_wp2_with fail
     refine (HC.out).mono ?_
     rintro e w2 ⟨rfl, hr2, hu2⟩
     have htd2 := hr2.told
     have hlt2 := Box.lt hr2
     go_wp2_with (refine wpList_store_box rfl 40 (.tmp 6) (.tmp 32) rfl w2.heap.size (tokC t 0 0) rfl rfl 40 _ (Box.new w2 _ _) info_tok5 rfl (tokC_one _ _ _) ?_; intro w4 hx4 hu4 hz4; have hr4 : Rd w4 w.heap.size s (k + n) (.slice A acc.length cap) := Box.grown (Box.alloc hr2 _) hu4 (by simp; omega); have htd4 := hr4.told; have hpl4 := hr4.place; have hfr4 := hr4.free 2; have g1 := hx4.cell 1; have g2 := hx4.cell 2; have f1 := hx4.frozen 1; have f2 := hx4.frozen 2; simp [tokC] at g1 g2)
     go_region
     go_wp2
     have hx5 : Box (((w4.setCell ⟨w2.heap.size, 1, none⟩ (.int .i64 (k : Int))).setCell ⟨w2.heap.size, 2, none⟩ (.int .i64 ((k : Int) + (n : Int)))).drew) w2.heap.size 40 (tokC t k (k + n)) := by
      have := (Box.set (Box.set hx4 1 (.int .i64 (k : Int))) 2 (.int .i64 ((k : Int) + (n : Int))))
      have h2 : Box ((w4.setCell ⟨w2.heap.size, 1, none⟩ (.int .i64 (k : Int))).setCell ⟨w2.heap.size, 2, none⟩ (.int .i64 ((k : Int) + (n : Int)))) w2.heap.size 40 (tokC t k (k + n)) := by simpa [tokC] using this
      exact h2
     have hr5 : Rd (((w4.setCell ⟨w2.heap.size, 1, none⟩ (.int .i64 (k : Int))).setCell ⟨w2.heap.size, 2, none⟩ (.int .i64 ((k : Int) + (n : Int)))).drew) w.heap.size s (k + n) (.slice A acc.length cap) :=
      (Box.far (Box.far hr4 (by simp; omega) _) (by simp; omega) _)
     have hu5 : Upd (w2.alloc (.cells #[.int .i64 0, .int .i64 0, .int .i64 0, .string ⟨#[]⟩, .int .i64 0] 40)) (((w4.setCell ⟨w2.heap.size, 1, none⟩ (.int .i64 (k : Int))).setCell ⟨w2.heap.size, 2, none⟩ (.int .i64 ((k : Int) + (n : Int)))).drew) w2.heap.size := ((hu4.set (.inl rfl) _).set (.inl rfl) _).drew
     obtain ⟨w5, hw5⟩ : ∃ w5, (((w4.setCell ⟨w2.heap.size, 1, none⟩ (.int .i64 (k : Int))).setCell ⟨w2.heap.size, 2, none⟩ (.int .i64 ((k : Int) + (n : Int)))).drew) = w5 := ⟨_, rfl⟩
     rw [hw5] at hx5 hr5 hu5
     rw [hw5]
     clear hw5
     have hwz5 : w2.heap.size < w5.heap.size := hx5.lt
     have hown2 : w2.ownsRow (w.heap.size + 1) 40 5 (.slice A acc.length cap) acc.length (tokCells acc) := own_far hown hu2 (by omega)
     have hbl2 : Below w.heap.size w w2 := hbl.trans (hu2.own (Nat.le_refl _) (by omega))
     have hwz2 : wr.heap.size ≤ w2.heap.size := hu2.size
     have hb5 : Below w2.heap.size w2 w5 := ((Below.refl _ w2).alloc (Nat.le_refl _) _).trans (hu5.own (Nat.le_refl _) (by simp))
     have hown5 : w5.ownsRow (w.heap.size + 1) 40 5 (.slice A acc.length cap) acc.length (tokCells acc) := own_below hown2 hb5
     have q0 := hx5.cell 0; have q1 := hx5.cell 1; have q2 := hx5.cell 2; have q3 := hx5.cell 3; have q4 := hx5.cell 4
     simp [tokC] at q0 q1 q2 q3 q4
     have htd5 := hr5.told; have hfr5 := hr5.free 2
     have hbw5 : w.heap.size < w5.heap.size := by omega
     have hcs : (tokCells acc).length = acc.length * 5 := tokCells_len acc
     have HCS := hid hcs
     clear hcs g1 g2 f1 f2 htd4 hpl4 hfr4 hp0 htd2
     go_region_law (refine step_append_lies _ rfl (.tmp 58) (.tmp 60) 35 rfl (w.heap.size + 1) 40 i0 _ 5 48 Tryz.underlying35 hi0 hz0 hz1 hz2 rfl (by decide) (.slice A acc.length cap) acc.length (tokCells acc) (by simp [Act.eval]) (by exact hown5.alloc _) ⟨w5.heap.size, 0, none⟩ 1 1 (tokC t k (k + n)).toList (by simp [Act.eval]) rfl (by exact World.news_of_block (Box.new w5 _ (tokC t k (k + n)))) (tokL_one t k (k + n)) (by omega) (by unfold maxLen; omega) (by omega) (by simp; omega) (w5.heap.size + 1) (by simp) ?_; intro g7 cap7 w7 hown7 hgrow7 hor7 hlt7; have hb7 : Below (w.heap.size + 1) w5 w7 := ((Below.refl _ w5).alloc (by omega) _).drew.trans (below_grown hgrow7 (by simp; omega) (fun g hg => (hown.lt g hg).1)); have hr7 : Rd w7 w.heap.size s (k + n) (.slice A acc.length cap) := Rd.below hr5 hb7 (by omega); have htd7 := hr7.told; have hfr7 := hr7.free 2)
     all_goals
      go_wp2_with fail
      refine (HK2.out _ _ (by exact (hr7.tell _)) (by omega)).mono ?_
      rintro e w8 ⟨rfl, hr8, hu8⟩
      go_wp2
      have hwz7 := Box.lt hr7
      have hb7s : Below w.heap.size w (w7.setCell ⟨w.heap.size, 2, none⟩ (.slice (some ⟨g7, 0, none⟩) (acc.length + 1) cap7)) := ((hbl2.trans (hb5.mono (by omega))).trans (hb7.mono (by omega))).setCell (by simp) _
      have hb8 : Below w.heap.size w w8 := by
       refine Below.trans ?_ (hu8.own (Nat.le_refl _) (by simp; omega))
       first
       | exact hb7s
       | exact hb7s.drew
      have hown8 : w8.ownsRow (w.heap.size + 1) 40 5 (.slice (some ⟨g7, 0, none⟩) (acc.length + 1) cap7) (acc.length + 1) (tokCells acc ++ (tokC t k (k + n)).toList) :=
       own_far (by exact (ownsRow_setCell_below hown7 (a := ⟨w.heap.size, 2, none⟩) (by simp) _)) hu8 (by omega)
      have hr9 : Rd w8 w.heap.size s k2 (.slice (some ⟨g7, 0, none⟩) (acc ++ [(⟨t, k, k + n⟩ : Lexy.Tok)]).length cap7) := by simpa using hr8
      have hown9 : w8.ownsRow (w.heap.size + 1) 40 5 (.slice (some ⟨g7, 0, none⟩) (acc ++ [(⟨t, k, k + n⟩ : Lexy.Tok)]).length cap7) (acc ++ [(⟨t, k, k + n⟩ : Lexy.Tok)]).length (tokCells (acc ++ [(⟨t, k, k + n⟩ : Lexy.Tok)])) := by
       rw [tokCells_snoc]; simpa using hown8
      have HN9 : Hid (join (acc ++ [(⟨t, k, k + n⟩ : Lexy.Tok)]) (Lexy.toksR (1000 - (acc ++ [(⟨t, k, k + n⟩ : Lexy.Tok)]).length) k2 (l.drop k2)) = R) := by
       rw [show (acc ++ [(⟨t, k, k + n⟩ : Lexy.Tok)]).length = acc.length + 1 by simp]; exact HN
      go_roundg (s.size - k2)
      case measure => rw [HG.out]; omega
      case rel => exact ⟨k2, acc ++ [(⟨t, k, k + n⟩ : Lexy.Tok)], some ⟨g7, 0, none⟩, cap7, hk2b, rfl, by simp; omega, hr9, hb8, hown9, HN9, HZ⟩
  ·have hl1 : decide ((k : Int) < s.size) = false := by simp; omega
   have htd := hr.told
   have HRn : Hid (R = .ok acc) := by
    rw [← H.out, List.drop_eq_nil_of_le (by rw [HS.out]; omega), step_done]; simp [join, Hid]
   go_wp2
   go_ret2
   rw [HRn.out]
   exact ⟨A, cap, rfl, own_base hown (by omega), hbl⟩
end Go.Proofs.YtonjdlialejedaaGreatDoor.Jl
namespace Go.Proofs.YtonjdlialejedaaGreatDoor.Jl
open Go.Lib (hid)
open Go.RowKit
theorem tokens_any (s : ByteArray) (w : World) (he : Env w) (h4 : 4 ≤ w.heap.size) (hm : s.size ≤ 9223372036854775807) :
  Calls Tryz.prog 14 #[.string s] w fun e w' => TokOut w (Lexy.toks s.data.toList) e w' := by
 have hl : s.data.toList.length = s.size := by simp
 unfold Lexy.toks
 rw [hl]
 by_cases hb : 2000 < s.size
 ·rw [if_pos hb]
  have ht0 : decide ((2000 : Int) < (s.size : Int)) = true := by simp; omega
  go_enter Tryz.func14, Tryz.ntmps14
  go_wp2
  go_ret2
  exact ⟨rfl, Below.refl _ _⟩
 ·rw [if_neg hb]
  exact tokens_small s w he h4 (by omega)
end Go.Proofs.YtonjdlialejedaaGreatDoor.Jl
namespace Go.Proofs.YtonjdlialejedaaGreatDoor
open Go.Lib (hid)
open Go.RowKit
theorem NodesAt.get {w : World} {S : Nat → Prop} : ∀ {l : List Pars.Node} {css : List (Array Value)} {j : Nat} {x : Pars.Node}, NodesAt w S l css → l[j]? = some x → ∃ c, css[j]? = some c ∧ NodeAt w S x c ∧ ∀ i v, c.toList[i]? = some v → (flatA css)[j * 4 + i]? = some v
 | [], _, j, x, _, h => by simp at h
 | n :: l, [], j, x, h, _ => by unfold NodesAt at h; exact h.elim
 | n :: l, c :: css, 0, x, h, hj => by
  unfold NodesAt at h
  simp at hj
  subst hj
  refine ⟨c, rfl, h.1, fun i v hv => ?_⟩
  have hi := (List.getElem?_eq_some_iff.1 hv).1
  simp only [flatA, List.flatMap_cons, Nat.zero_mul, Nat.zero_add]
  rw [List.getElem?_append_left hi]; exact hv
 | n :: l, c :: css, j + 1, x, h, hj => by
  unfold NodesAt at h
  obtain ⟨d, h1, h2, h3⟩ := NodesAt.get h.2 (by simpa using hj)
  refine ⟨d, by simpa using h1, h2, fun i v hv => ?_⟩
  have hc : c.toList.length = 4 := by rw [Array.length_toList]; exact NodeAt.size h.1
  have := h3 i v hv
  simp only [flatA, List.flatMap_cons] at this ⊢
  rw [List.getElem?_append_right (by omega), hc, show (j + 1) * 4 + i - 4 = j * 4 + i by omega]
  exact this
theorem NodesAt.wf {w : World} {S : Nat → Prop} {l : List Pars.Node} {css : List (Array Value)} (h : NodesAt w S l css) : css.length = l.length := NodesAt.len h
theorem deeps_take {l : List Pars.Node} {j : Nat} {x : Pars.Node} (h : l[j]? = some x) : Pars.deeps (l.take (j + 1)) = max (Pars.deeps (l.take j)) (Pars.deep x) := by
 rw [List.take_add_one, h, Pars.deeps_append]
 simp [Pars.deeps]
theorem sizes_take : ∀ (l : List Pars.Node) (j : Nat), Pars.sizes (l.take j) ≤ Pars.sizes l
 | [], j => by simp [Pars.sizes]
 | n :: l, 0 => by simp [Pars.sizes]
 | n :: l, j + 1 => by simp only [List.take_succ_cons, Pars.sizes]; have := sizes_take l j; omega
theorem size_mem : ∀ {l : List Pars.Node} {x : Pars.Node}, x ∈ l → Pars.size x ≤ Pars.sizes l
 | n :: l, x, h => by
  simp only [Pars.sizes]
  rcases List.mem_cons.1 h with rfl | h
  ·omega
  ·have := size_mem h; omega
theorem sizes_len : ∀ l : List Pars.Node, l.length ≤ Pars.sizes l
 | [] => by simp
 | n :: l => by simp only [List.length_cons, Pars.sizes]; have := sizes_len l; cases n; simp only [Pars.size]; omega
set_option maxRecDepth 100000 in
set_option maxHeartbeats 4000000 in
theorem deep_le : ∀ (N : Nat) (n : Pars.Node) (cs : Array Value) (w : World) (S : Nat → Prop), Pars.size n ≤ N → Pars.size n ≤ 4611686018427387904 → NodeAt w S n cs →
  Calls Tryz.prog 17 #[.agg cs] w fun e w' => e = .returned (.int .i64 (Pars.deep n : Int)) ∧ Below w.heap.size w w'
 | 0, n, cs, w, S, h, _, _ => by cases n; simp [Pars.size] at h
 | N + 1, .mk k nu t l, cs, w, S, h, hb, hn => by
  have IH := hid (deep_le N)
  simp only [Pars.size] at h hb
  unfold NodeAt at hn
  obtain ⟨A, cap, css, rfl, hc1, hc2, hrow, hk⟩ := hn
  have HROW := hid hrow
  have HK := hid hk
  have hsz : Pars.sizes l ≤ N := by omega
  have hszb : Pars.sizes l < 4611686018427387904 := by omega
  have hds := Pars.deeps_size l
  have hll : l.length ≤ 4611686018427387904 := by have := sizes_len l; omega
  have hgoal : Pars.deep (.mk k nu t l) = Pars.deeps l + 1 := by simp [Pars.deep]
  rw [hgoal]
  clear hrow hk h hb hgoal
  go_enter Tryz.func17, Tryz.ntmps17
  go_upto_region 2 with fail
  refine gen_world (F := fun W => Box W w.heap.size 24 (nc k nu t (.slice A l.length cap)) ∧ Below w.heap.size w W) ⟨Box.new w _ _, below1 w _⟩ ?_
  rintro W0 ⟨b0, hU⟩
  have c3 := b0.cell 3
  simp [nc] at c3
  have HU := hid hU
  clear b0 hU
  go_wp2
  go_loopg [3, 9] l.length (fun gg s3 s9 wr => ∃ j : Nat, j ≤ l.length ∧ l.length - j ≤ gg ∧ s3 = .int .i64 (Pars.deeps (l.take j) : Int) ∧ s9 = .int .i64 (j : Int) ∧ Hid (Below w.heap.size w wr))
  case atStart => exact ⟨0, Nat.zero_le _, by omega, rfl, rfl, HU⟩
  case round =>
   clear HU c3
   obtain ⟨j, hj, hg, rfl, rfl, HU⟩ := hrel
   have hdj : Pars.deeps (l.take j) ≤ N := by have := Pars.deeps_size (l.take j); have := sizes_take l j; omega
   by_cases hlt : j < l.length
   ·have hltz : (j : Int) < (l.length : Int) := by omega
    have hltd : decide ((j : Int) < (l.length : Int)) = true := decide_eq_true hltz
    have wj : IntKind.i64.wrap ((j : Int) + 1) = (j : Int) + 1 := by rw [IntKind.wrap_i64]; omega
    obtain ⟨x, hx⟩ : ∃ x, l[j]? = some x := ⟨_, List.getElem?_eq_getElem hlt⟩
    have hxs := size_mem (List.mem_of_getElem? hx)
    obtain ⟨c, hc, hnc, hfl⟩ := NodesAt.get HK.out hx
    obtain ⟨g0, o0, rfl, hS, hg0, hr0⟩ := HROW.out (by omega)
    have hc4 : c.size = 4 := NodeAt.size hnc
    have HR0 : Hid (wr.rangeAt g0 (o0 + j * 4) c.toList) := hid (fun i u hu => by
     rw [Nat.add_assoc, HU.out.cell (p := ⟨g0, o0 + (j * 4 + i), none⟩) hg0]
     exact hr0 (j * 4 + i) u (hfl i u hu))
    have HNC := hid (NodeAt.keep (S1 := fun _ => True) (fun _ _ _ => trivial) HU.out.size (fun g _ hg => HU.out.block g hg) hnc)
    have HDX : Hid (max (Pars.deeps (l.take j) : Int) (Pars.deep x : Int) = (Pars.deeps (l.take (j + 1)) : Int)) := hid (by rw [deeps_take hx]; omega)
    have hinf : (Tryz.prog.info? 24).map (·.size) = some c.toList.length := by rw [Array.length_toList, hc4]; exact info_nod
    have HINF := hid hinf
    have hinf2 : (Tryz.prog.info? 24).map (·.size) = some c.size := by rw [hc4]; exact info_nod
    have HINF2 := hid hinf2
    have H4 : Hid ((4 : Nat) = c.size) := hid hc4.symm
    have HONE := hid (NodeAt.one hnc)
    have hwr := HU.out.size
    clear hx hc hnc hfl hr0 hinf hinf2 hc4
    go_upto_region 5 with (first | (refine wpList_load_mid rfl 24 (.tmp 11) rfl g0 (o0 + j * 4) rfl c.toList _ HR0.out Tryz.underlying24 rfl HINF.out ?_) | (refine wpList_store_box rfl 24 (.tmp 5) (.tmp 12) rfl wr.heap.size c rfl (by simp [Act.eval, Act.put]) 24 _ (Box.new wr _ _) HINF2.out H4.out HONE.out ?_; intro w2 hx2 hu2 hz2; have HZ2 := hid hz2; clear hz2))
    have hb2 : Below wr.heap.size wr w2 := ((Below.refl _ wr).alloc (Nat.le_refl _) _).trans (hu2.own (Nat.le_refl _) (by simp))
    have HU2 := hid (HU.out.trans (hb2.mono hwr))
    have HN2 := hid (HNC.out.below hb2)
    have EB := hx2
    clear hu2 hb2
    go_wp2_with (refine wpList_load_row rfl 24 (.tmp 5) rfl wr.heap.size rfl _ c (0, 0) _ EB Tryz.underlying24 rfl HINF2.out ?_)
    refine (IH.out x c w2 _ (by omega) (by omega) HN2.out).mono ?_
    rintro e w3 ⟨rfl, hb3⟩
    have HU3 := hid (HU2.out.trans (hb3.mono HU2.out.size))
    clear hb3 EB hx2
    go_wp2_with (refine wpList_max2 rfl (.tmp 13) (.tmp 15) _ rfl _ _ _ rfl rfl HDX.out ?_)
    go_roundg (l.length - (j + 1))
    case measure => omega
    case rel => exact ⟨j + 1, by omega, by omega, rfl, rfl, HU3⟩
   ·have hltz : ¬ (j : Int) < (l.length : Int) := by omega
    have hltd : decide ((j : Int) < (l.length : Int)) = false := decide_eq_false hltz
    have hjl : l.take j = l := List.take_of_length_le (by omega)
    have wd : IntKind.i64.wrap ((Pars.deeps (l.take j) : Int) + 1) = (Pars.deeps (l.take j) : Int) + 1 := by rw [IntKind.wrap_i64]; rw [hjl]; omega
    have HJL := hid hjl
    clear hjl
    go_wp2
    go_ret
    exact ⟨by rw [HJL.out]; rfl, HU.out⟩
theorem deep_any {n : Pars.Node} {cs : Array Value} {w : World} {S : Nat → Prop} (h : NodeAt w S n cs) (hb : Pars.size n ≤ 4611686018427387904) :
  Calls Tryz.prog 17 #[.agg cs] w fun e w' => e = .returned (.int .i64 (Pars.deep n : Int)) ∧ Below w.heap.size w w' := deep_le _ n cs w S (Nat.le_refl _) hb h
end Go.Proofs.YtonjdlialejedaaGreatDoor
namespace Go.Proofs.YtonjdlialejedaaGreatDoor
open Go.Lib (hid)
open Go.RowKit
theorem next_err {l : Lexy.Bs} {e : Nat} (h : Lexy.next l = .err e) : e = 2 ∨ e = 4 := by
 unfold Lexy.next at h
 cases l with
 | nil => injection h with h; exact .inr h.symm
 | cons c r =>
  simp only at h
  split at h
  ·cases h
  split at h
  ·split at h
   ·injection h with h; exact .inl h.symm
   ·split at h
    ·injection h with h; exact .inr h.symm
    ·cases h
  split at h
  ·split at h
   ·injection h with h; exact .inr h.symm
   ·cases h
  unfold Lexy.sign at h
  split at h
  ·cases h
  split at h
  ·cases h
  ·injection h with h; exact .inr h.symm
theorem toksR_err : ∀ (rem p : Nat) (l : Lexy.Bs) {e : Nat}, Lexy.toksR rem p l = .err e → e = 2 ∨ e = 4 := by
 intro rem
 induction rem with
 | zero =>
  intro p l e h
  rw [Lexy.toksR_eq] at h
  split at h
  ·cases h
  ·split at h
   ·rename_i hn; injection h with h; subst h; exact next_err hn
   ·simp only at h; injection h with h; exact .inl h.symm
 | succ rem ih =>
  intro p l e h
  rw [Lexy.toksR_eq] at h
  split at h
  ·cases h
  ·split at h
   ·rename_i hn; injection h with h; subst h; exact next_err hn
   ·simp only at h
    split at h
    ·rename_i hq; injection h with h; subst h; exact ih _ _ hq
    ·cases h
theorem toks_err {l : Lexy.Bs} {e : Nat} (h : Lexy.toks l = .err e) : e = 2 ∨ e = 4 := by
 unfold Lexy.toks at h
 split at h
 ·injection h with h; exact .inl h.symm
 ·exact toksR_err _ _ _ h
theorem toks_le {l : Lexy.Bs} {ts : List Lexy.Tok} (h : Lexy.toks l = .ok ts) : ts.length ≤ 1000 ∧ l.length ≤ 2000 := by
 unfold Lexy.toks at h
 split at h
 ·cases h
 ·exact ⟨(Lexy.lex_of _ _ _ _ h).2, by omega⟩
def kts (ts : List Lexy.Tok) : List KT := ts.map fun x => (x.toTk, (x.lo : Int), (x.hi : Int))
theorem kts_len (ts : List Lexy.Tok) : (kts ts).length = ts.length := by simp [kts]
theorem kts_toks (ts : List Lexy.Tok) : toks (kts ts) = ts.map (·.toTk) := by simp [kts, toks]
theorem kts_cells (ts : List Lexy.Tok) : flat kc (kts ts) = Jl.tokCells ts := by
 induction ts with
 | nil => rfl
 | cons t ts ih =>
  have e : kts (t :: ts) = (t.toTk, (t.lo : Int), (t.hi : Int)) :: kts ts := rfl
  rw [e, flat_cons, ih]
  rfl
theorem results_bt {P : Program} {fn : Func} {tmps : Array Value} {w : World} {p1 u1 : Tmp} {ty1 : TypeId} {c1 : Array Value} (h : fn.results = #[.cell p1 ty1, .tmp u1]) (h1 : Back P w tmps p1 ty1 c1) : (results fn tmps).run P w = .ok (.tuple #[.agg c1, tmps.getD u1 undef]) w := by
 obtain ⟨a1, e1, r1⟩ := h1.out
 simp only [Array.getD_eq_getD_getElem?] at e1
 simp only [results, h]
 simp [Sem.run_bind, Result.andThen, e1, asAddr, r1]
def ParseOut (s : List UInt8) (w : World) (e : Ending) (w' : World) : Prop :=
 (∃ n cs, Pars.parse s = .ok n ∧ e = .returned (.tuple #[.agg cs, .int .i64 0]) ∧ NodeAt w' (fun g => w.heap.size ≤ g) n cs ∧ Below w.heap.size w w') ∨
 (∃ k : Nat, Pars.parse s = .error k ∧ (k = 2 ∨ k = 4) ∧ e = .returned (.tuple #[.agg #[.int .i64 0, .int .i64 0, .string ⟨#[]⟩, .slice none 0 0], .int .i64 (k : Int)]) ∧ Below w.heap.size w w')
set_option maxRecDepth 100000 in
set_option maxHeartbeats 4000000 in
theorem parse_any (s : List UInt8) (w : World) (he : Jl.Env w) (h4 : 4 ≤ w.heap.size) (hm : s.length ≤ 9223372036854775807) :
  Calls Tryz.prog 9 #[.string (byt s)] w (ParseOut s w) := by
 have HTK : Hid (∀ w0 : World, Below w.heap.size w w0 → Calls Tryz.prog 14 #[.string (byt s)] w0 fun e w' => Jl.TokOut w0 (Lexy.toks s) e w') := hid (fun w0 hb => by
  have := Jl.tokens_any (byt s) w0 (he.below hb h4) (Nat.le_trans h4 hb.size) (by rw [byt_size]; exact hm)
  rw [byt_data] at this
  exact this)
 have HPS : Hid (Pars.parse s = match Lexy.toks s with | .err e => .error e | .ok l => match Pars.tree (l.map (·.toTk)) with | none => .error 4 | some n => if 40 < Pars.deep n then .error 2 else .ok n) := hid rfl
 go_enter Tryz.func9, Tryz.ntmps9
 go_upto_region 1 with fail
 refine gen_world (F := fun W => Box W w.heap.size 24 #[.int .i64 0, .int .i64 0, .string ⟨#[]⟩, .slice none 0 0] ∧ Below w.heap.size w W) ⟨Box.new w _ _, below1 w _⟩ ?_
 rintro W0 ⟨r0, hU⟩
 have RB := hid r0
 have HU := hid hU
 clear r0 hU
 go_wp2_with fail
 refine (HTK.out W0 HU.out).mono ?_
 intro e w1 ht
 cases hk : Lexy.toks s with
 | err ke =>
  rw [hk] at ht
  obtain ⟨rfl, hb⟩ := ht
  have hke := toks_err hk
  have HP : Hid (Pars.parse s = .error ke) := hid (by rw [HPS.out, hk])
  have hrl := RB.out.lt
  replace RB := hid (RB.out.below hb hrl)
  replace HU := hid (HU.out.trans (hb.mono HU.out.size))
  clear hk hb hrl
  have d1 : ((ke : Int) == 0) = false := by rw [beq_eq_false_iff_ne]; omega
  have d2 : ((ke : Int) != 0) = true := by simp [bne, d1]
  have d3 : ¬ (ke : Int) = 0 := by omega
  go_wp2_with (refine wpList_store_box rfl 24 (.tmp 2) (.tmp 15) rfl w.heap.size #[.int .i64 0, .int .i64 0, .string ⟨#[]⟩, .slice none 0 0] rfl rfl 24 _ RB.out info_nod rfl (nz_one _ _ _ _ _ _) ?_; intro wz hxz huz hzz; have HZZ := hid hzz; clear hzz)
  refine bodyPost_ret (results_bt rfl (Back.mk' w.heap.size 24 _ rfl hxz Tryz.underlying24 rfl info_nod)) rfl ?_
  exact .inr ⟨ke, HP.out, hke, rfl, HU.out.trans (huz.own (Nat.le_refl _) HU.out.size)⟩
 | ok ts =>
  rw [hk] at ht
  obtain ⟨A, cap, rfl, hown, hb⟩ := ht
  have hrl := RB.out.lt
  replace RB := hid (RB.out.below hb hrl)
  replace HU := hid (HU.out.trans (hb.mono HU.out.size))
  have hln := (toks_le hk).1
  have HPT : Hid (Pars.parse s = match Pars.tree (toks (kts ts)) with | none => .error 4 | some n => if 40 < Pars.deep n then .error 2 else .ok n) := hid (by rw [HPS.out, hk, kts_toks])
  have hks : KRd w1 (kts ts) (.slice A (kts ts).length cap) := by
   have := Rd.own hown
   unfold KRd
   rw [kts_cells, kts_len]
   exact this
  have hA : ∀ g o, A = some ⟨g, o, none⟩ → g < w1.heap.size := fun g o e => (hown.lt g (by rw [e]; rfl)).2
  have HRD := hid (read_any w1 (kts ts) A cap hks (by rw [kts_len]; exact hln) hA)
  rw [kts_len] at HRD
  have hl2 : (toks (kts ts)).length ≤ 1000 := by rw [kts_toks]; simpa using hln
  clear hk hb hrl hown hks hA HPS HTK
  go_wp2_with fail
  refine HRD.out.mono ?_
  rintro e w2 (⟨l, cs, htr, rfl, hn, hll, hb⟩ | ⟨htr, rfl, hb⟩)
  ·have hsz := Pars.tree_size htr
   have hrl := RB.out.lt
   replace RB := hid (RB.out.below hb hrl)
   have hw1 := HU.out.size
   replace HU := hid (HU.out.trans (hb.mono HU.out.size))
   have HP : Hid (Pars.parse s = if 40 < Pars.deep (.mk 30 0 [] l) then .error 2 else .ok (.mk 30 0 [] l)) := hid (by rw [HPT.out, htr])
   have HN : Hid (NodeAt w2 (fun g => w.heap.size < g) (.mk 30 0 [] l) cs) := hid (hn.weak (fun g hg => by omega))
   have hinf : (Tryz.prog.info? 24).map (·.size) = some cs.size := by rw [NodeAt.size hn]; exact info_nod
   have HINF := hid hinf
   have H4 : Hid ((4 : Nat) = cs.size) := hid (NodeAt.size hn).symm
   have HONE := hid (NodeAt.one hn)
   clear htr hn hb hinf HPT HRD hrl
   obtain ⟨n, hnn⟩ : ∃ n, Pars.Node.mk 30 0 [] l = n := ⟨_, rfl⟩
   rw [hnn] at HP HN hsz
   clear hnn
   go_upto_region 5 with (refine wpList_store_box rfl 24 (.tmp 6) (.tmp 20) rfl w2.heap.size cs rfl rfl 24 _ (Box.new w2 _ _) HINF.out H4.out HONE.out ?_; intro w3 hx hv hz; have HZ := hid hz; clear hz)
   have hb : Below w2.heap.size w2 w3 := ((Below.refl _ w2).alloc (Nat.le_refl _) _).trans (hv.own (Nat.le_refl _) (by simp))
   have EB := hid hx
   have hrl := RB.out.lt
   replace RB := bl RB hb
   replace HN := hid (HN.out.below hb)
   have hz2 := HU.out.size
   replace HU := hid (HU.out.trans (hb.mono HU.out.size))
   clear hx hv hb
   have eb := EB.out
   have hdl := Pars.deep_size n
   go_wp2_with (refine wpList_load_row rfl 24 (.tmp 6) rfl w2.heap.size rfl _ cs (0, 0) _ eb Tryz.underlying24 rfl HINF.out ?_)
   refine (deep_any HN.out (by omega)).mono ?_
   rintro e w4 ⟨rfl, hb⟩
   have hel := EB.out.lt
   replace EB := hid (EB.out.below hb hel)
   replace RB := bl RB hb
   replace HN := hid (HN.out.below hb)
   have hz3 := HU.out.size
   replace HU := hid (HU.out.trans (hb.mono HU.out.size))
   clear hb eb hel
   by_cases y : 40 < Pars.deep n
   ·have d1 : decide ((40 : Int) < (Pars.deep n : Int)) = true := decide_eq_true (by omega)
    have d2 : (40 : Int) < (Pars.deep n : Int) := by omega
    replace HP := hid (HP.out.trans (if_pos y))
    go_wp2_with (refine wpList_store_box rfl 24 (.tmp 2) (.tmp 28) rfl w.heap.size #[.int .i64 0, .int .i64 0, .string ⟨#[]⟩, .slice none 0 0] rfl rfl 24 _ RB.out info_nod rfl (nz_one _ _ _ _ _ _) ?_; intro wz hxz huz hzz; have HZZ := hid hzz; clear hzz)
    refine bodyPost_ret (results_bt rfl (Back.mk' w.heap.size 24 _ rfl hxz Tryz.underlying24 rfl info_nod)) rfl ?_
    exact .inr ⟨2, HP.out, .inl rfl, rfl, HU.out.trans (huz.own (Nat.le_refl _) HU.out.size)⟩
   ·have d1 : decide ((40 : Int) < (Pars.deep n : Int)) = false := decide_eq_false (by omega)
    have d2 : ¬ (40 : Int) < (Pars.deep n : Int) := by omega
    replace HP := hid (HP.out.trans (if_neg y))
    have eb := EB.out
    go_wp2_with (first | (refine wpList_load_row rfl 24 (.tmp 6) rfl w2.heap.size rfl _ cs (0, 0) _ eb Tryz.underlying24 rfl HINF.out ?_) | (refine wpList_store_box rfl 24 (.tmp 2) (.tmp 29) rfl w.heap.size cs rfl rfl 24 _ RB.out HINF.out H4.out HONE.out ?_; intro wz hxz huz hzz; have HZZ := hid hzz; clear hzz))
    refine bodyPost_ret (results_bt rfl (Back.mk' w.heap.size 24 _ rfl hxz Tryz.underlying24 rfl HINF.out)) rfl ?_
    exact .inl ⟨n, cs, HP.out, rfl, (HN.out.upd huz (fun g hg => by have : w.heap.size < g := hg; omega)).weak (fun g hg => Nat.le_of_lt hg), HU.out.trans (huz.own (Nat.le_refl _) HU.out.size)⟩
  ·have hrl := RB.out.lt
   replace RB := hid (RB.out.below hb hrl)
   replace HU := hid (HU.out.trans (hb.mono HU.out.size))
   have HP : Hid (Pars.parse s = .error 4) := hid (by rw [HPT.out, htr])
   clear htr hb hrl HPT HRD
   go_wp2_with (first | (refine wpList_store_box rfl 24 (.tmp 6) (.tmp 20) rfl w2.heap.size #[.int .i64 0, .int .i64 0, .string ⟨#[]⟩, .slice none 0 0] rfl rfl 24 _ (Box.new w2 _ _) info_nod rfl (nz_one _ _ _ _ _ _) ?_; intro w3 hx hv hz; have HZ := hid hz; clear hz; have hb3 : Below w2.heap.size w2 w3 := ((Below.refl _ w2).alloc (Nat.le_refl _) _).trans (hv.own (Nat.le_refl _) (by simp)); have RB3 := bl RB hb3; have HU3 := hid (HU.out.trans (hb3.mono HU.out.size)); clear hx hv hb3) | (refine wpList_store_box rfl 24 (.tmp 2) (.tmp 24) rfl w.heap.size #[.int .i64 0, .int .i64 0, .string ⟨#[]⟩, .slice none 0 0] rfl rfl 24 _ RB3.out info_nod rfl (nz_one _ _ _ _ _ _) ?_; intro wz hxz huz hzz; have HZZ := hid hzz; clear hzz))
   refine bodyPost_ret (results_bt rfl (Back.mk' w.heap.size 24 _ rfl hxz Tryz.underlying24 rfl info_nod)) rfl ?_
   exact .inr ⟨4, HP.out, .inr rfl, rfl, HU3.out.trans (huz.own (Nat.le_refl _) HU3.out.size)⟩
end Go.Proofs.YtonjdlialejedaaGreatDoor
namespace Go.Proofs.YtonjdlialejedaaGreatDoor
open Go.Lib (hid)
open Go.RowKit
structure EnvW (w : World) : Prop where
 sp : Jl.Env w
 pow : Lib.TabIs Tryz.prog w "internal/strconv.uint64pow10" .u64 Lib.pow10Tab
 ml : ∃ m, w.cell? ⟨2, 0, none⟩ = some (.int .i64 m)
 big : 7 ≤ w.heap.size
theorem gPow : Tryz.prog.globalNamed "internal/strconv.uint64pow10" = some 3 := by kernel_rfl
theorem EnvW.below {w w' : World} (h : EnvW w) {B : Nat} (hb : Below B w w') (hB : 7 ≤ B) : EnvW w' := by
 obtain ⟨m, hm⟩ := h.ml
 exact ⟨h.sp.below hb (by omega), var?_below hb gPow (by omega) h.pow, ⟨m, by rw [hb.cell (p := ⟨2, 0, none⟩) (by show 2 < B; omega)]; exact hm⟩, Nat.le_trans h.big hb.size⟩
theorem EnvW.step {w w' : World} (h : EnvW w) (hb : Below w.heap.size w w') : EnvW w' := h.below hb h.big
theorem own_cells5 {w : World} {base : Nat} {A : Option Addr} {n cap : Nat} {xs : List Value} (h : w.ownsRow base 40 5 (.slice A n cap) n xs) (hn : 0 < n) :
  ∃ g, A = some ⟨g, 0, none⟩ ∧ base ≤ g ∧ g < w.heap.size ∧ ∀ j u, xs[j]? = some u → w.cell? ⟨g, j, none⟩ = some u := by
 rcases h.2 with ⟨hv, h0⟩ | ⟨g, cap', cur, hv, hb, hg, _⟩
 ·omega
 ·injection hv with hA _ _
  subst hA
  refine ⟨g, rfl, hb, (Array.getElem?_eq_some_iff.1 hg).1, fun j u hu => ?_⟩
  have := h.cells (g := g) rfl j u hu
  have e : (⟨g, 0, none⟩ : Addr).add j = ⟨g, j, none⟩ := by unfold Addr.add; split <;> simp_all
  rwa [e] at this
set_option maxRecDepth 100000 in
set_option maxHeartbeats 4000000 in
theorem one_any (s words : List UInt8) (hs : s.length ≤ 70368744177664) (hw : words.length ≤ 1000) (w : World) (he : EnvW w) :
  Calls Tryz.prog 84 #[.string (byt s), .string (byt words)] w fun e w' => e = .returned (.bool (Wri.one s words)) ∧ w' = w := by
 obtain ⟨m, hm⟩ := he.ml
 obtain ⟨b1, hb1⟩ : ∃ b, Lib.contains ([32] ++ words ++ [32]) ([32] ++ s ++ [32]) = b := ⟨_, rfl⟩
 obtain ⟨b2, hb2⟩ : ∃ b, decide (0 ≤ Lib.indexByte s 32) = b := ⟨_, rfl⟩
 have HC1 : Hid (Calls Tryz.prog 94 #[.string ((⟨#[32]⟩ : ByteArray) ++ byt words ++ ⟨#[32]⟩), .string ((⟨#[32]⟩ : ByteArray) ++ byt s ++ ⟨#[32]⟩)] w fun e w' => e = .returned (.bool b1) ∧ w' = w) := hid (by
  have e1 : (⟨#[32]⟩ : ByteArray) ++ byt words ++ ⟨#[32]⟩ = byt ([32] ++ words ++ [32]) := by rw [show (⟨#[32]⟩ : ByteArray) = byt [32] from rfl, byt_append, byt_append]
  have e2 : (⟨#[32]⟩ : ByteArray) ++ byt s ++ ⟨#[32]⟩ = byt ([32] ++ s ++ [32]) := by rw [show (⟨#[32]⟩ : ByteArray) = byt [32] from rfl, byt_append, byt_append]
  have := Tryz.strings_Contains (byt ([32] ++ words ++ [32])) (byt ([32] ++ s ++ [32])) m w (by rw [byt_size]; simp; omega) hm
  rw [byt_data, byt_data, hb1] at this
  rw [e1, e2]
  exact this)
 have HC2 : Hid (Calls Tryz.prog 94 #[.string (byt s), .string ⟨#[32]⟩] w fun e w' => e = .returned (.bool b2) ∧ w' = w) := hid (by
  have := Tryz.strings_Contains_one (byt s) 32 w
  rw [byt_data, hb2] at this
  exact this)
 have HE : Hid (Wri.one s words = (b1 && (!decide (s = []) && !b2))) := hid (by unfold Wri.one; rw [hb1, hb2])
 obtain ⟨T, hT0⟩ : ∃ q, byt s = q := ⟨_, rfl⟩
 obtain ⟨WD, hW0⟩ : ∃ q, byt words = q := ⟨_, rfl⟩
 have hz1 : T.size ≤ 70368744177664 := by rw [← hT0, byt_size]; exact hs
 have hz2 : WD.size ≤ 1000 := by rw [← hW0, byt_size]; exact hw
 have hz3 : (⟨#[32]⟩ : ByteArray).size = 1 := rfl
 have HT := hid hT0
 rw [hT0, hW0] at HC1
 rw [hT0] at HC2
 rw [hT0, hW0, HE.out]
 clear hb1 hb2 hT0 hW0 hm he HE hs hw
 go_enter Tryz.func84, Tryz.ntmps84
 go_wp2_with fail
 refine HC1.out.mono ?_
 rintro e w1 ⟨rfl, rfl⟩
 cases b1 with
 | false =>
  go_wp2
  go_ret
  exact ⟨rfl, rfl⟩
 | true =>
  by_cases hT : T = ⟨#[]⟩
  ·have hs0 : s = [] := byt_inj (HT.out.trans (hT.trans rfl))
   subst hT
   go_wp2
   go_ret
   exact ⟨ret_bool (a := false) (by simp [hs0]), rfl⟩
  obtain ⟨q1, q2, q3⟩ := same_no hT
  have q4 := of_decide_eq_false q2
  have q5 : (T.toList == []) = false := by
   have e : (⟨#[]⟩ : ByteArray).toList = [] := by simp [ByteArray.toList_eq]
   rw [e] at q1
   exact q1
  have q6 : T.toList.isEmpty = false := by
   rw [← HT.out, byt_list]
   cases s with
   | nil => exact absurd (HT.out.symm.trans rfl) hT
   | cons a l => rfl
  have hs0 : ¬ s = [] := fun e => hT (HT.out.symm.trans (by rw [e]; rfl))
  have HS0 := hid hs0
  clear hs0
  go_wp2_with fail
  refine HC2.out.mono ?_
  rintro e w2 ⟨rfl, rfl⟩
  cases b2 with
  | false =>
   go_wp2
   go_ret
   exact ⟨ret_bool (a := true) (by simp [HS0.out]), rfl⟩
  | true =>
   go_wp2
   go_ret
   exact ⟨ret_bool (a := false) (by simp), rfl⟩
set_option maxRecDepth 100000 in
set_option maxHeartbeats 4000000 in
theorem name_is (s : List UInt8) (hs : s.length ≤ 9223372036854775807) (w : World) (he : EnvW w) :
  Calls Tryz.prog 83 #[.string (byt s)] w fun e w' => e = .returned (.bool (Wri.name s)) ∧ Below w.heap.size w w' := by
 have HTK : Hid (Calls Tryz.prog 14 #[.string (byt s)] w fun e w' => Jl.TokOut w (Lexy.toks s) e w') := hid (by
  have := Jl.tokens_any (byt s) w he.sp (by have := he.big; omega) (by rw [byt_size]; exact hs)
  rw [byt_data] at this
  exact this)
 have HN : Hid (Wri.name s = match Lexy.toks s with | .ok [t] => decide (t.kind = 1) && decide (t.text = s) | _ => false) := hid rfl
 obtain ⟨T, hT0⟩ : ∃ q, byt s = q := ⟨_, rfl⟩
 have HT := hid hT0
 rw [hT0] at HTK
 rw [hT0]
 clear hT0
 go_enter Tryz.func83, Tryz.ntmps83
 go_wp2_with fail
 refine HTK.out.mono ?_
 intro e w1 ht
 cases hk : Lexy.toks s with
 | err ke =>
  rw [hk] at ht
  obtain ⟨rfl, hb⟩ := ht
  have hke := toks_err hk
  have HF : Hid (Wri.name s = false) := hid (by rw [HN.out, hk])
  have HB := hid hb
  have d1 : ((ke : Int) == 0) = false := by rw [beq_eq_false_iff_ne]; omega
  have d3 : ¬ (ke : Int) = 0 := by omega
  clear hk hb
  go_wp2
  go_ret
  exact ⟨ret_bool (a := false) HF.out.symm, HB.out⟩
 | ok ts =>
  rw [hk] at ht
  obtain ⟨A, cap, rfl, hown, hb⟩ := ht
  have HB := hid hb
  rcases ts with _ | ⟨t, _ | ⟨t2, ts⟩⟩
  ·have HF : Hid (Wri.name s = false) := hid (by rw [HN.out, hk])
   clear hk hown hb
   simp only [List.length_nil]
   go_wp2
   go_ret
   exact ⟨ret_bool (a := false) HF.out.symm, HB.out⟩
  ·have HF : Hid (Wri.name s = (decide (t.kind = 1) && decide (t.text = s))) := hid (by rw [HN.out, hk])
   obtain ⟨g, rfl, hg1, hg2, hc⟩ := own_cells5 hown (by simp)
   have c0 : w1.cell? ⟨g, 0, none⟩ = some (.int .i64 (t.kind : Int)) := hc 0 _ rfl
   have c3 : w1.cell? ⟨g, 3, none⟩ = some (.string (byt t.text)) := hc 3 _ rfl
   obtain ⟨KD, hKD⟩ : ∃ q, t.kind = q := ⟨_, rfl⟩
   obtain ⟨TT, hTT⟩ : ∃ q, byt t.text = q := ⟨_, rfl⟩
   have HTT := hid hTT
   rw [hKD] at c0 HF
   rw [hTT] at c3
   clear hk hc hown hb hKD hTT
   simp only [List.length_cons, List.length_nil]
   by_cases y : KD = 1
   ·subst y
    by_cases z : TT = T
    ·have hz : t.text = s := byt_inj (HTT.out.trans (z.trans HT.out.symm))
     subst z
     obtain ⟨q1, q2⟩ := same_yes TT
     go_wp2
     go_ret
     exact ⟨ret_bool (a := true) (by rw [HF.out]; simp [hz]), HB.out⟩
    ·have hz : ¬ t.text = s := fun e => z (by rw [← HTT.out, e, HT.out])
     have HZ := hid hz
     obtain ⟨q1, q2, q3⟩ := same_no z
     have q4 := of_decide_eq_false q2
     clear z hz
     go_wp2
     go_ret
     exact ⟨ret_bool (a := false) (by rw [HF.out]; simp [HZ.out]), HB.out⟩
   ·have d1 : ((KD : Int) == 1) = false := by rw [beq_eq_false_iff_ne]; omega
    have d3 : ¬ (KD : Int) = 1 := by omega
    have HF2 : Hid (Wri.name s = false) := hid (by rw [HF.out]; simp [y])
    clear y HF
    go_wp2
    go_ret
    exact ⟨ret_bool (a := false) HF2.out.symm, HB.out⟩
  ·have HF : Hid (Wri.name s = false) := hid (by rw [HN.out, hk])
   obtain ⟨q, hq⟩ : ∃ q, (t :: t2 :: ts).length = q := ⟨_, rfl⟩
   have hq2 : 2 ≤ q := by rw [← hq]; simp
   rw [hq]
   have d1 : ((q : Int) == 1) = false := by rw [beq_eq_false_iff_ne]; omega
   have d3 : ¬ (q : Int) = 1 := by omega
   clear hk hown hb hq
   go_wp2
   go_ret
   exact ⟨ret_bool (a := false) HF.out.symm, HB.out⟩
end Go.Proofs.YtonjdlialejedaaGreatDoor
