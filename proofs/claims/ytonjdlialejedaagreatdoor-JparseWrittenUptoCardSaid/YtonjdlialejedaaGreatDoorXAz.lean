/-
  Texts that the law leans on: JlJ, JlK, JlL. Conditions: as each says.
-/
import Derived.Test.YtonjdlialejedaaGreatDoorXAy
import Derived.Deep.RegionLaw
import Derived.Deep.AppendLies
import Derived.RegionTactic
import Derived.BigRegion
import Derived.Test.YtonjdlialejedaaGreatDoorXAa
set_option linter.unusedSimpArgs false
set_option linter.unusedVariables false
namespace Go.Proofs.YtonjdlialejedaaGreatDoor.Jl
open Go.Lib (hid)
open Go.RowKit
def tokC (t : Lexy.Tk) (lo hi : Nat) : Array Value := #[.int .i64 (t.kind : Int), .int .i64 (lo : Int), .int .i64 (hi : Int), .string (bytes t.text), .int .i64 (t.num : Int)]
theorem tokC_one (t : Lexy.Tk) (lo hi : Nat) : (tokC t lo hi).all (·.oneCell') = true := tok_one _ _ _ _ _
theorem letter_is (c : UInt8) (p : Bool) (h : Lexy.isLetter c = p) (w : World) : Calls Tryz.prog 40 #[.int .u8 (c.toNat : Int)] w fun e w' => e = .returned (.bool p) ∧ w = w' := by
 rw [← h]; exact letter_any c w
theorem digit_is (c : UInt8) (p : Bool) (h : Lexy.isDigit c = p) (w : World) : Calls Tryz.prog 42 #[.int .u8 (c.toNat : Int)] w fun e w' => e = .returned (.bool p) ∧ w = w' := by
 rw [← h]; exact digit_any c w
set_option maxRecDepth 100000 in
set_option maxHeartbeats 1000000 in
theorem next_number (b : Nat) (s : ByteArray) (k : Nat) (o : Value) (w : World) (h : Rd w b s k o) (hk : k ≤ s.size) (hm : s.size ≤ 1000000) (c : UInt8) (hc : ((s.data.toList.drop k)[0]?).getD 0 = c) (hl : Lexy.isLetter c = false) (hd : Lexy.isDigit c = true)
  (r : Lexy.Res (Lexy.Tk × Nat)) (H : ∀ w1, Below w.heap.size w w1 → Rd w1 b s k o → Calls Tryz.prog 43 #[.pointer (some ⟨b, 0, none⟩)] w1 fun e w' => Out w1 b s k o r e w') :
  Calls Tryz.prog 24 #[.pointer (some ⟨b, 0, none⟩)] w fun e w' => Out w b s k o r e w' := by
 have P0 : Hid (∀ w, Rd w b s k o → Calls Tryz.prog 38 #[.pointer (some ⟨b, 0, none⟩), .int .i64 0] w fun e w' => e = .returned (.int .u8 (c.toNat : Int)) ∧ ∃ n, w' = w.drewN n) := by
  intro w h
  have := peek_any b s k 0 o w h hk hm (by omega)
  rw [hc] at this
  exact this
 have HH := hid H
 have hlt := Box.lt h
 clear H hc
 have HLt := hid (fun w => letter_is c false hl w)
 clear hl
 have HDg := hid (fun w => digit_is c true hd w)
 clear hd
 cases r with
 | err n =>
  go_enter Tryz.func24, Tryz.ntmps24
  go_wp2_with fail
  refine (P0.out _ (h.alloc _)).mono ?_
  rintro e w1 ⟨rfl, m1, rfl⟩
  go_wp2_with fail
  refine (HLt.out _).mono ?_
  rintro e w1 ⟨rfl, rfl⟩
  go_wp2_with fail
  refine (HDg.out _).mono ?_
  rintro e w1 ⟨rfl, rfl⟩
  go_wp2_with fail
  refine (HH.out _ (below_drewN ((Below.refl _ w).alloc (Nat.le_refl _) _) _) ((h.alloc _).drewN _)).mono ?_
  rintro e w2 ⟨rfl, hu2⟩
  have htk : Box w2 w.heap.size 40 #[.int .i64 0, .int .i64 0, .int .i64 0, .string ⟨#[]⟩, .int .i64 0] := Box.grown ((Box.new w _ _).drewN _) hu2 (by simp; omega)
  have hup : Upd w w2 b := (((Upd.refl w b).alloc _).drewN _).trans hu2
  go_wp2_with (refine wpList_store_box rfl 40 (.tmp 2) (.tmp 17) rfl w.heap.size (tokC ⟨0, [], 0⟩ 0 0) rfl rfl 40 _ htk info_tok5 rfl (tokC_one _ _ _) ?_; intro w6 hx6 hu6 hz6)
  refine bodyPost_ret (results_box_tmp rfl _ _ w.heap.size 40 _ _ rfl hx6 Tryz.underlying40 rfl info_tok5) rfl ?_
  exact ⟨rfl, hup.far hu6 (Nat.le_refl _)⟩
 | ok tn =>
  obtain ⟨t, n⟩ := tn
  go_enter Tryz.func24, Tryz.ntmps24
  go_wp2_with fail
  refine (P0.out _ (h.alloc _)).mono ?_
  rintro e w1 ⟨rfl, m1, rfl⟩
  go_wp2_with fail
  refine (HLt.out _).mono ?_
  rintro e w1 ⟨rfl, rfl⟩
  go_wp2_with fail
  refine (HDg.out _).mono ?_
  rintro e w1 ⟨rfl, rfl⟩
  go_wp2_with fail
  refine (HH.out _ (below_drewN ((Below.refl _ w).alloc (Nat.le_refl _) _) _) ((h.alloc _).drewN _)).mono ?_
  rintro e w2 ⟨rfl, hr2, hu2⟩
  have htk : Box w2 w.heap.size 40 #[.int .i64 0, .int .i64 0, .int .i64 0, .string ⟨#[]⟩, .int .i64 0] := Box.grown ((Box.new w _ _).drewN _) hu2 (by simp; omega)
  have hup : Upd w w2 b := (((Upd.refl w b).alloc _).drewN _).trans hu2
  go_wp2_with (refine wpList_store_box rfl 40 (.tmp 2) (.tmp 17) rfl w.heap.size (tokC t 0 0) rfl rfl 40 _ htk info_tok5 rfl (tokC_one _ _ _) ?_; intro w6 hx6 hu6 hz6)
  refine bodyPost_ret (results_box_tmp rfl _ _ w.heap.size 40 _ _ rfl hx6 Tryz.underlying40 rfl info_tok5) rfl ?_
  exact ⟨rfl, Box.grown hr2 hu6 (by simp; omega), hup.far hu6 (Nat.le_refl _)⟩
set_option maxRecDepth 100000 in
set_option maxHeartbeats 1000000 in
theorem next_text (b : Nat) (s : ByteArray) (k : Nat) (o : Value) (w : World) (h : Rd w b s k o) (hk : k ≤ s.size) (hm : s.size ≤ 1000000) (c : UInt8) (hc : ((s.data.toList.drop k)[0]?).getD 0 = c) (hl : Lexy.isLetter c = false) (hd : Lexy.isDigit c = false) (hq : ((c.toNat : Int) == 34) = true)
  (r : Lexy.Res (Lexy.Tk × Nat)) (H : ∀ w1, Below w.heap.size w w1 → Rd w1 b s k o → Calls Tryz.prog 44 #[.pointer (some ⟨b, 0, none⟩)] w1 fun e w' => Out w1 b s k o r e w') :
  Calls Tryz.prog 24 #[.pointer (some ⟨b, 0, none⟩)] w fun e w' => Out w b s k o r e w' := by
 have P0 : Hid (∀ w, Rd w b s k o → Calls Tryz.prog 38 #[.pointer (some ⟨b, 0, none⟩), .int .i64 0] w fun e w' => e = .returned (.int .u8 (c.toNat : Int)) ∧ ∃ n, w' = w.drewN n) := by
  intro w h
  have := peek_any b s k 0 o w h hk hm (by omega)
  rw [hc] at this
  exact this
 have HH := hid H
 have hlt := Box.lt h
 clear H hc
 have HLt := hid (fun w => letter_is c false hl w)
 clear hl
 have HDg := hid (fun w => digit_is c false hd w)
 clear hd
 cases r with
 | err n =>
  go_enter Tryz.func24, Tryz.ntmps24
  go_wp2_with fail
  refine (P0.out _ (h.alloc _)).mono ?_
  rintro e w1 ⟨rfl, m1, rfl⟩
  go_wp2_with fail
  refine (HLt.out _).mono ?_
  rintro e w1 ⟨rfl, rfl⟩
  go_wp2_with fail
  refine (HDg.out _).mono ?_
  rintro e w1 ⟨rfl, rfl⟩
  go_wp2_with fail
  refine (HH.out _ (below_drewN ((Below.refl _ w).alloc (Nat.le_refl _) _) _) ((h.alloc _).drewN _)).mono ?_
  rintro e w2 ⟨rfl, hu2⟩
  have htk : Box w2 w.heap.size 40 #[.int .i64 0, .int .i64 0, .int .i64 0, .string ⟨#[]⟩, .int .i64 0] := Box.grown ((Box.new w _ _).drewN _) hu2 (by simp; omega)
  have hup : Upd w w2 b := (((Upd.refl w b).alloc _).drewN _).trans hu2
  go_wp2_with (refine wpList_store_box rfl 40 (.tmp 2) (.tmp 24) rfl w.heap.size (tokC ⟨0, [], 0⟩ 0 0) rfl rfl 40 _ htk info_tok5 rfl (tokC_one _ _ _) ?_; intro w6 hx6 hu6 hz6)
  refine bodyPost_ret (results_box_tmp rfl _ _ w.heap.size 40 _ _ rfl hx6 Tryz.underlying40 rfl info_tok5) rfl ?_
  exact ⟨rfl, hup.far hu6 (Nat.le_refl _)⟩
 | ok tn =>
  obtain ⟨t, n⟩ := tn
  go_enter Tryz.func24, Tryz.ntmps24
  go_wp2_with fail
  refine (P0.out _ (h.alloc _)).mono ?_
  rintro e w1 ⟨rfl, m1, rfl⟩
  go_wp2_with fail
  refine (HLt.out _).mono ?_
  rintro e w1 ⟨rfl, rfl⟩
  go_wp2_with fail
  refine (HDg.out _).mono ?_
  rintro e w1 ⟨rfl, rfl⟩
  go_wp2_with fail
  refine (HH.out _ (below_drewN ((Below.refl _ w).alloc (Nat.le_refl _) _) _) ((h.alloc _).drewN _)).mono ?_
  rintro e w2 ⟨rfl, hr2, hu2⟩
  have htk : Box w2 w.heap.size 40 #[.int .i64 0, .int .i64 0, .int .i64 0, .string ⟨#[]⟩, .int .i64 0] := Box.grown ((Box.new w _ _).drewN _) hu2 (by simp; omega)
  have hup : Upd w w2 b := (((Upd.refl w b).alloc _).drewN _).trans hu2
  go_wp2_with (refine wpList_store_box rfl 40 (.tmp 2) (.tmp 24) rfl w.heap.size (tokC t 0 0) rfl rfl 40 _ htk info_tok5 rfl (tokC_one _ _ _) ?_; intro w6 hx6 hu6 hz6)
  refine bodyPost_ret (results_box_tmp rfl _ _ w.heap.size 40 _ _ rfl hx6 Tryz.underlying40 rfl info_tok5) rfl ?_
  exact ⟨rfl, Box.grown hr2 hu6 (by simp; omega), hup.far hu6 (Nat.le_refl _)⟩
set_option maxRecDepth 100000 in
set_option maxHeartbeats 1000000 in
theorem next_sign (b : Nat) (s : ByteArray) (k : Nat) (o : Value) (w : World) (h : Rd w b s k o) (hk : k ≤ s.size) (hm : s.size ≤ 1000000) (c : UInt8) (hc : ((s.data.toList.drop k)[0]?).getD 0 = c) (hl : Lexy.isLetter c = false) (hd : Lexy.isDigit c = false) (hq : ((c.toNat : Int) == 34) = false)
  (r : Lexy.Res (Lexy.Tk × Nat)) (H : ∀ w1, Below w.heap.size w w1 → Rd w1 b s k o → Calls Tryz.prog 45 #[.pointer (some ⟨b, 0, none⟩)] w1 fun e w' => Out w1 b s k o r e w') :
  Calls Tryz.prog 24 #[.pointer (some ⟨b, 0, none⟩)] w fun e w' => Out w b s k o r e w' := by
 have P0 : Hid (∀ w, Rd w b s k o → Calls Tryz.prog 38 #[.pointer (some ⟨b, 0, none⟩), .int .i64 0] w fun e w' => e = .returned (.int .u8 (c.toNat : Int)) ∧ ∃ n, w' = w.drewN n) := by
  intro w h
  have := peek_any b s k 0 o w h hk hm (by omega)
  rw [hc] at this
  exact this
 have HH := hid H
 have hlt := Box.lt h
 clear H hc
 have HLt := hid (fun w => letter_is c false hl w)
 clear hl
 have HDg := hid (fun w => digit_is c false hd w)
 clear hd
 cases r with
 | err n =>
  go_enter Tryz.func24, Tryz.ntmps24
  go_wp2_with fail
  refine (P0.out _ (h.alloc _)).mono ?_
  rintro e w1 ⟨rfl, m1, rfl⟩
  go_wp2_with fail
  refine (HLt.out _).mono ?_
  rintro e w1 ⟨rfl, rfl⟩
  go_wp2_with fail
  refine (HDg.out _).mono ?_
  rintro e w1 ⟨rfl, rfl⟩
  go_wp2_with fail
  refine (HH.out _ (below_drewN ((Below.refl _ w).alloc (Nat.le_refl _) _) _) ((h.alloc _).drewN _)).mono ?_
  rintro e w2 ⟨rfl, hu2⟩
  have htk : Box w2 w.heap.size 40 #[.int .i64 0, .int .i64 0, .int .i64 0, .string ⟨#[]⟩, .int .i64 0] := Box.grown ((Box.new w _ _).drewN _) hu2 (by simp; omega)
  have hup : Upd w w2 b := (((Upd.refl w b).alloc _).drewN _).trans hu2
  go_wp2_with (refine wpList_store_box rfl 40 (.tmp 2) (.tmp 28) rfl w.heap.size (tokC ⟨0, [], 0⟩ 0 0) rfl rfl 40 _ htk info_tok5 rfl (tokC_one _ _ _) ?_; intro w6 hx6 hu6 hz6)
  refine bodyPost_ret (results_box_tmp rfl _ _ w.heap.size 40 _ _ rfl hx6 Tryz.underlying40 rfl info_tok5) rfl ?_
  exact ⟨rfl, hup.far hu6 (Nat.le_refl _)⟩
 | ok tn =>
  obtain ⟨t, n⟩ := tn
  go_enter Tryz.func24, Tryz.ntmps24
  go_wp2_with fail
  refine (P0.out _ (h.alloc _)).mono ?_
  rintro e w1 ⟨rfl, m1, rfl⟩
  go_wp2_with fail
  refine (HLt.out _).mono ?_
  rintro e w1 ⟨rfl, rfl⟩
  go_wp2_with fail
  refine (HDg.out _).mono ?_
  rintro e w1 ⟨rfl, rfl⟩
  go_wp2_with fail
  refine (HH.out _ (below_drewN ((Below.refl _ w).alloc (Nat.le_refl _) _) _) ((h.alloc _).drewN _)).mono ?_
  rintro e w2 ⟨rfl, hr2, hu2⟩
  have htk : Box w2 w.heap.size 40 #[.int .i64 0, .int .i64 0, .int .i64 0, .string ⟨#[]⟩, .int .i64 0] := Box.grown ((Box.new w _ _).drewN _) hu2 (by simp; omega)
  have hup : Upd w w2 b := (((Upd.refl w b).alloc _).drewN _).trans hu2
  go_wp2_with (refine wpList_store_box rfl 40 (.tmp 2) (.tmp 28) rfl w.heap.size (tokC t 0 0) rfl rfl 40 _ htk info_tok5 rfl (tokC_one _ _ _) ?_; intro w6 hx6 hu6 hz6)
  refine bodyPost_ret (results_box_tmp rfl _ _ w.heap.size 40 _ _ rfl hx6 Tryz.underlying40 rfl info_tok5) rfl ?_
  exact ⟨rfl, Box.grown hr2 hu6 (by simp; omega), hup.far hu6 (Nat.le_refl _)⟩
set_option maxRecDepth 100000 in
set_option maxHeartbeats 1000000 in
theorem next_name (b : Nat) (s : ByteArray) (k : Nat) (o : Value) (w : World) (h : Rd w b s k o) (he : Env w) (hb : 4 ≤ b) (hk : k ≤ s.size) (hm : s.size ≤ 1000000) (c : UInt8) (hc : ((s.data.toList.drop k)[0]?).getD 0 = c) (hl : Lexy.isLetter c = true) :
  Calls Tryz.prog 24 #[.pointer (some ⟨b, 0, none⟩)] w fun e w' => Out w b s k o (.ok (⟨if (s.data.toList.drop k).take (Lexy.nameLen (s.data.toList.drop k)) ∈ Lexy.kws then 5 else 1, (s.data.toList.drop k).take (Lexy.nameLen (s.data.toList.drop k)), 0⟩, Lexy.nameLen (s.data.toList.drop k))) e w' := by
 have P0 : Hid (∀ w, Rd w b s k o → Calls Tryz.prog 38 #[.pointer (some ⟨b, 0, none⟩), .int .i64 0] w fun e w' => e = .returned (.int .u8 (c.toNat : Int)) ∧ ∃ n, w' = w.drewN n) := by
  intro w h
  have := peek_any b s k 0 o w h hk hm (by omega)
  rw [hc] at this
  exact this
 have HN := hid (fun w (h : Rd w b s k o) (he : Env w) => name_any b s k o w h he hb hk hm)
 obtain ⟨t, ht⟩ : ∃ t : Lexy.Tk, (⟨if (s.data.toList.drop k).take (Lexy.nameLen (s.data.toList.drop k)) ∈ Lexy.kws then 5 else 1, (s.data.toList.drop k).take (Lexy.nameLen (s.data.toList.drop k)), 0⟩ : Lexy.Tk) = t := ⟨_, rfl⟩
 rw [ht] at HN ⊢
 obtain ⟨n, hn⟩ : ∃ n, Lexy.nameLen (s.data.toList.drop k) = n := ⟨_, rfl⟩
 rw [hn] at HN ⊢
 have hlt := Box.lt h
 have HLt := hid (fun w => letter_is c true hl w)
 clear hl hc ht hn
 go_enter Tryz.func24, Tryz.ntmps24
 go_wp2_with fail
 refine (P0.out _ (h.alloc _)).mono ?_
 rintro e w1 ⟨rfl, m1, rfl⟩
 go_wp2_with fail
 refine (HLt.out _).mono ?_
 rintro e w1 ⟨rfl, rfl⟩
 go_wp2_with fail
 refine (HN.out _ ((h.alloc _).drewN _) ((he.alloc (by omega) _).drewN _)).mono ?_
 rintro e w2 ⟨rfl, hr2, hu2⟩
 have htk : Box w2 w.heap.size 40 #[.int .i64 0, .int .i64 0, .int .i64 0, .string ⟨#[]⟩, .int .i64 0] := Box.grown ((Box.new w _ _).drewN _) hu2 (by simp; omega)
 have hup : Upd w w2 b := (((Upd.refl w b).alloc _).drewN _).trans hu2
 go_wp2_with (refine wpList_store_box rfl 40 (.tmp 2) (.tmp 11) rfl w.heap.size (tokC t 0 0) rfl rfl 40 _ htk info_tok5 rfl (tokC_one _ _ _) ?_; intro w6 hx6 hu6 hz6)
 refine bodyPost_ret (results_box_tmp rfl _ _ w.heap.size 40 _ _ rfl hx6 Tryz.underlying40 rfl info_tok5) rfl ?_
 exact ⟨rfl, Box.grown hr2 hu6 (by simp; omega), hup.far hu6 (Nat.le_refl _)⟩
theorem next_any (b : Nat) (s : ByteArray) (k : Nat) (o : Value) (w : World) (h : Rd w b s k o) (he : Env w) (hb : 4 ≤ b) (hm : s.size ≤ 1000000) (hk : k < s.size) :
  Calls Tryz.prog 24 #[.pointer (some ⟨b, 0, none⟩)] w fun e w' => Out w b s k o (Lexy.next (s.data.toList.drop k)) e w' := by
 have hx : k < s.data.toList.length := by simpa using hk
 have hd : s.data.toList.drop k = s.data.toList[k] :: s.data.toList.drop (k + 1) := List.drop_eq_getElem_cons hx
 obtain ⟨c, hc⟩ : ∃ c, s.data.toList[k] = c := ⟨_, rfl⟩
 rw [hc] at hd
 have hc0 : ((s.data.toList.drop k)[0]?).getD 0 = c := by rw [hd]; rfl
 cases hl : Lexy.isLetter c with
 | true =>
  have := next_name b s k o w h he hb (by omega) hm c hc0 hl
  have e : Lexy.next (s.data.toList.drop k) = .ok (⟨if (s.data.toList.drop k).take (Lexy.nameLen (s.data.toList.drop k)) ∈ Lexy.kws then 5 else 1, (s.data.toList.drop k).take (Lexy.nameLen (s.data.toList.drop k)), 0⟩, Lexy.nameLen (s.data.toList.drop k)) := by
   rw [hd]; simp only [Lexy.next, hl, if_true]
  rw [e]
  exact this
 | false =>
  cases hdg : Lexy.isDigit c with
  | true =>
   refine next_number b s k o w h (by omega) hm c hc0 hl hdg _ (fun w1 _ hr => ?_)
   have := number_any b s k o w1 hr (by omega) hm
   have e : Lexy.next (s.data.toList.drop k) = (match Lexy.numF 0 ((s.data.toList.drop k).take (Lexy.digLen (s.data.toList.drop k))) with
    | none => .err 2
    | some n => if (((s.data.toList.drop k).drop (Lexy.digLen (s.data.toList.drop k))).head?.map Lexy.isLetter).getD false then .err 4 else .ok (⟨2, [], n⟩, Lexy.digLen (s.data.toList.drop k))) := by
    rw [hd]; simp only [Lexy.next, hl, hdg, if_true]; rfl
   rw [e]
   exact this
  | false =>
   by_cases hq : c = 34
   ·refine next_text b s k o w h (by omega) hm c hc0 hl hdg (by subst hq; decide) _ (fun w1 _ hr => ?_)
    have := text_any b s k o w1 hr hk hm
    have e : Lexy.next (s.data.toList.drop k) = (match Lexy.txt (s.data.toList.drop (k + 1)) with
     | none => .err 4
     | some (t, m) => .ok (⟨3, t, 0⟩, 1 + m)) := by
     rw [hd]; simp only [Lexy.next, hq]; rfl
    rw [e]
    exact this
   ·refine next_sign b s k o w h (by omega) hm c hc0 hl hdg (byte_ne (d := 34) hq) _ (fun w1 hbl hr => ?_)
    have := sign_any b s k o w1 hr (he.below hbl (by have := Box.lt h; omega)) hb hm hk
    have e : Lexy.next (s.data.toList.drop k) = Lexy.sign (s.data.toList.drop k) := by
     rw [hd]; simp only [Lexy.next, hl, hdg]; simp [hq]
    rw [e]
    exact this
end Go.Proofs.YtonjdlialejedaaGreatDoor.Jl
namespace Go.Proofs.YtonjdlialejedaaGreatDoor.Jl
open Go.Lib (hid)
open Go.RowKit
def tokCells (ts : List Lexy.Tok) : List Value := ts.flatMap fun t => (tokC t.toTk t.lo t.hi).toList
theorem tokCells_len (ts : List Lexy.Tok) : (tokCells ts).length = ts.length * 5 := by
 induction ts with
 | nil => rfl
 | cons t ts ih => simp only [tokCells, List.flatMap_cons, List.length_append, List.length_cons] at ih ⊢; rw [ih]; simp [tokC]; omega
def TokOut (w : World) (r : Lexy.Res (List Lexy.Tok)) (e : Ending) (w' : World) : Prop :=
 match r with
 | .err n => e = .returned (.tuple #[.slice none 0 0, .int .i64 (n : Int)]) ∧ Below w.heap.size w w'
 | .ok ts => ∃ (A : Option Addr) (cap : Nat), e = .returned (.tuple #[.slice A ts.length cap, .int .i64 0]) ∧ w'.ownsRow w.heap.size 40 5 (.slice A ts.length cap) ts.length (tokCells ts) ∧ Below w.heap.size w w'
theorem own_below {w w' : World} {base : Nat} {e : TypeId} {size : Nat} {v : Value} {n : Nat} {xs : List Value} (h : w.ownsRow base e size v n xs) (hb : Below w.heap.size w w') : w'.ownsRow base e size v n xs :=
 h.kept (row := none) ⟨hb.os, hb.tape, hb.output, hb.size, fun k hk _ => hb.block k hk⟩ (by
  cases hv : v.ownBlock with
  | none => exact .inl rfl
  | some g => exact .inr (by simp))
theorem tokL_one (t : Lexy.Tk) (lo hi : Nat) : ∀ u ∈ (tokC t lo hi).toList, u.oneCell' = true := by
 intro u hu
 simp [tokC] at hu
 rcases hu with rfl | rfl | rfl | rfl | rfl <;> rfl
theorem own_base {w : World} {base B : Nat} {e : TypeId} {size : Nat} {v : Value} {n : Nat} {xs : List Value} (h : w.ownsRow base e size v n xs) (hB : B ≤ base) : w.ownsRow B e size v n xs := by
 refine ⟨h.1, ?_⟩
 rcases h.2 with h0 | ⟨g, cap, cur, hv, hb, rest⟩
 ·exact .inl h0
 ·exact .inr ⟨g, cap, cur, hv, by omega, rest⟩
theorem next_err {l : Lexy.Bs} {n : Nat} (h : Lexy.next l = .err n) : n = 2 ∨ n = 4 := by
 cases l with
 | nil => simp [Lexy.next] at h; exact .inr h.symm
 | cons c r =>
  simp only [Lexy.next] at h
  split at h
  ·cases h
  ·split at h
   ·split at h
    ·simp at h; omega
    ·split at h
     ·simp at h; omega
     ·cases h
   ·split at h
    ·split at h
     ·simp at h; omega
     ·cases h
    ·unfold Lexy.sign at h
     split at h
     ·cases h
     ·split at h
      ·cases h
      ·simp at h; omega
theorem toksR_skip (rem p : Nat) (l : Lexy.Bs) : Lexy.toksR rem (p + Lexy.skp false l) (l.drop (Lexy.skp false l)) = Lexy.toksR rem p l := by
 rw [Lexy.toksR_eq, Lexy.toksR_eq rem p l, Lexy.skp_idem]
 simp only [List.drop_zero, Nat.add_zero]
def join (acc : List Lexy.Tok) : Lexy.Res (List Lexy.Tok) → Lexy.Res (List Lexy.Tok)
 | .err e => .err e
 | .ok ts => .ok (acc ++ ts)
theorem join_join (acc : List Lexy.Tok) (x : Lexy.Tok) (r : Lexy.Res (List Lexy.Tok)) : join acc (join [x] r) = join (acc ++ [x]) r := by
 cases r <;> simp [join]
theorem step_ok (rem k : Nat) (l : Lexy.Bs) (t : Lexy.Tk) (n : Nat) (hz : Lexy.skp false l = 0) (hne : l ≠ []) (hn : Lexy.next l = .ok (t, n)) :
  Lexy.toksR (rem + 1) k l = join [⟨t, k, k + n⟩] (Lexy.toksR rem (k + n + Lexy.skp false (l.drop n)) ((l.drop n).drop (Lexy.skp false (l.drop n)))) := by
 rw [toksR_skip, Lexy.toksR_eq, hz]
 cases l with
 | nil => exact absurd rfl hne
 | cons c r =>
  simp only [List.drop_zero, hn, Nat.add_zero]
  cases Lexy.toksR rem (k + n) ((c :: r).drop n) <;> rfl
theorem step_full (k : Nat) (l : Lexy.Bs) (t : Lexy.Tk) (n : Nat) (hz : Lexy.skp false l = 0) (hne : l ≠ []) (hn : Lexy.next l = .ok (t, n)) : Lexy.toksR 0 k l = .err 2 := by
 rw [Lexy.toksR_eq, hz]
 cases l with
 | nil => exact absurd rfl hne
 | cons c r => simp only [List.drop_zero, hn]
theorem step_err (rem k : Nat) (l : Lexy.Bs) (n : Nat) (hz : Lexy.skp false l = 0) (hne : l ≠ []) (hn : Lexy.next l = .err n) : Lexy.toksR rem k l = .err n := by
 rw [Lexy.toksR_eq, hz]
 cases l with
 | nil => exact absurd rfl hne
 | cons c r => simp only [List.drop_zero, hn]
theorem step_done (rem k : Nat) : Lexy.toksR rem k [] = .ok [] := by
 rw [Lexy.toksR_eq]; simp
theorem Rd.tell {w : World} {b k : Nat} {s : ByteArray} {o : Value} (h : Rd w b s k o) (v : Value) : Rd (w.setCell ⟨b, 2, none⟩ v) b s k v := by
 have := Box.set h 2 v; simpa [Rd] using this
theorem tokCells_snoc (acc : List Lexy.Tok) (x : Lexy.Tok) : tokCells (acc ++ [x]) = tokCells acc ++ (tokC x.toTk x.lo x.hi).toList := by simp [tokCells]
theorem info_tokz : (Tryz.prog.info? 40).map (fun i => (i.zero, i.size, i.bytes)) = some (some (.agg #[.int .i64 0, .int .i64 0, .int .i64 0, .string ⟨#[]⟩, .int .i64 0]), 5, 48) := by kernel_rfl
set_option maxRecDepth 100000 in
set_option maxHeartbeats 1000000 in
theorem tokens_small (s : ByteArray) (w : World) (he : Env w) (h4 : 4 ≤ w.heap.size) (hm : s.size ≤ 2000) :
  Calls Tryz.prog 14 #[.string s] w fun e w' => TokOut w (Lexy.toksR 1000 0 s.data.toList) e w' := by
 obtain ⟨l, hl⟩ : ∃ l, s.data.toList = l := ⟨_, rfl⟩
 have hsz : l.length = s.size := by rw [← hl]; simp
 have HSK := hid (fun (k : Nat) (o : Value) (w1 : World) (h : Rd w1 w.heap.size s k o) (hk : k ≤ s.size) => skip_any w.heap.size s k o w1 h hk (by omega))
 have HNX := hid (fun (k : Nat) (o : Value) (w1 : World) (h : Rd w1 w.heap.size s k o) (he : Env w1) (hk : k < s.size) => next_any w.heap.size s k o w1 h he h4 (by omega) hk)
 rw [hl] at HSK HNX ⊢
 obtain ⟨R, hR⟩ : ∃ R, Lexy.toksR 1000 0 l = R := ⟨_, rfl⟩
 rw [hR]
 have HL := hid hl
 have HS := hid hsz
 have HR : Hid (join [] (Lexy.toksR 1000 (0 + Lexy.skp false l) (l.drop (Lexy.skp false l))) = R) := by
  rw [toksR_skip, hR]; cases R <;> exact hid rfl
 have hk0 : Lexy.skp false l ≤ s.size := by have := Lexy.skp_le false l; omega
 clear hl hsz hR
 have ht0 : decide ((2000 : Int) < (s.size : Int)) = false := by simp; omega
 obtain ⟨i0, hi0, hz0, hz1, hz2⟩ := info_parts info_tokz
 go_enter Tryz.func14, Tryz.ntmps14
 go_wp2_with fail
 refine (HSK.out 0 (.slice none 0 0) _ (Box.new w _ _) (by omega)).mono ?_
 rintro e w1 ⟨rfl, hr1, hu1⟩
 go_wp2_with fail
 go_loopg [] (s.size - Lexy.skp false l) (fun g wr => ∃ (k : Nat) (acc : List Lexy.Tok) (A : Option Addr) (cap : Nat), k ≤ s.size ∧ g = s.size - k ∧ acc.length ≤ 1000 ∧ Rd wr w.heap.size s k (.slice A acc.length cap) ∧ Below w.heap.size w wr ∧
  wr.ownsRow (w.heap.size + 1) 40 5 (.slice A acc.length cap) acc.length (tokCells acc) ∧ Hid (join acc (Lexy.toksR (1000 - acc.length) k (l.drop k)) = R) ∧ Hid (Lexy.skp false (l.drop k) = 0))
 case atStart =>
  refine ⟨Lexy.skp false l, [], none, 0, hk0, rfl, by simp, by simpa using hr1, ?_, World.ownsRow_nil _ _ _ _, by simpa using HR, Lexy.skp_idem false l⟩
  exact ((Below.refl _ w).alloc (Nat.le_refl _) _).trans (hu1.own (Nat.le_refl _) (by simp))
 case round =>
  obtain ⟨k, acc, A, cap, hk, hg, hacc, hr, hbl, hown, H, HK⟩ := hrel
  have HG := hid hg; clear hg
  have hwz := Box.lt hr
  have hp0 := hr.place
  by_cases hlt : k < s.size
  ·have hl1 : decide ((k : Int) < s.size) = true := by simp; omega
   have hdz : l.drop k ≠ [] := by intro e; have := congrArg List.length e; rw [List.length_drop, HS.out] at this; simp at this; omega
   have hcall := HNX.out k (.slice A acc.length cap) wr hr (he.below hbl h4) hlt
   cases hr' : Lexy.next (l.drop k) with
   | err n =>
    rw [hr'] at hcall
    have hn0 : ((n : Int) == 0) = false := by rcases next_err hr' with rfl | rfl <;> rfl
    have HC := hid hcall
    have HRn : Hid (R = .err n) := by
     rw [← H.out, step_err _ _ _ n HK.out hdz hr']; exact hid rfl
    clear hcall hr'
    go_wp2_with fail
    refine (HC.out).mono ?_
    rintro e w2 ⟨rfl, hu2⟩
    go_wp2_with (refine wpList_store_box rfl 40 (.tmp 6) (.tmp 32) rfl w2.heap.size (tokC ⟨0, [], 0⟩ 0 0) rfl rfl 40 _ (Box.new w2 _ _) info_tok5 rfl (tokC_one _ _ _) ?_; intro w4 hx4 hu4 hz4)
    go_ret2
    rw [HRn.out]
    refine ⟨rfl, ?_⟩
    exact ((hbl.trans (hu2.own (Nat.le_refl _) (by omega))).alloc (by have := hu2.size; omega) _).trans (hu4.own (by have := hu2.size; omega) (by have := hu2.size; simp; omega))
   | ok tn =>
    obtain ⟨t, n⟩ := tn
    rw [hr'] at hcall
    have HC := hid hcall
    clear hcall
    by_cases hfull : acc.length = 1000
    ·have hnf : ((acc.length : Int) == 1000) = true := by simp; omega
     have HRn : Hid (R = .err 2) := by
      rw [← H.out, show 1000 - acc.length = 0 by omega, step_full _ _ t n HK.out hdz hr']; exact hid rfl
     clear hr' hfull
     go_wp2_with fail
     refine (HC.out).mono ?_
     rintro e w2 ⟨rfl, hr2, hu2⟩
     have htd2 := hr2.told
     have hlt2 := Box.lt hr2
     go_wp2_with (refine wpList_store_box rfl 40 (.tmp 6) (.tmp 32) rfl w2.heap.size (tokC t 0 0) rfl rfl 40 _ (Box.new w2 _ _) info_tok5 rfl (tokC_one _ _ _) ?_; intro w4 hx4 hu4 hz4; have hr4 : Rd w4 w.heap.size s (k + n) (.slice A acc.length cap) := Box.grown (Box.alloc hr2 _) hu4 (by simp; omega); have htd4 := hr4.told)
     go_ret2
     rw [HRn.out]
     refine ⟨rfl, ?_⟩
     exact ((hbl.trans (hu2.own (Nat.le_refl _) (by omega))).alloc (by have := hu2.size; omega) _).trans (hu4.own (by have := hu2.size; omega) (by have := hu2.size; simp; omega))
    ·have hnf : ((acc.length : Int) == 1000) = false := by simp; omega
     have hsplit := Lexy.next_split hr'
     have hnl := Lexy.next_len hr'
     have hn1 : 0 < n := hsplit.2.2.1
     rw [List.length_drop, HS.out] at hnl
     have hsk := Lexy.skp_le false (l.drop (k + n))
     rw [List.length_drop, HS.out] at hsk
     obtain ⟨k2, hk2⟩ : ∃ k2, k + n + Lexy.skp false (l.drop (k + n)) = k2 := ⟨_, rfl⟩
     have HN : Hid (join (acc ++ [⟨t, k, k + n⟩]) (Lexy.toksR (1000 - (acc.length + 1)) k2 (l.drop k2)) = R) := by
      rw [← H.out, show 1000 - acc.length = (1000 - (acc.length + 1)) + 1 by omega, step_ok _ _ _ t n HK.out hdz hr', join_join, List.drop_drop, List.drop_drop, hk2]; exact hid rfl
     have HZ : Hid (Lexy.skp false (l.drop k2) = 0) := by
      have := Lexy.skp_idem false (l.drop (k + n)); rw [List.drop_drop, hk2] at this; exact this
     have HSK2 := HSK.out (k + n) 
     rw [hk2] at HSK2
     have HK2 := hid HSK2
     have hk2b : k2 ≤ s.size := by omega
     have hk2a : k < k2 := by omega
     clear hsplit hk2 hsk HSK2
     clear hr'
     go_wp2_with fail
     refine (HC.out).mono ?_
     rintro e w2 ⟨rfl, hr2, hu2⟩
     have htd2 := hr2.told
     have hlt2 := Box.lt hr2
     go_wp2_with (refine wpList_store_box rfl 40 (.tmp 6) (.tmp 32) rfl w2.heap.size (tokC t 0 0) rfl rfl 40 _ (Box.new w2 _ _) info_tok5 rfl (tokC_one _ _ _) ?_; intro w4 hx4 hu4 hz4; have hr4 : Rd w4 w.heap.size s (k + n) (.slice A acc.length cap) := Box.grown (Box.alloc hr2 _) hu4 (by simp; omega); have htd4 := hr4.told; have hpl4 := hr4.place; have hfr4 := hr4.free 2; have g1 := hx4.cell 1; have g2 := hx4.cell 2; have f1 := hx4.frozen 1; have f2 := hx4.frozen 2; simp [tokC] at g1 g2)
     go_region
     go_wp2
     have hx5 : Box (((w4.setCell ⟨w2.heap.size, 1, none⟩ (.int .i64 (k : Int))).setCell ⟨w2.heap.size, 2, none⟩ (.int .i64 ((k : Int) + (n : Int)))).drew) w2.heap.size 40 (tokC t k (k + n)) := by
      have := (Box.set (Box.set hx4 1 (.int .i64 (k : Int))) 2 (.int .i64 ((k : Int) + (n : Int))))
      have h2 : Box ((w4.setCell ⟨w2.heap.size, 1, none⟩ (.int .i64 (k : Int))).setCell ⟨w2.heap.size, 2, none⟩ (.int .i64 ((k : Int) + (n : Int)))) w2.heap.size 40 (tokC t k (k + n)) := by simpa [tokC] using this
      exact h2
     have hr5 : Rd (((w4.setCell ⟨w2.heap.size, 1, none⟩ (.int .i64 (k : Int))).setCell ⟨w2.heap.size, 2, none⟩ (.int .i64 ((k : Int) + (n : Int)))).drew) w.heap.size s (k + n) (.slice A acc.length cap) :=
      (Box.far (Box.far hr4 (by simp; omega) _) (by simp; omega) _)
     have hu5 : Upd (w2.alloc (.cells #[.int .i64 0, .int .i64 0, .int .i64 0, .string ⟨#[]⟩, .int .i64 0] 40)) (((w4.setCell ⟨w2.heap.size, 1, none⟩ (.int .i64 (k : Int))).setCell ⟨w2.heap.size, 2, none⟩ (.int .i64 ((k : Int) + (n : Int)))).drew) w2.heap.size := ((hu4.set (.inl rfl) _).set (.inl rfl) _).drew
     obtain ⟨w5, hw5⟩ : ∃ w5, (((w4.setCell ⟨w2.heap.size, 1, none⟩ (.int .i64 (k : Int))).setCell ⟨w2.heap.size, 2, none⟩ (.int .i64 ((k : Int) + (n : Int)))).drew) = w5 := ⟨_, rfl⟩
     rw [hw5] at hx5 hr5 hu5
     rw [hw5]
     clear hw5
     have hwz5 : w2.heap.size < w5.heap.size := hx5.lt
     have hown2 : w2.ownsRow (w.heap.size + 1) 40 5 (.slice A acc.length cap) acc.length (tokCells acc) := own_far hown hu2 (by omega)
     have hbl2 : Below w.heap.size w w2 := hbl.trans (hu2.own (Nat.le_refl _) (by omega))
     have hwz2 : wr.heap.size ≤ w2.heap.size := hu2.size
     have hb5 : Below w2.heap.size w2 w5 := ((Below.refl _ w2).alloc (Nat.le_refl _) _).trans (hu5.own (Nat.le_refl _) (by simp))
     have hown5 : w5.ownsRow (w.heap.size + 1) 40 5 (.slice A acc.length cap) acc.length (tokCells acc) := own_below hown2 hb5
     have q0 := hx5.cell 0; have q1 := hx5.cell 1; have q2 := hx5.cell 2; have q3 := hx5.cell 3; have q4 := hx5.cell 4
     simp [tokC] at q0 q1 q2 q3 q4
     have htd5 := hr5.told; have hfr5 := hr5.free 2
     have hbw5 : w.heap.size < w5.heap.size := by omega
     have hcs : (tokCells acc).length = acc.length * 5 := tokCells_len acc
     have HCS := hid hcs
     clear hcs g1 g2 f1 f2 htd4 hpl4 hfr4 hp0 htd2
     go_region_law (refine step_append_lies _ rfl (.tmp 58) (.tmp 60) 35 rfl (w.heap.size + 1) 40 i0 _ 5 48 Tryz.underlying35 hi0 hz0 hz1 hz2 rfl (by decide) (.slice A acc.length cap) acc.length (tokCells acc) (by simp [Act.eval]) (by exact hown5.alloc _) ⟨w5.heap.size, 0, none⟩ 1 1 (tokC t k (k + n)).toList (by simp [Act.eval]) rfl (by exact World.news_of_block (Box.new w5 _ (tokC t k (k + n)))) (tokL_one t k (k + n)) (by omega) (by unfold maxLen; omega) (by omega) (by simp; omega) (w5.heap.size + 1) (by simp) ?_; intro g7 cap7 w7 hown7 hgrow7 hor7 hlt7; have hb7 : Below (w.heap.size + 1) w5 w7 := ((Below.refl _ w5).alloc (by omega) _).drew.trans (below_grown hgrow7 (by simp; omega) (fun g hg => (hown.lt g hg).1)); have hr7 : Rd w7 w.heap.size s (k + n) (.slice A acc.length cap) := Rd.below hr5 hb7 (by omega); have htd7 := hr7.told; have hfr7 := hr7.free 2)
     all_goals
      go_wp2_with fail
      refine (HK2.out _ _ (by exact (hr7.tell _)) (by omega)).mono ?_
      rintro e w8 ⟨rfl, hr8, hu8⟩
      go_wp2
      have hwz7 := Box.lt hr7
      have hb7s : Below w.heap.size w (w7.setCell ⟨w.heap.size, 2, none⟩ (.slice (some ⟨g7, 0, none⟩) (acc.length + 1) cap7)) := ((hbl2.trans (hb5.mono (by omega))).trans (hb7.mono (by omega))).setCell (by simp) _
      have hb8 : Below w.heap.size w w8 := by
       refine Below.trans ?_ (hu8.own (Nat.le_refl _) (by simp; omega))
       first
       | exact hb7s
       | exact hb7s.drew
      have hown8 : w8.ownsRow (w.heap.size + 1) 40 5 (.slice (some ⟨g7, 0, none⟩) (acc.length + 1) cap7) (acc.length + 1) (tokCells acc ++ (tokC t k (k + n)).toList) :=
       own_far (by exact (ownsRow_setCell_below hown7 (a := ⟨w.heap.size, 2, none⟩) (by simp) _)) hu8 (by omega)
      have hr9 : Rd w8 w.heap.size s k2 (.slice (some ⟨g7, 0, none⟩) (acc ++ [(⟨t, k, k + n⟩ : Lexy.Tok)]).length cap7) := by simpa using hr8
      have hown9 : w8.ownsRow (w.heap.size + 1) 40 5 (.slice (some ⟨g7, 0, none⟩) (acc ++ [(⟨t, k, k + n⟩ : Lexy.Tok)]).length cap7) (acc ++ [(⟨t, k, k + n⟩ : Lexy.Tok)]).length (tokCells (acc ++ [(⟨t, k, k + n⟩ : Lexy.Tok)])) := by
       rw [tokCells_snoc]; simpa using hown8
      have HN9 : Hid (join (acc ++ [(⟨t, k, k + n⟩ : Lexy.Tok)]) (Lexy.toksR (1000 - (acc ++ [(⟨t, k, k + n⟩ : Lexy.Tok)]).length) k2 (l.drop k2)) = R) := by
       rw [show (acc ++ [(⟨t, k, k + n⟩ : Lexy.Tok)]).length = acc.length + 1 by simp]; exact HN
      go_roundg (s.size - k2)
      case measure => rw [HG.out]; omega
      case rel => exact ⟨k2, acc ++ [(⟨t, k, k + n⟩ : Lexy.Tok)], some ⟨g7, 0, none⟩, cap7, hk2b, rfl, by simp; omega, hr9, hb8, hown9, HN9, HZ⟩
  ·have hl1 : decide ((k : Int) < s.size) = false := by simp; omega
   have htd := hr.told
   have HRn : Hid (R = .ok acc) := by
    rw [← H.out, List.drop_eq_nil_of_le (by rw [HS.out]; omega), step_done]; simp [join, Hid]
   go_wp2
   go_ret2
   rw [HRn.out]
   exact ⟨A, cap, rfl, own_base hown (by omega), hbl⟩
end Go.Proofs.YtonjdlialejedaaGreatDoor.Jl
namespace Go.Proofs.YtonjdlialejedaaGreatDoor.Jl
open Go.Lib (hid)
open Go.RowKit
theorem tokens_any (s : ByteArray) (w : World) (he : Env w) (h4 : 4 ≤ w.heap.size) (hm : s.size ≤ 9223372036854775807) :
  Calls Tryz.prog 14 #[.string s] w fun e w' => TokOut w (Lexy.toks s.data.toList) e w' := by
 have hl : s.data.toList.length = s.size := by simp
 unfold Lexy.toks
 rw [hl]
 by_cases hb : 2000 < s.size
 ·rw [if_pos hb]
  have ht0 : decide ((2000 : Int) < (s.size : Int)) = true := by simp; omega
  go_enter Tryz.func14, Tryz.ntmps14
  go_wp2
  go_ret2
  exact ⟨rfl, Below.refl _ _⟩
 ·rw [if_neg hb]
  exact tokens_small s w he h4 (by omega)
end Go.Proofs.YtonjdlialejedaaGreatDoor.Jl
