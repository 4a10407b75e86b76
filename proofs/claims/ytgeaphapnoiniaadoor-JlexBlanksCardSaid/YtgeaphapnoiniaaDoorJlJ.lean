/-
  The next token is read. Conditions: as in the texts before.
-/
import Derived.Test.YtgeaphapnoiniaaDoorJlI
namespace Go.Proofs.YtgeaphapnoiniaaDoor
open Go.RowKit

def tokC (t : Lexy.Tk) (lo hi : Nat) : Array Value := #[.int .i64 (t.kind : Int), .int .i64 (lo : Int), .int .i64 (hi : Int), .string (bytes t.text), .int .i64 (t.num : Int)]
theorem tokV_eq (t : Lexy.Tk) (lo hi : Nat) : tokV t lo hi = .agg (tokC t lo hi) := rfl
theorem tokC_one (t : Lexy.Tk) (lo hi : Nat) : (tokC t lo hi).all (·.oneCell') = true := tok_one _ _ _ _ _

theorem letter_is (c : UInt8) (p : Bool) (h : Lexy.isLetter c = p) (w : World) : Calls Tryd.prog 22 #[.int .u8 (c.toNat : Int)] w fun e w' => e = .returned (.bool p) ∧ w = w' := by
  rw [← h]; exact letter_any c w
theorem digit_is (c : UInt8) (p : Bool) (h : Lexy.isDigit c = p) (w : World) : Calls Tryd.prog 24 #[.int .u8 (c.toNat : Int)] w fun e w' => e = .returned (.bool p) ∧ w = w' := by
  rw [← h]; exact digit_any c w

set_option maxRecDepth 100000 in
set_option maxHeartbeats 1000000 in
theorem next_number (b : Nat) (s : ByteArray) (k : Nat) (o : Value) (w : World) (h : Rd w b s k o) (hk : k ≤ s.size) (hm : s.size ≤ 1000000) (c : UInt8) (hc : ((s.data.toList.drop k)[0]?).getD 0 = c) (hl : Lexy.isLetter c = false) (hd : Lexy.isDigit c = true)
    (r : Lexy.Res (Lexy.Tk × Nat)) (H : ∀ w1, Below w.heap.size w w1 → Rd w1 b s k o → Calls Tryd.prog 25 #[.pointer (some ⟨b, 0, none⟩)] w1 fun e w' => Out w1 b s k o r e w') :
    Calls Tryd.prog 16 #[.pointer (some ⟨b, 0, none⟩)] w fun e w' => Out w b s k o r e w' := by
  have P0 : Hid (∀ w, Rd w b s k o → Calls Tryd.prog 20 #[.pointer (some ⟨b, 0, none⟩), .int .i64 0] w fun e w' => e = .returned (.int .u8 (c.toNat : Int)) ∧ ∃ n, w' = w.drewN n) := by
    intro w h
    have := peek_any b s k 0 o w h hk hm (by omega)
    rw [hc] at this
    exact this
  have HH := Lib.hid H
  have hlt := Box.lt h
  clear H hc
  have HLt := Lib.hid (fun w => letter_is c false hl w)
  clear hl
  have HDg := Lib.hid (fun w => digit_is c true hd w)
  clear hd
  cases r with
  | err n =>
    go_enter Tryd.func16, Tryd.ntmps16
    go_wp2_with (fail)
    refine (P0.out _ (h.alloc _)).mono ?_
    rintro e w1 ⟨rfl, m1, rfl⟩
    go_wp2_with (fail)
    refine (HLt.out _).mono ?_
    rintro e w1 ⟨rfl, rfl⟩
    go_wp2_with (fail)
    refine (HDg.out _).mono ?_
    rintro e w1 ⟨rfl, rfl⟩
    go_wp2_with (fail)
    refine (HH.out _ (below_drewN ((Below.refl _ w).alloc (Nat.le_refl _) _) _) ((h.alloc _).drewN _)).mono ?_
    rintro e w2 ⟨rfl, hu2⟩
    have htk : Box w2 w.heap.size 28 #[.int .i64 0, .int .i64 0, .int .i64 0, .string ⟨#[]⟩, .int .i64 0] := Box.grown ((Box.new w _ _).drewN _) hu2 (by simp; omega)
    have hup : Upd w w2 b := (((Upd.refl w b).alloc _).drewN _).trans hu2
    go_wp2_with (refine wpList_store_box rfl 28 (.tmp 2) (.tmp 17) rfl w.heap.size (tokC ⟨0, [], 0⟩ 0 0) rfl rfl 28 _ htk info_tok5 rfl (tokC_one _ _ _) ?_; intro w6 hx6 hu6 hz6)
    refine bodyPost_ret (results_box_tmp rfl _ _ w.heap.size 28 _ _ rfl hx6 Tryd.underlying28 rfl info_tok5) rfl ?_
    exact ⟨rfl, hup.far hu6 (Nat.le_refl _)⟩
  | ok tn =>
    obtain ⟨t, n⟩ := tn
    go_enter Tryd.func16, Tryd.ntmps16
    go_wp2_with (fail)
    refine (P0.out _ (h.alloc _)).mono ?_
    rintro e w1 ⟨rfl, m1, rfl⟩
    go_wp2_with (fail)
    refine (HLt.out _).mono ?_
    rintro e w1 ⟨rfl, rfl⟩
    go_wp2_with (fail)
    refine (HDg.out _).mono ?_
    rintro e w1 ⟨rfl, rfl⟩
    go_wp2_with (fail)
    refine (HH.out _ (below_drewN ((Below.refl _ w).alloc (Nat.le_refl _) _) _) ((h.alloc _).drewN _)).mono ?_
    rintro e w2 ⟨rfl, hr2, hu2⟩
    have htk : Box w2 w.heap.size 28 #[.int .i64 0, .int .i64 0, .int .i64 0, .string ⟨#[]⟩, .int .i64 0] := Box.grown ((Box.new w _ _).drewN _) hu2 (by simp; omega)
    have hup : Upd w w2 b := (((Upd.refl w b).alloc _).drewN _).trans hu2
    go_wp2_with (refine wpList_store_box rfl 28 (.tmp 2) (.tmp 17) rfl w.heap.size (tokC t 0 0) rfl rfl 28 _ htk info_tok5 rfl (tokC_one _ _ _) ?_; intro w6 hx6 hu6 hz6)
    refine bodyPost_ret (results_box_tmp rfl _ _ w.heap.size 28 _ _ rfl hx6 Tryd.underlying28 rfl info_tok5) rfl ?_
    exact ⟨rfl, Box.grown hr2 hu6 (by simp; omega), hup.far hu6 (Nat.le_refl _)⟩

set_option maxRecDepth 100000 in
set_option maxHeartbeats 1000000 in
theorem next_text (b : Nat) (s : ByteArray) (k : Nat) (o : Value) (w : World) (h : Rd w b s k o) (hk : k ≤ s.size) (hm : s.size ≤ 1000000) (c : UInt8) (hc : ((s.data.toList.drop k)[0]?).getD 0 = c) (hl : Lexy.isLetter c = false) (hd : Lexy.isDigit c = false) (hq : ((c.toNat : Int) == 34) = true)
    (r : Lexy.Res (Lexy.Tk × Nat)) (H : ∀ w1, Below w.heap.size w w1 → Rd w1 b s k o → Calls Tryd.prog 26 #[.pointer (some ⟨b, 0, none⟩)] w1 fun e w' => Out w1 b s k o r e w') :
    Calls Tryd.prog 16 #[.pointer (some ⟨b, 0, none⟩)] w fun e w' => Out w b s k o r e w' := by
  have P0 : Hid (∀ w, Rd w b s k o → Calls Tryd.prog 20 #[.pointer (some ⟨b, 0, none⟩), .int .i64 0] w fun e w' => e = .returned (.int .u8 (c.toNat : Int)) ∧ ∃ n, w' = w.drewN n) := by
    intro w h
    have := peek_any b s k 0 o w h hk hm (by omega)
    rw [hc] at this
    exact this
  have HH := Lib.hid H
  have hlt := Box.lt h
  clear H hc
  have HLt := Lib.hid (fun w => letter_is c false hl w)
  clear hl
  have HDg := Lib.hid (fun w => digit_is c false hd w)
  clear hd
  cases r with
  | err n =>
    go_enter Tryd.func16, Tryd.ntmps16
    go_wp2_with (fail)
    refine (P0.out _ (h.alloc _)).mono ?_
    rintro e w1 ⟨rfl, m1, rfl⟩
    go_wp2_with (fail)
    refine (HLt.out _).mono ?_
    rintro e w1 ⟨rfl, rfl⟩
    go_wp2_with (fail)
    refine (HDg.out _).mono ?_
    rintro e w1 ⟨rfl, rfl⟩
    go_wp2_with (fail)
    refine (HH.out _ (below_drewN ((Below.refl _ w).alloc (Nat.le_refl _) _) _) ((h.alloc _).drewN _)).mono ?_
    rintro e w2 ⟨rfl, hu2⟩
    have htk : Box w2 w.heap.size 28 #[.int .i64 0, .int .i64 0, .int .i64 0, .string ⟨#[]⟩, .int .i64 0] := Box.grown ((Box.new w _ _).drewN _) hu2 (by simp; omega)
    have hup : Upd w w2 b := (((Upd.refl w b).alloc _).drewN _).trans hu2
    go_wp2_with (refine wpList_store_box rfl 28 (.tmp 2) (.tmp 24) rfl w.heap.size (tokC ⟨0, [], 0⟩ 0 0) rfl rfl 28 _ htk info_tok5 rfl (tokC_one _ _ _) ?_; intro w6 hx6 hu6 hz6)
    refine bodyPost_ret (results_box_tmp rfl _ _ w.heap.size 28 _ _ rfl hx6 Tryd.underlying28 rfl info_tok5) rfl ?_
    exact ⟨rfl, hup.far hu6 (Nat.le_refl _)⟩
  | ok tn =>
    obtain ⟨t, n⟩ := tn
    go_enter Tryd.func16, Tryd.ntmps16
    go_wp2_with (fail)
    refine (P0.out _ (h.alloc _)).mono ?_
    rintro e w1 ⟨rfl, m1, rfl⟩
    go_wp2_with (fail)
    refine (HLt.out _).mono ?_
    rintro e w1 ⟨rfl, rfl⟩
    go_wp2_with (fail)
    refine (HDg.out _).mono ?_
    rintro e w1 ⟨rfl, rfl⟩
    go_wp2_with (fail)
    refine (HH.out _ (below_drewN ((Below.refl _ w).alloc (Nat.le_refl _) _) _) ((h.alloc _).drewN _)).mono ?_
    rintro e w2 ⟨rfl, hr2, hu2⟩
    have htk : Box w2 w.heap.size 28 #[.int .i64 0, .int .i64 0, .int .i64 0, .string ⟨#[]⟩, .int .i64 0] := Box.grown ((Box.new w _ _).drewN _) hu2 (by simp; omega)
    have hup : Upd w w2 b := (((Upd.refl w b).alloc _).drewN _).trans hu2
    go_wp2_with (refine wpList_store_box rfl 28 (.tmp 2) (.tmp 24) rfl w.heap.size (tokC t 0 0) rfl rfl 28 _ htk info_tok5 rfl (tokC_one _ _ _) ?_; intro w6 hx6 hu6 hz6)
    refine bodyPost_ret (results_box_tmp rfl _ _ w.heap.size 28 _ _ rfl hx6 Tryd.underlying28 rfl info_tok5) rfl ?_
    exact ⟨rfl, Box.grown hr2 hu6 (by simp; omega), hup.far hu6 (Nat.le_refl _)⟩

set_option maxRecDepth 100000 in
set_option maxHeartbeats 1000000 in
theorem next_sign (b : Nat) (s : ByteArray) (k : Nat) (o : Value) (w : World) (h : Rd w b s k o) (hk : k ≤ s.size) (hm : s.size ≤ 1000000) (c : UInt8) (hc : ((s.data.toList.drop k)[0]?).getD 0 = c) (hl : Lexy.isLetter c = false) (hd : Lexy.isDigit c = false) (hq : ((c.toNat : Int) == 34) = false)
    (r : Lexy.Res (Lexy.Tk × Nat)) (H : ∀ w1, Below w.heap.size w w1 → Rd w1 b s k o → Calls Tryd.prog 27 #[.pointer (some ⟨b, 0, none⟩)] w1 fun e w' => Out w1 b s k o r e w') :
    Calls Tryd.prog 16 #[.pointer (some ⟨b, 0, none⟩)] w fun e w' => Out w b s k o r e w' := by
  have P0 : Hid (∀ w, Rd w b s k o → Calls Tryd.prog 20 #[.pointer (some ⟨b, 0, none⟩), .int .i64 0] w fun e w' => e = .returned (.int .u8 (c.toNat : Int)) ∧ ∃ n, w' = w.drewN n) := by
    intro w h
    have := peek_any b s k 0 o w h hk hm (by omega)
    rw [hc] at this
    exact this
  have HH := Lib.hid H
  have hlt := Box.lt h
  clear H hc
  have HLt := Lib.hid (fun w => letter_is c false hl w)
  clear hl
  have HDg := Lib.hid (fun w => digit_is c false hd w)
  clear hd
  cases r with
  | err n =>
    go_enter Tryd.func16, Tryd.ntmps16
    go_wp2_with (fail)
    refine (P0.out _ (h.alloc _)).mono ?_
    rintro e w1 ⟨rfl, m1, rfl⟩
    go_wp2_with (fail)
    refine (HLt.out _).mono ?_
    rintro e w1 ⟨rfl, rfl⟩
    go_wp2_with (fail)
    refine (HDg.out _).mono ?_
    rintro e w1 ⟨rfl, rfl⟩
    go_wp2_with (fail)
    refine (HH.out _ (below_drewN ((Below.refl _ w).alloc (Nat.le_refl _) _) _) ((h.alloc _).drewN _)).mono ?_
    rintro e w2 ⟨rfl, hu2⟩
    have htk : Box w2 w.heap.size 28 #[.int .i64 0, .int .i64 0, .int .i64 0, .string ⟨#[]⟩, .int .i64 0] := Box.grown ((Box.new w _ _).drewN _) hu2 (by simp; omega)
    have hup : Upd w w2 b := (((Upd.refl w b).alloc _).drewN _).trans hu2
    go_wp2_with (refine wpList_store_box rfl 28 (.tmp 2) (.tmp 28) rfl w.heap.size (tokC ⟨0, [], 0⟩ 0 0) rfl rfl 28 _ htk info_tok5 rfl (tokC_one _ _ _) ?_; intro w6 hx6 hu6 hz6)
    refine bodyPost_ret (results_box_tmp rfl _ _ w.heap.size 28 _ _ rfl hx6 Tryd.underlying28 rfl info_tok5) rfl ?_
    exact ⟨rfl, hup.far hu6 (Nat.le_refl _)⟩
  | ok tn =>
    obtain ⟨t, n⟩ := tn
    go_enter Tryd.func16, Tryd.ntmps16
    go_wp2_with (fail)
    refine (P0.out _ (h.alloc _)).mono ?_
    rintro e w1 ⟨rfl, m1, rfl⟩
    go_wp2_with (fail)
    refine (HLt.out _).mono ?_
    rintro e w1 ⟨rfl, rfl⟩
    go_wp2_with (fail)
    refine (HDg.out _).mono ?_
    rintro e w1 ⟨rfl, rfl⟩
    go_wp2_with (fail)
    refine (HH.out _ (below_drewN ((Below.refl _ w).alloc (Nat.le_refl _) _) _) ((h.alloc _).drewN _)).mono ?_
    rintro e w2 ⟨rfl, hr2, hu2⟩
    have htk : Box w2 w.heap.size 28 #[.int .i64 0, .int .i64 0, .int .i64 0, .string ⟨#[]⟩, .int .i64 0] := Box.grown ((Box.new w _ _).drewN _) hu2 (by simp; omega)
    have hup : Upd w w2 b := (((Upd.refl w b).alloc _).drewN _).trans hu2
    go_wp2_with (refine wpList_store_box rfl 28 (.tmp 2) (.tmp 28) rfl w.heap.size (tokC t 0 0) rfl rfl 28 _ htk info_tok5 rfl (tokC_one _ _ _) ?_; intro w6 hx6 hu6 hz6)
    refine bodyPost_ret (results_box_tmp rfl _ _ w.heap.size 28 _ _ rfl hx6 Tryd.underlying28 rfl info_tok5) rfl ?_
    exact ⟨rfl, Box.grown hr2 hu6 (by simp; omega), hup.far hu6 (Nat.le_refl _)⟩

set_option maxRecDepth 100000 in
set_option maxHeartbeats 1000000 in
theorem next_name (b : Nat) (s : ByteArray) (k : Nat) (o : Value) (w : World) (h : Rd w b s k o) (he : Env w) (hb : 4 ≤ b) (hk : k ≤ s.size) (hm : s.size ≤ 1000000) (c : UInt8) (hc : ((s.data.toList.drop k)[0]?).getD 0 = c) (hl : Lexy.isLetter c = true) :
    Calls Tryd.prog 16 #[.pointer (some ⟨b, 0, none⟩)] w fun e w' => Out w b s k o (.ok (⟨if (s.data.toList.drop k).take (Lexy.nameLen (s.data.toList.drop k)) ∈ Lexy.kws then 5 else 1, (s.data.toList.drop k).take (Lexy.nameLen (s.data.toList.drop k)), 0⟩, Lexy.nameLen (s.data.toList.drop k))) e w' := by
  have P0 : Hid (∀ w, Rd w b s k o → Calls Tryd.prog 20 #[.pointer (some ⟨b, 0, none⟩), .int .i64 0] w fun e w' => e = .returned (.int .u8 (c.toNat : Int)) ∧ ∃ n, w' = w.drewN n) := by
    intro w h
    have := peek_any b s k 0 o w h hk hm (by omega)
    rw [hc] at this
    exact this
  have HN := Lib.hid (fun w (h : Rd w b s k o) (he : Env w) => name_any b s k o w h he hb hk hm)
  obtain ⟨t, ht⟩ : ∃ t : Lexy.Tk, (⟨if (s.data.toList.drop k).take (Lexy.nameLen (s.data.toList.drop k)) ∈ Lexy.kws then 5 else 1, (s.data.toList.drop k).take (Lexy.nameLen (s.data.toList.drop k)), 0⟩ : Lexy.Tk) = t := ⟨_, rfl⟩
  rw [ht] at HN ⊢
  obtain ⟨n, hn⟩ : ∃ n, Lexy.nameLen (s.data.toList.drop k) = n := ⟨_, rfl⟩
  rw [hn] at HN ⊢
  have hlt := Box.lt h
  have HLt := Lib.hid (fun w => letter_is c true hl w)
  clear hl hc ht hn
  go_enter Tryd.func16, Tryd.ntmps16
  go_wp2_with (fail)
  refine (P0.out _ (h.alloc _)).mono ?_
  rintro e w1 ⟨rfl, m1, rfl⟩
  go_wp2_with (fail)
  refine (HLt.out _).mono ?_
  rintro e w1 ⟨rfl, rfl⟩
  go_wp2_with (fail)
  refine (HN.out _ ((h.alloc _).drewN _) ((he.alloc (by omega) _).drewN _)).mono ?_
  rintro e w2 ⟨rfl, hr2, hu2⟩
  have htk : Box w2 w.heap.size 28 #[.int .i64 0, .int .i64 0, .int .i64 0, .string ⟨#[]⟩, .int .i64 0] := Box.grown ((Box.new w _ _).drewN _) hu2 (by simp; omega)
  have hup : Upd w w2 b := (((Upd.refl w b).alloc _).drewN _).trans hu2
  go_wp2_with (refine wpList_store_box rfl 28 (.tmp 2) (.tmp 11) rfl w.heap.size (tokC t 0 0) rfl rfl 28 _ htk info_tok5 rfl (tokC_one _ _ _) ?_; intro w6 hx6 hu6 hz6)
  refine bodyPost_ret (results_box_tmp rfl _ _ w.heap.size 28 _ _ rfl hx6 Tryd.underlying28 rfl info_tok5) rfl ?_
  exact ⟨rfl, Box.grown hr2 hu6 (by simp; omega), hup.far hu6 (Nat.le_refl _)⟩

theorem next_any (b : Nat) (s : ByteArray) (k : Nat) (o : Value) (w : World) (h : Rd w b s k o) (he : Env w) (hb : 4 ≤ b) (hm : s.size ≤ 1000000) (hk : k < s.size) :
    Calls Tryd.prog 16 #[.pointer (some ⟨b, 0, none⟩)] w fun e w' => Out w b s k o (Lexy.next (s.data.toList.drop k)) e w' := by
  have hx : k < s.data.toList.length := by simpa using hk
  have hd : s.data.toList.drop k = s.data.toList[k] :: s.data.toList.drop (k + 1) := List.drop_eq_getElem_cons hx
  obtain ⟨c, hc⟩ : ∃ c, s.data.toList[k] = c := ⟨_, rfl⟩
  rw [hc] at hd
  have hc0 : ((s.data.toList.drop k)[0]?).getD 0 = c := by rw [hd]; rfl
  cases hl : Lexy.isLetter c with
  | true =>
    have := next_name b s k o w h he hb (by omega) hm c hc0 hl
    have e : Lexy.next (s.data.toList.drop k) = .ok (⟨if (s.data.toList.drop k).take (Lexy.nameLen (s.data.toList.drop k)) ∈ Lexy.kws then 5 else 1, (s.data.toList.drop k).take (Lexy.nameLen (s.data.toList.drop k)), 0⟩, Lexy.nameLen (s.data.toList.drop k)) := by
      rw [hd]; simp only [Lexy.next, hl, if_true]
    rw [e]
    exact this
  | false =>
    cases hdg : Lexy.isDigit c with
    | true =>
      refine next_number b s k o w h (by omega) hm c hc0 hl hdg _ (fun w1 _ hr => ?_)
      have := number_any b s k o w1 hr (by omega) hm
      have e : Lexy.next (s.data.toList.drop k) = (match Lexy.numF 0 ((s.data.toList.drop k).take (Lexy.digLen (s.data.toList.drop k))) with
        | none => .err 2
        | some n => if (((s.data.toList.drop k).drop (Lexy.digLen (s.data.toList.drop k))).head?.map Lexy.isLetter).getD false then .err 4 else .ok (⟨2, [], n⟩, Lexy.digLen (s.data.toList.drop k))) := by
        rw [hd]; simp only [Lexy.next, hl, hdg, if_true]; rfl
      rw [e]
      exact this
    | false =>
      by_cases hq : c = 34
      · refine next_text b s k o w h (by omega) hm c hc0 hl hdg (by subst hq; decide) _ (fun w1 _ hr => ?_)
        have := text_any b s k o w1 hr hk hm
        have e : Lexy.next (s.data.toList.drop k) = (match Lexy.txt (s.data.toList.drop (k + 1)) with
          | none => .err 4
          | some (t, m) => .ok (⟨3, t, 0⟩, 1 + m)) := by
          rw [hd]; simp only [Lexy.next, hq]; rfl
        rw [e]
        exact this
      · refine next_sign b s k o w h (by omega) hm c hc0 hl hdg (byte_ne (d := 34) hq) _ (fun w1 hbl hr => ?_)
        have := sign_any b s k o w1 hr (he.below hbl (by have := Box.lt h; omega)) hb hm hk
        have e : Lexy.next (s.data.toList.drop k) = Lexy.sign (s.data.toList.drop k) := by
          rw [hd]; simp only [Lexy.next, hl, hdg]; simp [hq]
        rw [e]
        exact this
end Go.Proofs.YtgeaphapnoiniaaDoor
