/-
  A number is read. Conditions: as in the texts before.
-/
import Derived.Test.YtgeaphapnoiniaaDoorJlG
import Derived.Laws.IdiomStrings
namespace Go.Proofs.YtgeaphapnoiniaaDoor
open Go.RowKit

/-- a string's bytes, laid as a slice. -/
theorem wpList_to_bytes {P : Program} {ops : Array Oper} {rest : List Oper} {o : Oper} {a : Act} {w : World} {Q : Exit → Act → World → Prop} (hgd : o.guard = none) (src dst e : TypeId) (x : Operand) (ho : o.op = .convert src dst x)
    (hs : P.underlying src = some .string) (hd : P.underlying dst = some (.slice e)) (he : P.underlying e = some (.int .u8)) (s : ByteArray) (hx : a.eval x = .string s)
    (h : ∀ (w' : World) (cap : Nat), (∀ (j : Nat) (c : UInt8), s.data.toList[j]? = some c → w'.cell? ⟨w.heap.size, j, none⟩ = some (.int .u8 (c.toNat : Int))) → Below w.heap.size w w' → w.heap.size < w'.heap.size →
      wpList P ops Q rest (a.put o.dst (.slice (some ⟨w.heap.size, 0, none⟩) s.size cap)) w') : wpList P ops Q (o :: rest) a w :=
  wpList_plain hgd fun _ hK => by
    unfold Oper.wp execOp
    simp only [ho, hx, Sem.run_bind, run_bytes_of_string w src dst e s hs hd he, Result.andThen_ok, Sem.run_pure]
    refine hK _ _ (h _ _ ?_ ((Below.refl _ w).drew.alloc (Nat.le_refl _) _) (by simp))
    intro j c hc
    have := World.cell?_alloc_mark w.drew (bytesRow s (grownCap w s.size 0 e)) e ((bytesRow s (grownCap w s.size 0 e)).size, (bytesRow s (grownCap w s.size 0 e)).size + 1) j
    refine Eq.trans this ?_
    obtain ⟨h1, h2⟩ := List.getElem?_eq_some_iff.1 hc
    have h3 : j < s.data.size := by simpa using h1
    unfold bytesRow
    rw [Array.getElem?_append_left (by simpa using h3)]
    simp
    exact ⟨c, by simpa using hc, rfl⟩

theorem numF_none_mono : ∀ (l : Lexy.Bs) (n : Nat), 9007199254740992 < n → l ≠ [] → Lexy.numF n l = none := by
  intro l n h hl
  cases l with
  | nil => exact absurd rfl hl
  | cons c r => simp only [Lexy.numF]; rw [if_pos (by omega)]

theorem all_dig (l : Lexy.Bs) (m : Nat) (hm : Lexy.digLen l = m) : ∀ (j : Nat) (c : UInt8), (l.take m)[j]? = some c → 48 ≤ c.toNat ∧ c.toNat ≤ 57 := by
  intro j c hc
  have h1 := Lexy.take_tw Lexy.isDigit l
  have : m = (l.takeWhile Lexy.isDigit).length := hm.symm
  rw [this, h1] at hc
  have := Lexy.all_tw Lexy.isDigit l c (List.mem_of_getElem? hc)
  simpa [Lexy.isDigit] using this

theorem head_letter (l : Lexy.Bs) : (l.head?.map Lexy.isLetter).getD false = Lexy.isLetter ((l[0]?).getD 0) := by
  cases l with
  | nil => decide
  | cons c r => simp

set_option maxRecDepth 100000 in
set_option maxHeartbeats 1000000 in
theorem number_any (b : Nat) (s : ByteArray) (k : Nat) (o : Value) (w : World) (h : Rd w b s k o) (hk : k ≤ s.size) (hm : s.size ≤ 1000000) :
    Calls Tryd.prog 25 #[.pointer (some ⟨b, 0, none⟩)] w fun e w' =>
      Out w b s k o (match Lexy.numF 0 ((s.data.toList.drop k).take (Lexy.digLen (s.data.toList.drop k))) with
        | none => .err 2
        | some n => if (((s.data.toList.drop k).drop (Lexy.digLen (s.data.toList.drop k))).head?.map Lexy.isLetter).getD false then .err 4 else .ok (⟨2, [], n⟩, Lexy.digLen (s.data.toList.drop k))) e w' := by
  have hlt := Box.lt h
  have hrun := Lib.hid (fun w (h : Rd w b s k o) => run_digit b s k o w h hk hm)
  obtain ⟨m, hm'⟩ : ∃ m, Lexy.digLen (s.data.toList.drop k) = m := ⟨_, rfl⟩
  have hmm : ((s.data.toList.drop k).takeWhile Lexy.isDigit).length = m := hm'
  have hdig := all_dig _ _ hm'
  have hml : k + m ≤ s.size := by
    have := tw_len Lexy.isDigit (s.data.toList.drop k); rw [hmm, List.length_drop] at this; simp at this; omega
  rw [hmm] at hrun
  rw [hm']
  obtain ⟨x, hx⟩ : ∃ x, s.extract k (k + m) = x := ⟨_, rfl⟩
  have hxl : (s.data.toList.drop k).take m = x.data.toList := by rw [← hx]; simp
  have hxs : x.size = m := by rw [← hx]; simp; omega
  rw [hx] at hrun
  rw [hxl] at hdig ⊢
  have hd2 : (s.data.toList.drop k).drop m = s.data.toList.drop (k + m) := by rw [List.drop_drop]
  rw [hd2]
  obtain ⟨D, hD⟩ : ∃ D, x.data.toList = D := ⟨_, rfl⟩
  have hDl : D.length = m := by rw [← hD, ← hxs]; simp
  rw [hD] at hdig ⊢
  obtain ⟨F, hF⟩ : ∃ F : Lexy.Res (Lexy.Tk × Nat), (match Lexy.numF 0 D with
        | none => Lexy.Res.err 2
        | some n => if ((s.data.toList.drop (k + m)).head?.map Lexy.isLetter).getD false then .err 4 else .ok (⟨2, [], n⟩, m)) = F := ⟨_, rfl⟩
  rw [hF]
  have HF := Lib.hid hF
  have hxm : x.size ≤ 1000000 := by omega
  have HXS := Lib.hid hxs
  have HDL := Lib.hid hDl
  have HDD := Lib.hid hD
  have HDG := Lib.hid hdig
  clear hF hxs hDl hD hdig hd2 hx hxl hmm hm'
  go_enter Tryd.func25, Tryd.ntmps25
  go_wp2_with (fail)
  refine (hrun.out _ (h.alloc _)).mono ?_
  rintro e w1 ⟨rfl, hr1, hu1⟩
  have hsz := h1size hu1
  have hx1 : Box w1 w.heap.size 28 #[.int .i64 0, .int .i64 0, .int .i64 0, .string ⟨#[]⟩, .int .i64 0] := Box.grown (Box.new w _ _) hu1 (by simp; omega)
  have hup1 : Upd w w1 b := ((Upd.refl w b).alloc _).trans hu1
  go_wp2_with (refine wpList_to_bytes rfl 9 33 5 (.tmp 8) rfl Tryd.underlying9 Tryd.underlying33 Tryd.underlying5 x rfl ?_; intro w2 cap hc2 hbl2 hsz2)
  have hr2 : Rd w2 b s (k + m) o := Rd.below hr1 hbl2 (by omega)
  have hx2 : Box w2 w.heap.size 28 #[.int .i64 0, .int .i64 0, .int .i64 0, .string ⟨#[]⟩, .int .i64 0] := Box.below hx1 hbl2 (by omega)
  have hup2 : Upd w w2 b := hup1.step hbl2
  have HC2 := Lib.hid hc2
  clear hc2
  go_loop [4, 11] (fun v i => ∃ (j n : Nat), j ≤ x.size ∧ n ≤ 9007199254740992 ∧ i = .int .i64 (j : Int) ∧ v = .int .i64 (n : Int) ∧ Hid (Lexy.numF n (D.drop j) = Lexy.numF 0 D)) (fun _ i => x.size - (intOf i).toNat)
  case atStart => exact ⟨0, 0, Nat.zero_le _, by omega, rfl, rfl, Lib.hid (by simp)⟩
  case round =>
    obtain ⟨j, n, hj, hn, rfl, rfl, H⟩ := hrel
    by_cases hjx : j < x.size
    · obtain ⟨c, hc⟩ : ∃ c, D[j]? = some c := ⟨_, List.getElem?_eq_getElem (by rw [HDL.out, ← HXS.out]; exact hjx)⟩
      obtain ⟨c0, c9⟩ := HDG.out j c hc
      have hcell : w2.cell? ⟨w1.heap.size, j, none⟩ = some (.int .u8 (c.toNat : Int)) := HC2.out j c (by rw [HDD.out]; exact hc)
      have hl1 : decide ((j : Int) < (x.size : Int)) = true := by simp; omega
      have hd : D.drop j = c :: D.drop (j + 1) := by
        obtain ⟨h1, h2⟩ := List.getElem?_eq_some_iff.1 hc
        rw [List.drop_eq_getElem_cons h1, h2]
      have hstep := H.out
      rw [hd] at hstep
      simp only [Lexy.numF] at hstep
      have d0 : (48 : Int) ≤ (c.toNat : Int) := by omega
      have d9 : (c.toNat : Int) ≤ 57 := by omega
      clear hd hc c0 c9
      by_cases hov : 9007199254740992 < 10 * n + (c.toNat - 48)
      · rw [if_pos hov] at hstep
        have hFe : Hid (F = .err 2) := by rw [← HF.out, ← hstep]; exact Lib.hid rfl
        have ht : decide ((9007199254740992 : Int) < 10 * (n : Int) + ((c.toNat : Int) - 48)) = true := by simp; omega
        clear hstep
        go_wp2_with (refine wpList_store_box rfl 28 (.tmp 2) (.tmp 23) rfl w.heap.size #[.int .i64 0, .int .i64 0, .int .i64 0, .string ⟨#[]⟩, .int .i64 0] rfl rfl 28 _ hx2 info_tok5 rfl (tok_one _ _ _ _ _) ?_; intro w6 hx6 hu6 hz6)
        refine bodyPost_ret (results_box_tmp rfl _ _ w.heap.size 28 _ _ rfl hx6 Tryd.underlying28 rfl info_tok5) rfl ?_
        rw [hFe.out]
        exact ⟨rfl, hup2.far hu6 (Nat.le_refl _)⟩
      · rw [if_neg hov] at hstep
        have HST := Lib.hid hstep
        have ht : decide ((9007199254740992 : Int) < 10 * (n : Int) + ((c.toNat : Int) - 48)) = false := by simp; omega
        clear hstep
        go_wp2
        go_round
        case rel =>
          have e : (10 * (n : Int) + ((c.toNat : Int) - 48)) = ((10 * n + (c.toNat - 48) : Nat) : Int) := by omega
          rw [e]
          exact ⟨j + 1, 10 * n + (c.toNat - 48), by omega, by omega, by go_num, rfl, HST⟩
        case measure => simp [intOf]; omega
    · have hl1 : decide ((j : Int) < (x.size : Int)) = false := by simp; omega
      have hstep := H.out
      rw [List.drop_eq_nil_of_le (by rw [HDL.out, ← HXS.out]; omega)] at hstep
      simp only [Lexy.numF] at hstep
      have hFF := HF.out
      rw [← hstep] at hFF
      simp only [head_letter] at hFF
      have P0 := Lib.hid (fun w (h : Rd w b s (k + m) o) => peek_any b s (k + m) 0 o w h hml hm (by omega))
      obtain ⟨d, hd⟩ : ∃ d, ((s.data.toList.drop (k + m))[0]?).getD 0 = d := ⟨_, rfl⟩
      rw [hd] at P0 hFF
      have HLt := Lib.hid (fun w => letter_any d w)
      cases hld : Lexy.isLetter d with
      | true =>
        rw [hld] at HLt hFF
        have HFF := Lib.hid hFF
        clear hFF hstep hld hd
        go_wp2_with (fail)
        refine (P0.out _ hr2).mono ?_
        rintro e w3 ⟨rfl, n3, rfl⟩
        go_wp2_with (fail)
        refine (HLt.out _).mono ?_
        rintro e w3 ⟨rfl, rfl⟩
        go_wp2_with (refine wpList_store_box rfl 28 (.tmp 2) (.tmp 28) rfl w.heap.size #[.int .i64 0, .int .i64 0, .int .i64 0, .string ⟨#[]⟩, .int .i64 0] rfl rfl 28 _ (hx2.drewN _) info_tok5 rfl (tok_one _ _ _ _ _) ?_; intro w6 hx6 hu6 hz6)
        refine bodyPost_ret (results_box_tmp rfl _ _ w.heap.size 28 _ _ rfl hx6 Tryd.underlying28 rfl info_tok5) rfl ?_
        rw [← HFF.out]
        exact ⟨rfl, (hup2.drewN _).far hu6 (Nat.le_refl _)⟩
      | false =>
        rw [hld] at HLt hFF
        have HFF := Lib.hid hFF
        clear hFF hstep hld hd
        go_wp2_with (fail)
        refine (P0.out _ hr2).mono ?_
        rintro e w3 ⟨rfl, n3, rfl⟩
        go_wp2_with (fail)
        refine (HLt.out _).mono ?_
        rintro e w3 ⟨rfl, rfl⟩
        go_wp2_with (refine wpList_store_box rfl 28 (.tmp 2) (.tmp 30) rfl w.heap.size #[.int .i64 _, .int .i64 0, .int .i64 0, .string ⟨#[]⟩, .int .i64 _] rfl rfl 28 _ (hx2.drewN _) info_tok5 rfl (tok_one _ _ _ _ _) ?_; intro w6 hx6 hu6 hz6)
        refine bodyPost_ret (results_box_tmp rfl _ _ w.heap.size 28 _ _ rfl hx6 Tryd.underlying28 rfl info_tok5) rfl ?_
        rw [← HFF.out]
        exact ⟨rfl, Box.grown (hr2.drewN _) hu6 (by simp; omega), (hup2.drewN _).far hu6 (Nat.le_refl _)⟩
end Go.Proofs.YtgeaphapnoiniaaDoor
