/-
  The walk of the law of places. Conditions: the library's table lies where it lies.
-/
import Derived.Test.YtgeaphapnoiniaaDoorJlL
import Derived.Test.YtgeaphapnoiniaaDoorLexP
import Derived.Deep.RegionHeld3
import Derived.Deep.MidRow
namespace Go.Proofs.YtgeaphapnoiniaaDoor
open Go.RowKit

theorem toks_ok {l : Lexy.Bs} {ts : List Lexy.Tok} (h : Lexy.toks l = .ok ts) : Lexy.Lex 0 l ts ∧ ts.length ≤ 1000 ∧ l.length ≤ 2000 := by
  unfold Lexy.toks at h
  split at h
  · cases h
  · obtain ⟨h1, h2⟩ := Lexy.lex_of _ _ _ _ h
    exact ⟨h1, h2, by omega⟩
theorem toks_err {l : Lexy.Bs} {n : Nat} (h : Lexy.toks l = .err n) : n = 2 ∨ n = 4 := by
  have all : ∀ rem p l n, Lexy.toksR rem p l = .err n → n = 2 ∨ n = 4 := by
    intro rem
    induction rem with
    | zero =>
      intro p l n h
      rw [Lexy.toksR_eq] at h
      split at h
      · cases h
      · split at h
        · rename_i hn; simp only [Lexy.Res.err.injEq] at h; subst h; exact next_err hn
        · simp at h; exact .inl h.symm
    | succ rem ih =>
      intro p l n h
      rw [Lexy.toksR_eq] at h
      split at h
      · cases h
      · split at h
        · rename_i hn; simp only [Lexy.Res.err.injEq] at h; subst h; exact next_err hn
        · simp only at h
          split at h
          · rename_i hn; simp only [Lexy.Res.err.injEq] at h; subst h; exact ih _ _ _ hn
          · cases h
  unfold Lexy.toks at h
  split at h
  · simp at h; exact .inl h.symm
  · exact all _ _ _ _ h

theorem slice_of (s : ByteArray) (i j : Nat) (h1 : i ≤ j) (h2 : j ≤ s.size) : ∀ w, (Instr.slice 9 (.string s) (some (.int .i64 (i : Int))) (some (.int .i64 (j : Int))) none).run Tryd.prog w = .ok (.string (s.extract i j)) w := by
  intro w
  have := run_slice_string (P := Tryd.prog) w 9 s .i64 .i64 (i : Int) (j : Int) Tryd.underlying9 (by omega) (by omega) (by omega)
  rwa [Int.toNat_natCast, Int.toNat_natCast] at this
theorem tokCells_at : ∀ (ts : List Lexy.Tok) (j : Nat) (x : Lexy.Tok), ts[j]? = some x → ∀ i v, (tokC x.toTk x.lo x.hi).toList[i]? = some v → (tokCells ts)[j * 5 + i]? = some v := by
  intro ts
  induction ts with
  | nil => intro j x h; simp at h
  | cons t ts ih =>
    intro j x h i v hv
    have h5 : (tokC t.toTk t.lo t.hi).toList.length = 5 := by simp [tokC]
    have e : tokCells (t :: ts) = (tokC t.toTk t.lo t.hi).toList ++ tokCells ts := by simp [tokCells]
    rw [e]
    cases j with
    | zero =>
      simp at h
      subst h
      rw [Nat.zero_mul, Nat.zero_add]
      have hi : i < 5 := by have := (List.getElem?_eq_some_iff.1 hv).1; simpa [tokC] using this
      rw [List.getElem?_append_left (by omega)]
      exact hv
    | succ j =>
      rw [List.getElem?_append_right (by omega), h5, show (j + 1) * 5 + i - 5 = j * 5 + i by omega]
      exact ih j x (by simpa using h) i v hv

set_option maxRecDepth 100000 in
set_option maxHeartbeats 2000000 in
theorem places_walk (s : ByteArray) (w : World) (he : Env w) (h4 : 4 ≤ w.heap.size) (hm : s.size ≤ 9223372036854775807) :
    Calls Tryd.prog 3 #[.string s] w fun e w' => e = .returned (.bool true) ∧ Below w.heap.size w w' := by
  obtain ⟨l, hl⟩ : ∃ l, s.data.toList = l := ⟨_, rfl⟩
  have hsz : l.length = s.size := by rw [← hl]; simp
  have HTK := tokens_any s w he h4 hm
  rw [hl] at HTK
  have HL := Lib.hid hl
  have HS := Lib.hid hsz
  clear hl hsz
  cases hr : Lexy.toks l with
  | err n =>
    rw [hr] at HTK
    have hn0 : ((n : Int) == 0) = false := by rcases toks_err hr with rfl | rfl <;> rfl
    have HT := Lib.hid HTK
    clear HTK hr
    go_enter Tryd.func3, Tryd.ntmps3
    go_wp2_with (fail)
    refine (HT.out).mono ?_
    rintro e w1 ⟨rfl, hb1⟩
    go_wp2_with (fail)
    refine (lives_true w1 (he.below hb1 h4) (by have := hb1.size; omega)).mono ?_
    rintro e w2 ⟨rfl, hb2⟩
    go_wp2_with (fail)
    refine (lives_true w2 ((he.below hb1 h4).below hb2 (by have := hb1.size; omega)) (by have := hb1.size; have := hb2.size; omega)).mono ?_
    rintro e w3 ⟨rfl, hb3⟩
    go_wp2
    go_ret
    exact ⟨rfl, (hb1.trans (hb2.mono hb1.size)).trans (hb3.mono (Nat.le_trans hb1.size hb2.size))⟩
  | ok ts =>
    rw [hr] at HTK
    obtain ⟨hlex, hts, hl2⟩ := toks_ok hr
    have HT := Lib.hid HTK
    have HLX := Lib.hid hlex
    clear HTK hr hlex
    go_enter Tryd.func3, Tryd.ntmps3
    go_wp2_with (fail)
    refine (HT.out).mono ?_
    rintro e w1 ⟨A, cap, rfl, hown, hb1⟩
    go_wp2_with (fail)
    refine (lives_true w1 (he.below hb1 h4) (by have := hb1.size; omega)).mono ?_
    rintro e w2 ⟨rfl, hb2⟩
    go_wp2_with (fail)
    have hown2 := own_below hown hb2
    have he2 : Env w2 := (he.below hb1 h4).below hb2 (by have := hb1.size; omega)
    have hb12 : Below w.heap.size w w2 := hb1.trans (hb2.mono hb1.size)
    go_loopg [5, 31] ts.length (fun g a i wr => ∃ (j p : Nat), g = ts.length - j ∧ j ≤ ts.length ∧ p ≤ s.size ∧ i = .int .i64 (j : Int) ∧ a = .int .i64 (p : Int) ∧ Below w2.heap.size w2 wr ∧ Hid (Lexy.Lex p (l.drop p) (ts.drop j)))
    case atStart => exact ⟨0, 0, by simp, by omega, by omega, rfl, rfl, Below.refl _ _, by simpa using HLX⟩
    case round =>
      obtain ⟨j, p, hg, hj, hp, rfl, rfl, hbr, H⟩ := hrel
      have HG := Lib.hid hg
      clear hg
      by_cases hjt : j < ts.length
      · obtain ⟨x, hx⟩ : ∃ x, ts[j]? = some x := ⟨_, List.getElem?_eq_getElem hjt⟩
        have hd : ts.drop j = x :: ts.drop (j + 1) := by
          obtain ⟨h1, h2⟩ := List.getElem?_eq_some_iff.1 hx
          rw [List.drop_eq_getElem_cons h1, h2]
        have hst := H.out
        rw [hd] at hst
        have hdl : (l.drop p).length = s.size - p := by rw [List.length_drop, HS.out]
        obtain ⟨b1, b2, b3, hgap, hown', hnext⟩ := Lexy.lex_step hst (by rw [hdl]; have := HS.out; omega)
        rw [hdl] at b3
        obtain ⟨g, rfl, hg1, hg2, hc⟩ := own_cells hown2 (by omega)
        have hrange : Hid (wr.rangeAt g (j * 5) (tokC x.toTk x.lo x.hi).toList) := by
          intro i v hv
          have hi : (tokCells ts)[j * 5 + i]? = some v := tokCells_at ts j x hx i v hv
          rw [hbr.cell (p := ⟨g, j * 5 + i, none⟩) hg2]
          exact hc _ _ hi
        have hl1 : decide ((j : Int) < (ts.length : Int)) = true := by simp; omega
        have t1 : decide ((x.lo : Int) < (p : Int)) = false := by simp; omega
        have t2 : decide ((x.hi : Int) ≤ (x.lo : Int)) = false := by simp; omega
        have t3 : decide ((s.size : Int) < (x.hi : Int)) = false := by simp; omega
        have hs1 := slice_of s p x.lo b1 (by omega)
        have hs2 := slice_of s x.lo x.hi (by omega) (by omega)
        obtain ⟨G, hG⟩ : ∃ G, s.extract p x.lo = G := ⟨_, rfl⟩
        obtain ⟨O, hO⟩ : ∃ O, s.extract x.lo x.hi = O := ⟨_, rfl⟩
        rw [hG] at hs1
        rw [hO] at hs2
        have hGl : G.data.toList = (l.drop p).take (x.lo - p) := by rw [← hG, ← HL.out]; simp
        have hOl : O.data.toList = ((l.drop p).drop (x.lo - p)).take (x.hi - x.lo) := by
          rw [← hO, ← HL.out, List.drop_drop, show p + (x.lo - p) = x.lo by omega]; simp
        have HGT : Hid (∀ w, Env w → 4 ≤ w.heap.size → Calls Tryd.prog 7 #[.string G] w fun e w' => TokOut w (.ok []) e w') := by
          intro w he h4
          have := tokens_any G w he h4 (by rw [← hG]; simp; omega)
          rw [hGl, hgap] at this
          exact this
        have HOT : Hid (∀ w, Env w → 4 ≤ w.heap.size → Calls Tryd.prog 7 #[.string O] w fun e w' => TokOut w (.ok [⟨x.toTk, 0, x.hi - x.lo⟩]) e w') := by
          intro w he h4
          have := tokens_any O w he h4 (by rw [← hO]; simp; omega)
          rw [hOl, hown'] at this
          exact this
        have HNX : Hid (Lexy.Lex x.hi (l.drop x.hi) (ts.drop (j + 1))) := by
          rw [List.drop_drop, show p + (x.hi - p) = x.hi by omega] at hnext; exact hnext
        have hz1 := hb12.size
        have hz2 := hbr.size
        clear hx hd hst hdl hgap hown' hnext hc hG hO hGl hOl
        go_wp2_with (first | (refine wpList_load_mid rfl 28 (.tmp 33) rfl g (j * 5) rfl (tokC x.toTk x.lo x.hi).toList _ hrange.out Tryd.underlying28 rfl info_tok5 ?_) | (refine wpList_store_box rfl 28 (.tmp 7) (.tmp 34) rfl wr.heap.size (tokC x.toTk x.lo x.hi) rfl rfl 28 _ (Box.new wr _ _) info_tok5 rfl (tokC_one _ _ _) ?_; intro w4 hx4 hu4 hz4; have q0 := hx4.cell 0; have q1 := hx4.cell 1; have q2 := hx4.cell 2; have q3 := hx4.cell 3; have q4 := hx4.cell 4; simp [tokC] at q0 q1 q2 q3 q4))
        have hb4 : Below wr.heap.size wr w4 := ((Below.refl _ wr).alloc (Nat.le_refl _) _).trans (hu4.own (Nat.le_refl _) (by simp))
        have her : Env wr := he2.below hbr (by omega)
        have hz4' : w4.heap.size = wr.heap.size + 1 := by rw [hz4]; simp
        have hz5 : wr.heap.size < w4.heap.size := by omega
        have HZ4 := Lib.hid hz4'
        clear hz4' hz4
        refine (HGT.out w4 (her.below hb4 (by omega)) (by omega)).mono ?_
        rintro e w5 ⟨A5, cap5, rfl, hown5, hb5⟩
        have hx5 := hx4.below hb5 hz5
        clear q0 q1 q2 q3 q4
        have q1 := hx5.cell 1; have q2 := hx5.cell 2
        simp [tokC] at q1 q2
        have he5 : Env w5 := (her.below hb4 (by omega)).below hb5 (by omega)
        have hz6 := hb5.size
        go_wp2_with (fail)
        refine (HOT.out w5 he5 (by omega)).mono ?_
        rintro e w6 ⟨A6, cap6, rfl, hown6, hb6⟩
        have hx6 := hx5.below hb6 (by omega)
        obtain ⟨g6, rfl, hg6a, hg6b, hc6⟩ := own_cells hown6 (by simp)
        have hbx6 : Below wr.heap.size wr w6 := (hb4.trans (hb5.mono (by omega))).trans (hb6.mono (by omega))
        have hz7 := hb6.size
        clear q1 q2
        have r0 : w6.cell? ⟨g6, 0, none⟩ = some (.int .i64 (x.kind : Int)) := hc6 0 _ rfl
        have r3 : w6.cell? ⟨g6, 3, none⟩ = some (.string (bytes x.text)) := hc6 3 _ rfl
        have r4 : w6.cell? ⟨g6, 4, none⟩ = some (.int .i64 (x.num : Int)) := hc6 4 _ rfl
        have q0 := hx6.cell 0; have q2 := hx6.cell 2; have q3 := hx6.cell 3; have q4 := hx6.cell 4
        simp [tokC] at q0 q2 q3 q4
        have hgl6 : g6 < w6.heap.size := hg6b
        have hwl6 : wr.heap.size < w6.heap.size := by omega
        have HO2 : Hid (∀ (g : Nat) (w : World), w.cell? ⟨g, 0, none⟩ = some (.int .i64 0) → w.cell? ⟨g, 1, none⟩ = some (.int .i64 0) → Calls Tryd.prog 9 #[.slice (some ⟨g, 0, none⟩) 2 2] w fun e w' => e = .returned (.bool true) ∧ w = w') :=
          fun g w h0 h1 => ok_two' g 0 0 w h0 h1 2
        clear hc6 hs1 hs2 t1 t2 t3 hown5 hown6
        go_wp2_with (fail)
        go_region_held3 (fun w' => w'.cell? ⟨g6, 0, none⟩ = some (.int .i64 (x.kind : Int)) ∧ w'.cell? ⟨g6, 3, none⟩ = some (.string (bytes x.text)) ∧ w'.cell? ⟨g6, 4, none⟩ = some (.int .i64 (x.num : Int)) ∧ w'.cell? ⟨wr.heap.size, 0, none⟩ = some (.int .i64 (x.kind : Int)) ∧ w'.cell? ⟨wr.heap.size, 3, none⟩ = some (.string (bytes x.text)) ∧ w'.cell? ⟨wr.heap.size, 4, none⟩ = some (.int .i64 (x.num : Int))) (first | exact ⟨r0, r3, r4, q0, q3, q4⟩ | (simp [go_sem, World.cell?_alloc_past, *])) (first | (go_at_call 9; refine (HO2.out _ _ ?_ ?_).mono ?_; (go_simp); (go_simp); rintro e w' ⟨rfl, rfl⟩))
        have hbz : Below w2.heap.size w2 w6 := hbr.trans (hbx6.mono (by omega))
        have hz8 : w2.heap.size ≤ w6.heap.size := hbz.size
        clear r0 r3 r4 q0 q3 q4
        go_wp2
        go_roundg (ts.length - (j + 1))
        case measure => rw [HG.out]; omega
        case rel =>
          refine ⟨j + 1, x.hi, rfl, by omega, by omega, by go_num, rfl, ?_, HNX⟩
          exact (hbz.alloc hz8 _).drew
      · have hl1 : decide ((j : Int) < (ts.length : Int)) = false := by simp; omega
        go_wp2
        go_ret
        exact ⟨rfl, hb12.trans (hbr.mono hb12.size)⟩
end Go.Proofs.YtgeaphapnoiniaaDoor
