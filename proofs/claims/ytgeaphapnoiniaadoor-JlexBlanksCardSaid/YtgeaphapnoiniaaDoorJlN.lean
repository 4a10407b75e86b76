/-
  The walk of the law of two texts. Conditions: the library's table lies where it lies; the texts' lengths together fit an int.
-/
import Derived.Test.YtgeaphapnoiniaaDoorJlM
import Derived.Test.YtgeaphapnoiniaaDoorLexW
namespace Go.Proofs.YtgeaphapnoiniaaDoor
open Go.RowKit

theorem cat_size (s t : ByteArray) (hm : s.size ≤ 140737488355328) (hn : t.size ≤ 140737488355328) : (s ++ (⟨#[10]⟩ : ByteArray) ++ t).size ≤ 9223372036854775807 := by
  have h1 : (⟨#[10]⟩ : ByteArray).size = 1 := rfl
  rw [ByteArray.size_append, ByteArray.size_append, h1]; omega
theorem cat_list (s t : ByteArray) : (s ++ (⟨#[10]⟩ : ByteArray) ++ t).data.toList = s.data.toList ++ 10 :: t.data.toList := by simp
theorem lex_bound {p : Nat} {l : Lexy.Bs} {ts : List Lexy.Tok} (h : Lexy.Lex p l ts) : ∀ x ∈ ts, x.lo ≤ p + l.length := by
  induction h with
  | done p l hd => intro x hx; cases hx
  | more p l t n ts hne hn _ ih =>
    intro x hx
    have h1 := Lexy.skp_le false l
    have h2 := Lexy.next_len hn
    rw [List.length_drop] at h2
    rcases List.mem_cons.1 hx with rfl | hx
    · simp; omega
    · have := ih x hx
      rw [List.length_drop, List.length_drop] at this
      omega
theorem range_keep {w w' : World} {g o : Nat} {cs : List Value} (h : w.rangeAt g o cs) (hb : Below w.heap.size w w') (hg : g < w.heap.size) : w'.rangeAt g o cs := by
  intro i v hv
  rw [hb.cell (p := ⟨g, o + i, none⟩) hg]
  exact h i v hv
def isOk : Lexy.Res (List Lexy.Tok) → Bool
  | .err _ => false
  | .ok _ => true
/-- Tokens, told roughly. -/
def TokSome (w : World) (p : Bool) (e : Ending) (w' : World) : Prop := ∃ (A : Option Addr) (n cap : Nat) (g : Int), e = .returned (.tuple #[.slice A n cap, .int .i64 g]) ∧ Below w.heap.size w w' ∧ (g == 0) = p
theorem tokSome {w : World} {l : Lexy.Bs} {e : Ending} {w' : World} (h : TokOut w (Lexy.toks l) e w') : TokSome w (isOk (Lexy.toks l)) e w' := by
  cases hr : Lexy.toks l with
  | err n =>
    rw [hr] at h
    exact ⟨_, _, _, _, h.1, h.2, by rcases toks_err hr with rfl | rfl <;> rfl⟩
  | ok ts =>
    rw [hr] at h
    obtain ⟨A, cap, he, _, hb⟩ := h
    exact ⟨_, _, _, _, he, hb, rfl⟩
theorem ok_is (a b : Int) (p : Bool) (h : (a == 0 && b == 0) = p) (g : Nat) (w : World) (ha : w.cell? ⟨g, 0, none⟩ = some (.int .i64 a)) (hb : w.cell? ⟨g, 1, none⟩ = some (.int .i64 b)) :
    Calls Tryd.prog 9 #[.slice (some ⟨g, 0, none⟩) 2 2] w fun e w' => e = .returned (.bool p) ∧ w = w' := by
  rw [← h]; exact ok_two' g a b w ha hb 2

set_option maxRecDepth 100000 in
set_option maxHeartbeats 1000000 in
/-- one of the two can't be read. -/
theorem two_no (s t : ByteArray) (w : World) (he : Env w) (h4 : 4 ≤ w.heap.size) (hm : s.size ≤ 140737488355328) (hn : t.size ≤ 140737488355328) (h : (isOk (Lexy.toks s.data.toList) && isOk (Lexy.toks t.data.toList)) = false) :
    Calls Tryd.prog 4 #[.string s, .string t] w fun e w' => e = .returned (.bool true) ∧ Below w.heap.size w w' := by
  have HT3 : Hid (∀ (u : ByteArray) (w1 : World), u.size ≤ 9223372036854775807 → Env w1 → 4 ≤ w1.heap.size → Calls Tryd.prog 7 #[.string u] w1 fun e w' => TokSome w1 (isOk (Lexy.toks u.data.toList)) e w') :=
    fun u w1 hu he h4 => (tokens_any u w1 he h4 hu).mono fun _ _ => tokSome
  obtain ⟨p, hp⟩ : ∃ p, isOk (Lexy.toks s.data.toList) = p := ⟨_, rfl⟩
  obtain ⟨q, hq⟩ : ∃ q, isOk (Lexy.toks t.data.toList) = q := ⟨_, rfl⟩
  rw [hp, hq] at h
  have HT1 := HT3.out s
  have HT2 := HT3.out t
  rw [hp] at HT1
  rw [hq] at HT2
  have H1 := Lib.hid HT1
  have H2 := Lib.hid HT2
  have HPQ := Lib.hid h
  clear HT1 HT2 h hp hq
  go_enter Tryd.func4, Tryd.ntmps4
  go_wp2_with (fail)
  refine (H1.out w (by omega) he h4).mono ?_
  rintro e w1 ⟨A1, n1, c1, g1, rfl, hb1, hg1⟩
  have HG1 := Lib.hid hg1; clear hg1
  have he1 := he.below hb1 h4
  have hz1 := hb1.size
  go_wp2_with (fail)
  refine (H2.out w1 (by omega) he1 (by omega)).mono ?_
  rintro e w2 ⟨A2, n2, c2, g2, rfl, hb2, hg2⟩
  have HG2 := Lib.hid hg2; clear hg2
  have he2 := he1.below hb2 (by omega)
  have hz2 := hb2.size
  have HOK := Lib.hid (fun g w => ok_is g1 g2 false (by rw [HG1.out, HG2.out]; exact HPQ.out) g w)
  go_wp2_with (fail)
  refine (HT3.out _ w2 (cat_size s t hm hn) he2 (by omega)).mono ?_
  rintro e w3 ⟨A3, n3, c3, g3, rfl, hb3, hg3⟩
  clear hg3
  have he3 := he2.below hb3 (by omega)
  have hz3 := hb3.size
  go_wp2_with (fail)
  refine (lives_true w3 he3 (by omega)).mono ?_
  rintro e w4 ⟨rfl, hb4⟩
  have he4 := he3.below hb4 (by omega)
  have hz4 := hb4.size
  go_wp2_with (fail)
  refine (HOK.out _ _ ?_ ?_).mono ?_
  · go_simp
  · go_simp
  rintro e w5 ⟨rfl, rfl⟩
  go_wp2_with (fail)
  refine (lives_true _ (he4.alloc (by omega) _) (by simp; omega)).mono ?_
  rintro e w6 ⟨rfl, hb6⟩
  go_wp2
  go_ret
  exact ⟨rfl, ((((hb1.trans (hb2.mono (by omega))).trans (hb3.mono (by omega))).trans (hb4.mono (by omega))).alloc (by omega) _).trans (hb6.mono (by simp; omega))⟩

set_option maxRecDepth 100000 in
set_option maxHeartbeats 1000000 in
/-- both can be read, but both together are too large. -/
theorem two_large (s t : ByteArray) (a b : List Lexy.Tok) (w : World) (he : Env w) (h4 : 4 ≤ w.heap.size) (hm : s.size ≤ 140737488355328) (hn : t.size ≤ 140737488355328) (ha : Lexy.toks s.data.toList = .ok a) (hb : Lexy.toks t.data.toList = .ok b)
    (hc : Lexy.toks (s.data.toList ++ 10 :: t.data.toList) = .err 2) :
    Calls Tryd.prog 4 #[.string s, .string t] w fun e w' => e = .returned (.bool true) ∧ Below w.heap.size w w' := by
  have T1 := tokens_any s w he h4 (by omega)
  rw [ha] at T1
  have H1 := Lib.hid T1
  have H2 : Hid (∀ w1, Env w1 → 4 ≤ w1.heap.size → Calls Tryd.prog 7 #[.string t] w1 fun e w' => TokOut w1 (.ok b) e w') := by
    intro w1 he1 h41
    have := tokens_any t w1 he1 h41 (by omega)
    rwa [hb] at this
  have H3 : Hid (∀ w1, Env w1 → 4 ≤ w1.heap.size → Calls Tryd.prog 7 #[.string (s ++ (⟨#[10]⟩ : ByteArray) ++ t)] w1 fun e w' => TokOut w1 (.err 2) e w') := by
    intro w1 he1 h41
    have := tokens_any (s ++ (⟨#[10]⟩ : ByteArray) ++ t) w1 he1 h41 (cat_size s t hm hn)
    rwa [cat_list, hc] at this
  have HOK := Lib.hid (fun g w => ok_is 0 0 true rfl g w)
  clear T1 ha hb hc
  go_enter Tryd.func4, Tryd.ntmps4
  go_wp2_with (fail)
  refine (H1.out).mono ?_
  rintro e w1 ⟨A1, c1, rfl, _, hb1⟩
  have he1 := he.below hb1 h4
  have hz1 := hb1.size
  go_wp2_with (fail)
  refine (H2.out w1 he1 (by omega)).mono ?_
  rintro e w2 ⟨A2, c2, rfl, _, hb2⟩
  have he2 := he1.below hb2 (by omega)
  have hz2 := hb2.size
  go_wp2_with (fail)
  refine (H3.out w2 he2 (by omega)).mono ?_
  rintro e w3 ⟨rfl, hb3⟩
  have he3 := he2.below hb3 (by omega)
  have hz3 := hb3.size
  go_wp2_with (fail)
  refine (lives_true w3 he3 (by omega)).mono ?_
  rintro e w4 ⟨rfl, hb4⟩
  have he4 := he3.below hb4 (by omega)
  have hz4 := hb4.size
  go_wp2_with (fail)
  refine (HOK.out _ _ ?_ ?_).mono ?_
  · go_simp
  · go_simp
  rintro e w5 ⟨rfl, rfl⟩
  go_wp2_with (fail)
  refine (lives_true _ (he4.alloc (by omega) _) (by simp; omega)).mono ?_
  rintro e w6 ⟨rfl, hb6⟩
  go_wp2
  go_ret
  exact ⟨rfl, ((((hb1.trans (hb2.mono (by omega))).trans (hb3.mono (by omega))).trans (hb4.mono (by omega))).alloc (by omega) _).trans (hb6.mono (by simp; omega))⟩

set_option maxRecDepth 100000 in
set_option maxHeartbeats 2000000 in
/-- both can be read, and both together. -/
theorem two_yes (s t : ByteArray) (a b : List Lexy.Tok) (w : World) (he : Env w) (h4 : 4 ≤ w.heap.size) (hm : s.size ≤ 140737488355328) (hn : t.size ≤ 140737488355328) (ha : Lexy.toks s.data.toList = .ok a) (hb : Lexy.toks t.data.toList = .ok b)
    (hc : Lexy.toks (s.data.toList ++ 10 :: t.data.toList) = .ok (a ++ b.map (Lexy.shift (s.data.toList.length + 1)))) :
    Calls Tryd.prog 4 #[.string s, .string t] w fun e w' => e = .returned (.bool true) ∧ Below w.heap.size w w' := by
  have hla := (toks_ok ha).2.1
  have hlb := (toks_ok hb).2.1
  have hcl : (a ++ b.map (Lexy.shift (s.data.toList.length + 1))).length = a.length + b.length := by simp
  have T1 := tokens_any s w he h4 (by omega)
  rw [ha] at T1
  have H1 := Lib.hid T1
  have H2 : Hid (∀ w1, Env w1 → 4 ≤ w1.heap.size → Calls Tryd.prog 7 #[.string t] w1 fun e w' => TokOut w1 (.ok b) e w') := by
    intro w1 he1 h41
    have := tokens_any t w1 he1 h41 (by omega)
    rwa [hb] at this
  obtain ⟨C, hC⟩ : ∃ C, a ++ b.map (Lexy.shift (s.data.toList.length + 1)) = C := ⟨_, rfl⟩
  rw [hC] at hc hcl
  have H3 : Hid (∀ w1, Env w1 → 4 ≤ w1.heap.size → Calls Tryd.prog 7 #[.string (s ++ (⟨#[10]⟩ : ByteArray) ++ t)] w1 fun e w' => TokOut w1 (.ok C) e w') := by
    intro w1 he1 h41
    have := tokens_any (s ++ (⟨#[10]⟩ : ByteArray) ++ t) w1 he1 h41 (cat_size s t hm hn)
    rwa [cat_list, hc] at this
  have HOK := Lib.hid (fun g w => ok_is 0 0 true rfl g w)
  have HCC := Lib.hid hC
  have hlen : ((C.length : Int) != ((a.length : Int) + (b.length : Int))) = false := by rw [hcl]; simp
  have HCL := Lib.hid hcl
  have hs2 : s.size ≤ 2000 := by have := (toks_ok ha).2.2; simpa using this
  have HXL : Hid (∀ (j : Nat) (x : Lexy.Tok), b[j]? = some x → x.lo ≤ 2000) := by
    intro j x hx
    obtain ⟨h1, _, h3⟩ := toks_ok hb
    have := lex_bound h1 x (List.mem_of_getElem? hx)
    omega
  have HY : Hid (∀ (j : Nat) (x : Lexy.Tok), b[j]? = some x → ∃ ylo yhi : Nat, C[a.length + j]? = some ⟨x.toTk, ylo, yhi⟩ ∧ ylo = x.lo + (s.size + 1)) := by
    intro j x hx
    refine ⟨x.lo + (s.data.toList.length + 1), x.hi + (s.data.toList.length + 1), ?_, by simp⟩
    rw [← hC, List.getElem?_append_right (by omega), Nat.add_sub_cancel_left, List.getElem?_map, hx]
    rfl
  clear T1 ha hb hc hC hcl
  go_enter Tryd.func4, Tryd.ntmps4
  go_wp2_with (fail)
  refine (H1.out).mono ?_
  rintro e w1 ⟨A1, c1, rfl, _, hb1⟩
  have he1 := he.below hb1 h4
  have hz1 := hb1.size
  go_wp2_with (fail)
  refine (H2.out w1 he1 (by omega)).mono ?_
  rintro e w2 ⟨A2, c2, rfl, hown2, hb2⟩
  have he2 := he1.below hb2 (by omega)
  have hz2 := hb2.size
  go_wp2_with (fail)
  refine (H3.out w2 he2 (by omega)).mono ?_
  rintro e w3 ⟨A3, c3, rfl, hown3, hb3⟩
  have he3 := he2.below hb3 (by omega)
  have hz3 := hb3.size
  go_wp2_with (fail)
  refine (lives_true w3 he3 (by omega)).mono ?_
  rintro e w4 ⟨rfl, hb4⟩
  have he4 := he3.below hb4 (by omega)
  have hz4 := hb4.size
  go_wp2_with (fail)
  refine (HOK.out _ _ ?_ ?_).mono ?_
  · go_simp
  · go_simp
  rintro e w5 ⟨rfl, rfl⟩
  go_wp2_with (fail)
  have hb24 : Below w2.heap.size w2 w4 := hb3.trans (hb4.mono (by omega))
  go_loopg [60] b.length (fun g i wr => ∃ (j : Nat), g = b.length - j ∧ j ≤ b.length ∧ i = .int .i64 (j : Int) ∧ Below w4.heap.size w4 wr)
  case atStart => exact ⟨0, by simp, by omega, rfl, (Below.refl _ w4).alloc (Nat.le_refl _) _⟩
  case round =>
    obtain ⟨j, hg, hj, rfl, hbr⟩ := hrel
    have HG := Lib.hid hg
    clear hg
    by_cases hjb : j < b.length
    · obtain ⟨x, hx⟩ : ∃ x, b[j]? = some x := ⟨_, List.getElem?_eq_getElem hjb⟩
      obtain ⟨ylo, yhi, hy, hylo⟩ := HY.out j x hx
      have hxl := HXL.out j x hx
      obtain ⟨g2, rfl, hg2a, hg2b, hc2⟩ := own_cells hown2 (by omega)
      obtain ⟨g3, rfl, hg3a, hg3b, hc3⟩ := own_cells hown3 (by have := HCL.out; omega)
      have hr2 : Hid (wr.rangeAt g2 (j * 5) (tokC x.toTk x.lo x.hi).toList) := by
        intro i v hv
        have hi := tokCells_at b j x hx i v hv
        rw [hbr.cell (p := ⟨g2, j * 5 + i, none⟩) (by simp; omega), hb24.cell (p := ⟨g2, j * 5 + i, none⟩) hg2b]
        exact hc2 _ _ hi
      have hr3 : Hid (wr.rangeAt g3 ((a.length + j) * 5) (tokC x.toTk ylo yhi).toList) := by
        intro i v hv
        have hi := tokCells_at C (a.length + j) ⟨x.toTk, ylo, yhi⟩ hy i v hv
        rw [hbr.cell (p := ⟨g3, (a.length + j) * 5 + i, none⟩) (by simp; omega), hb4.cell (p := ⟨g3, (a.length + j) * 5 + i, none⟩) hg3b]
        exact hc3 _ _ hi
      have hl1 : decide ((j : Int) < (b.length : Int)) = true := by simp; omega
      have ht : (((ylo : Int)) != ((x.lo : Int) + (s.size : Int)) + 1) = false := by rw [bne_eq_false_iff_eq]; omega
      have hz5 := hbr.size
      have hcc : C.length ≤ 2000 := by have := HCL.out; omega
      have hjc : a.length + j < C.length := by have := HCL.out; omega
      clear hx hy hc2 hc3 hylo
      have hgr3 : g3 < wr.heap.size := by omega
      go_wp2_with (first | (refine wpList_load_mid rfl 28 (.tmp 63) rfl g2 (j * 5) rfl (tokC x.toTk x.lo x.hi).toList _ hr2.out Tryd.underlying28 rfl info_tok5 ?_) | (refine wpList_store_box rfl 28 (.tmp 12) (.tmp 64) rfl wr.heap.size (tokC x.toTk x.lo x.hi) rfl rfl 28 _ (Box.new wr _ _) info_tok5 rfl (tokC_one _ _ _) ?_; intro w7 hx7 hu7 hz7; clear hz7; have hr7 : Hid (w7.rangeAt g3 ((a.length + j) * 5) (tokC x.toTk ylo yhi).toList) := range_keep hr3.out (((Below.refl _ wr).alloc (Nat.le_refl _) _).trans (hu7.own (Nat.le_refl _) (by simp))) hgr3) | (refine wpList_load_mid rfl 28 (.tmp 70) rfl g3 ((a.length + j) * 5) rfl (tokC x.toTk ylo yhi).toList _ hr7.out Tryd.underlying28 rfl info_tok5 ?_) | (refine wpList_store_box rfl 28 (.tmp 13) (.tmp 71) rfl w7.heap.size (tokC x.toTk ylo yhi) rfl rfl 28 _ (Box.new w7 _ _) info_tok5 rfl (tokC_one _ _ _) ?_; intro w8 hx8 hu8 hz8; have hx78 : Box w8 wr.heap.size 28 (tokC x.toTk x.lo x.hi) := Box.grown (Box.alloc hx7 _) hu8 (by have := hx7.lt; simp; omega); have q0 := hx8.cell 0; have q1 := hx8.cell 1; have q3 := hx8.cell 3; have q4 := hx8.cell 4; have p0 := hx78.cell 0; have p1 := hx78.cell 1; have p3 := hx78.cell 3; have p4 := hx78.cell 4; simp [tokC] at q0 q1 q3 q4 p0 p1 p3 p4))
      have hb8 : Below w4.heap.size w4 w8 := (((hbr.alloc hz5 _).trans (hu7.own hz5 (by simp; omega))).alloc (by have := hx7.lt; omega) _).trans (hu8.own (by have := hx7.lt; omega) (by have := hx7.lt; simp; omega))
      go_roundg (b.length - (j + 1))
      case measure => rw [HG.out]; omega
      case rel => exact ⟨j + 1, rfl, by omega, by go_num, hb8⟩
    · have hl1 : decide ((j : Int) < (b.length : Int)) = false := by simp; omega
      go_wp2
      go_ret
      exact ⟨rfl, ((((hb1.trans (hb2.mono (by omega))).trans (hb3.mono (by omega))).trans (hb4.mono (by omega))).trans (hbr.mono (by omega)))⟩
theorem two_walk (s t : ByteArray) (w : World) (he : Env w) (h4 : 4 ≤ w.heap.size) (hm : s.size ≤ 140737488351232) (hn : t.size ≤ 140737488351232) :
    Calls Tryd.prog 4 #[.string s, .string t] w fun e w' => e = .returned (.bool true) ∧ Below w.heap.size w w' := by
  cases ha : Lexy.toks s.data.toList with
  | err n => exact two_no s t w he h4 (by omega) (by omega) (by rw [ha]; rfl)
  | ok a =>
    cases hb : Lexy.toks t.data.toList with
    | err n => exact two_no s t w he h4 (by omega) (by omega) (by rw [ha, hb]; rfl)
    | ok b =>
      rcases Lexy.toks_two (toks_ok ha).1 (toks_ok hb).1 with hc | hc
      · exact two_large s t a b w he h4 (by omega) (by omega) ha hb hc
      · exact two_yes s t a b w he h4 (by omega) (by omega) ha hb hc
end Go.Proofs.YtgeaphapnoiniaaDoor
