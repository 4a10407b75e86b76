/-
  The walk of the law of quotes. Conditions: the library's table lies where it lies; the text is no longer than 1048576 bytes.
-/
import Derived.Test.YtgeaphapnoiniaaDoorJlM
import Derived.Test.YtgeaphapnoiniaaDoorJlR
namespace Go.Proofs.YtgeaphapnoiniaaDoor
open Go.RowKit

set_option maxRecDepth 100000 in
set_option maxHeartbeats 2000000 in
theorem quotes_walk (s : ByteArray) (w : World) (he : Env w) (h4 : 4 ≤ w.heap.size) (hm : s.size ≤ 1048576) :
    Calls Tryd.prog 5 #[.string s] w fun e w' => e = .returned (.bool true) ∧ Below w.heap.size w w' := by
  obtain ⟨l, rfl⟩ : ∃ l, s = bytes l := ⟨s.data.toList, rfl⟩
  have HQ0 := quote_any (bytes l) w hm
  have hml : l.length ≤ 1048576 := hm
  obtain ⟨D, hD⟩ : ∃ D, Lexy.quote l = D := ⟨_, rfl⟩
  have hq : (Lexy.quote (bytes l).data.toList) = D := by simpa [bytes] using hD
  rw [hq] at HQ0
  have hplain := Lexy.quote_plain l
  have htoks := Lexy.toks_quote l
  have hdl : D.length ≤ 5000000 := by
    have := qb_flat l
    rw [← hD]; simp only [Lexy.quote, List.length_cons, List.length_append, List.length_nil]; omega
  rw [hD] at hplain htoks
  obtain ⟨x, hx⟩ : ∃ x : ByteArray, ⟨D.toArray⟩ = x := ⟨_, rfl⟩
  rw [hx] at HQ0
  have hxl : x.data.toList = D := by rw [← hx]
  have hxs : x.size = D.length := by rw [← hx]; rfl
  have HQ := Lib.hid HQ0
  have HXL := Lib.hid hxl
  have HXZ : Hid (x.size ≤ 5000000) := Lib.hid (by omega)
  have HXS := Lib.hid hxs
  have HP := Lib.hid hplain
  have HT : Hid (∀ w1, Env w1 → 4 ≤ w1.heap.size → Calls Tryd.prog 7 #[.string x] w1 fun e w' => TokOut w1 (Lexy.toks D) e w') := by
    intro w1 he1 h41
    have := tokens_any x w1 he1 h41 (by omega)
    rwa [hxl] at this
  clear HQ0 hml hD hq hx hplain hxl hdl
  by_cases h2 : 2000 < D.length
  · rw [if_pos h2] at htoks
    have HT1 : Hid (∀ w1, Env w1 → 4 ≤ w1.heap.size → Calls Tryd.prog 7 #[.string x] w1 fun e w' => TokOut w1 (.err 2) e w') := by
      intro w1 he1 h41; have := HT.out w1 he1 h41; rwa [htoks] at this
    have hb2000 : decide ((2000 : Int) < (x.size : Int)) = true := by simp; omega
    clear htoks HT hxs h2
    go_enter Tryd.func5, Tryd.ntmps5
    go_wp2_with (fail)
    refine HQ.out.mono ?_
    rintro e w1 ⟨rfl, hb1⟩
    have he1 := he.below hb1 h4
    have hz1 := hb1.size
    go_wp2_with (fail)
    refine (HT1.out w1 he1 (by omega)).mono ?_
    rintro e w2 ⟨rfl, hb2⟩
    have he2 := he1.below hb2 (by omega)
    have hz2 := hb2.size
    have hb12 : Below w.heap.size w w2 := hb1.trans (hb2.mono hz1)
    go_wp2_with (refine wpList_to_bytes rfl 9 33 5 (.tmp 15) rfl Tryd.underlying9 Tryd.underlying33 Tryd.underlying5 x rfl ?_; intro w3 cap hc3 hb3 hsz3)
    have HC3 := Lib.hid hc3
    clear hc3
    have he3 := he2.below hb3 (by omega)
    have hb13 : Below w.heap.size w w3 := hb12.trans (hb3.mono (by omega))
    have hz3 := hb3.size
    have h43 : 4 ≤ w3.heap.size := by omega
    go_loopg [18] x.size (fun g v wr => ∃ (j : Nat), g = x.size - j ∧ j ≤ x.size ∧ v = .int .i64 (j : Int) ∧ wr = w3)
    case atStart => exact ⟨0, by simp, by omega, rfl, rfl⟩
    case round =>
      obtain ⟨j, hg, hj, rfl, rfl⟩ := hrel
      have HG := Lib.hid hg
      have hxz := HXZ.out
      clear hg
      by_cases hjb : j < x.size
      · obtain ⟨c, hc⟩ : ∃ c, D[j]? = some c := ⟨_, List.getElem?_eq_getElem (by have := HXS.out; omega)⟩
        have hcell := HC3.out j c (by rw [HXL.out]; exact hc)
        obtain ⟨p1, p2⟩ := HP.out c (List.mem_of_getElem? hc)
        have hl1 : decide ((j : Int) < (x.size : Int)) = true := by simp; omega
        have e32 : decide ((c.toNat : Int) < 32) = false := by simp; omega
        have e126 : decide ((126 : Int) < (c.toNat : Int)) = false := by simp; omega
        clear hc p1 p2
        go_wp2
        go_roundg (x.size - (j + 1))
        case measure => rw [HG.out]; omega
        case rel => have := HXZ.out; exact ⟨j + 1, rfl, by omega, by go_num, rfl⟩
      · have hl1 : decide ((j : Int) < (x.size : Int)) = false := by simp; omega
        have hjb2 : ¬ ((j : Int) < (x.size : Int)) := by omega
        have hj2 : j = x.size := by omega
        subst hj2
        clear hjb hj
        go_wp2_with (fail)
        refine (lives_true _ he3 h43).mono ?_
        rintro e w4 ⟨rfl, hb4⟩
        have he4 := he3.below hb4 h43
        have hz4 := hb4.size
        go_wp2_with (fail)
        refine (lives_true _ he4 (by omega)).mono ?_
        rintro e w5 ⟨rfl, hb5⟩
        go_wp2
        go_ret
        exact ⟨rfl, (hb13.trans (hb4.mono hb13.size)).trans (hb5.mono (by have := hb13.size; omega))⟩
  · rw [if_neg h2] at htoks
    have HT1 : Hid (∀ w1, Env w1 → 4 ≤ w1.heap.size → Calls Tryd.prog 7 #[.string x] w1 fun e w' => TokOut w1 (.ok [⟨⟨3, l, 0⟩, 0, D.length⟩]) e w') := by
      intro w1 he1 h41; have := HT.out w1 he1 h41; rwa [htoks] at this
    have hhi : ((D.length : Int) == (x.size : Int)) = true := by rw [hxs]; simp
    clear htoks HT hxs h2
    go_enter Tryd.func5, Tryd.ntmps5
    go_wp2_with (fail)
    refine HQ.out.mono ?_
    rintro e w1 ⟨rfl, hb1⟩
    have he1 := he.below hb1 h4
    have hz1 := hb1.size
    go_wp2_with (fail)
    refine (HT1.out w1 he1 (by omega)).mono ?_
    rintro e w2 ⟨A2, c2, rfl, hown2, hb2⟩
    obtain ⟨g2, rfl, hg2a, hg2b, hc2⟩ := own_cells hown2 (by simp)
    have HCC := Lib.hid hc2
    clear hc2 hown2
    have he2 := he1.below hb2 (by omega)
    have hz2 := hb2.size
    have hb12 : Below w.heap.size w w2 := hb1.trans (hb2.mono hz1)
    go_wp2_with (refine wpList_to_bytes rfl 9 33 5 (.tmp 15) rfl Tryd.underlying9 Tryd.underlying33 Tryd.underlying5 x rfl ?_; intro w3 cap hc3 hb3 hsz3)
    have HC3 := Lib.hid hc3
    clear hc3
    have he3 := he2.below hb3 (by omega)
    have hb13 : Below w.heap.size w w3 := hb12.trans (hb3.mono (by omega))
    have hz3 := hb3.size
    have h43 : 4 ≤ w3.heap.size := by omega
    go_loopg [18] x.size (fun g v wr => ∃ (j : Nat), g = x.size - j ∧ j ≤ x.size ∧ v = .int .i64 (j : Int) ∧ wr = w3)
    case atStart => exact ⟨0, by simp, by omega, rfl, rfl⟩
    case round =>
      obtain ⟨j, hg, hj, rfl, rfl⟩ := hrel
      have HG := Lib.hid hg
      have hxz := HXZ.out
      clear hg
      by_cases hjb : j < x.size
      · obtain ⟨c, hc⟩ : ∃ c, D[j]? = some c := ⟨_, List.getElem?_eq_getElem (by have := HXS.out; omega)⟩
        have hcell := HC3.out j c (by rw [HXL.out]; exact hc)
        obtain ⟨p1, p2⟩ := HP.out c (List.mem_of_getElem? hc)
        have hl1 : decide ((j : Int) < (x.size : Int)) = true := by simp; omega
        have e32 : decide ((c.toNat : Int) < 32) = false := by simp; omega
        have e126 : decide ((126 : Int) < (c.toNat : Int)) = false := by simp; omega
        clear hc p1 p2
        go_wp2
        go_roundg (x.size - (j + 1))
        case measure => rw [HG.out]; omega
        case rel => have := HXZ.out; exact ⟨j + 1, rfl, by omega, by go_num, rfl⟩
      · have hl1 : decide ((j : Int) < (x.size : Int)) = false := by simp; omega
        have hjb2 : ¬ ((j : Int) < (x.size : Int)) := by omega
        have hj2 : j = x.size := by omega
        subst hj2
        clear hjb hj
        go_wp2_with (fail)
        refine (lives_true _ he3 h43).mono ?_
        rintro e w4 ⟨rfl, hb4⟩
        have hz4 := hb4.size
        have hb24 : Below w2.heap.size w2 w4 := hb3.trans (hb4.mono hz3)
        have r0 : w4.cell? ⟨g2, 0, none⟩ = some (.int .i64 3) := by rw [hb24.cell (p := ⟨g2, 0, none⟩) hg2b]; exact HCC.out 0 _ rfl
        have r2 : w4.cell? ⟨g2, 2, none⟩ = some (.int .i64 (D.length : Int)) := by rw [hb24.cell (p := ⟨g2, 2, none⟩) hg2b]; exact HCC.out 2 _ rfl
        have r3 : w4.cell? ⟨g2, 3, none⟩ = some (.string (bytes l)) := by rw [hb24.cell (p := ⟨g2, 3, none⟩) hg2b]; exact HCC.out 3 _ rfl
        go_wp2
        go_ret
        exact ⟨rfl, hb13.trans (hb4.mono hb13.size)⟩
end Go.Proofs.YtgeaphapnoiniaaDoor
