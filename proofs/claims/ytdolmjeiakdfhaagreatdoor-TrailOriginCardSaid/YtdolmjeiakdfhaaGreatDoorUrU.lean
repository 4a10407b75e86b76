/-
  The segments of a path, tidied. Conditions: they lie in memory, one at least, no more than 3000.
-/
import Derived.Test.YtdolmjeiakdfhaaGreatDoorUrV
namespace Go.Proofs.YtdolmjeiakdfhaaGreatDoor
set_option linter.unusedSimpArgs false
set_option linter.unusedVariables false
open Go.RowKit

def TidyAt (l : List (List UInt8)) (k : Nat) (acc : List (List UInt8)) : Prop := Urly.tidyGo [] l = Urly.tidyGo acc (l.drop k) ∧ acc.length ≤ k
theorem TidyAt.start (l : List (List UInt8)) : TidyAt l 0 [] := ⟨by rw [List.drop_zero], by simp⟩
section
variable {l acc : List (List UInt8)} {k : Nat} {p : List UInt8}
theorem TidyAt.norm (h : TidyAt l k acc) (hp : l[k]? = some p) (h1 : p ≠ [46]) (h2 : p ≠ [46, 46]) : TidyAt l (k + 1) (acc ++ [p]) := by
  refine ⟨?_, by have := h.2; simp; omega⟩
  rw [h.1, drop_at hp, Urly.tidyGo, if_pos ⟨h1, h2⟩]
theorem drop_end (hk : k + 1 = l.length) : l.drop (k + 1) = [] := List.drop_eq_nil_of_le (by omega)
theorem drop_more (hk : k + 1 < l.length) : l.drop (k + 1) ≠ [] := by
  intro h
  have := congrArg List.length h
  simp at this; omega
theorem TidyAt.dot_last (h : TidyAt l k acc) (hp : l[k]? = some [46]) (hk : k + 1 = l.length) : TidyAt l (k + 1) (acc ++ [[]]) := by
  refine ⟨?_, by have := h.2; simp; omega⟩
  rw [h.1, drop_at hp, Urly.tidyGo, if_neg (by simp), if_neg (by simp), if_pos (drop_end hk)]
theorem TidyAt.dot (h : TidyAt l k acc) (hp : l[k]? = some [46]) (hk : k + 1 < l.length) : TidyAt l (k + 1) acc := by
  refine ⟨?_, by have := h.2; omega⟩
  rw [h.1, drop_at hp, Urly.tidyGo, if_neg (by simp), if_neg (by simp), if_neg (drop_more hk), List.append_nil]
theorem TidyAt.up_last (h : TidyAt l k acc) (hp : l[k]? = some [46, 46]) (hk : k + 1 = l.length) : TidyAt l (k + 1) (acc.dropLast ++ [[]]) := by
  refine ⟨?_, by have := h.2; simp; omega⟩
  rw [h.1, drop_at hp, Urly.tidyGo, if_neg (by simp), if_pos rfl, if_pos (drop_end hk)]
theorem TidyAt.up (h : TidyAt l k acc) (hp : l[k]? = some [46, 46]) (hk : k + 1 < l.length) : TidyAt l (k + 1) acc.dropLast := by
  refine ⟨?_, by have := h.2; simp; omega⟩
  rw [h.1, drop_at hp, Urly.tidyGo, if_neg (by simp), if_pos rfl, if_neg (drop_more hk), List.append_nil]
theorem TidyAt.done (h : TidyAt l k acc) (hk : l.length ≤ k) : Urly.tidyGo [] l = acc := by
  rw [h.1, List.drop_eq_nil_of_le hk]; rfl
end
theorem tidy_some {l acc : List (List UInt8)} (h : Urly.tidyGo [] l = acc) (ha : acc ≠ []) : Urly.tidy l = acc := by unfold Urly.tidy; rw [h, if_neg ha]
theorem tidy_none {l : List (List UInt8)} (h : Urly.tidyGo [] l = []) : Urly.tidy l = [[]] := by unfold Urly.tidy; rw [if_pos h]
/-- a row of one's own, without its last element. -/
theorem own_shrink {w : World} {B : Nat} {e : TypeId} {g m cap : Nat} {acc : List (List UInt8)} (hm : acc.length = m + 1) (h : w.ownsRow B e 1 (.slice (some ⟨g, 0, none⟩) (m + 1) cap) (m + 1) (txts acc)) : w.ownsRow B e 1 (.slice (some ⟨g, 0, none⟩) m cap) acc.dropLast.length (txts acc.dropLast) := by
  have hl : acc.dropLast.length = m := by simp [hm]
  rcases h with ⟨h1, ⟨h2, _⟩ | ⟨g', cap', cur, hv, hb, hg, hn, hc, hs, ht⟩⟩
  · cases h2
  · refine ⟨by rw [txts_len]; omega, .inr ⟨g, cap, cur, by rw [hl], ?_⟩⟩
    injection hv with hv1 hv2 hv3
    injection hv1 with hv1
    injection hv1 with hv1 _ _
    subst hv1; subst hv3
    refine ⟨hb, hg, by omega, hc, hs, ?_⟩
    have : txts acc.dropLast = (txts acc).take (acc.dropLast.length * 1) := by
      rw [hl]
      unfold txts
      rw [← List.map_take, List.dropLast_eq_take, hm]
      simp
    rw [this, ht.symm, List.take_take]
    congr 1
    omega
theorem own_succ {W : World} {base : Nat} {e : TypeId} {size : Nat} {v : Value} {k : Nat} {xs : List Value} (h : W.ownsRow base e size v (k + 1) xs) : ∃ g cap, v = .slice (some ⟨g, 0, none⟩) (k + 1) cap := by
  rcases h.2 with ⟨_, h0⟩ | ⟨g, cap, _, rfl, _⟩
  · omega
  · exact ⟨g, cap, rfl⟩
theorem byt_nil : byt [] = ByteArray.empty := rfl
def TidyOut (l : List (List UInt8)) (w : World) (e : Ending) (w' : World) : Prop :=
  ∃ v, e = .returned v ∧ w'.ownsRow w.heap.size 9 1 v (Urly.tidy l).length (txts (Urly.tidy l)) ∧ (Urly.tidy l).length ≤ l.length + 1 ∧ Below w.heap.size w w'
theorem tidyOut_mk {l m : List (List UInt8)} {w w' : World} {v : Value} {e : Ending} (h : Urly.tidy l = m) (he : e = .returned v) (ho : w'.ownsRow w.heap.size 9 1 v m.length (txts m)) (hm : m.length ≤ l.length + 1) (hb : Below w.heap.size w w') : TidyOut l w e w' := by
  subst h; exact ⟨v, he, ho, hm, hb⟩
set_option maxRecDepth 100000 in
set_option maxHeartbeats 4000000 in
theorem tidy_any (l : List (List UInt8)) (v : Value) (w : World) (hv : Rd w 1 (txts l) l.length v) (h0 : 0 < l.length) (hl : l.length ≤ 3000) :
    Calls Tryz.prog 50 #[v] w (TidyOut l w) := by
  obtain ⟨i0, hi, hi0, hi1, hi2⟩ := info_parts txt_info
  obtain ⟨A0, cap0, rfl, hcap1, hcap2, hcells⟩ := hv
  obtain ⟨g0, o0, rfl, hg0, hr0⟩ := hcells h0
  have HR := Lib.hid hr0
  clear hr0
  go_enter Tryz.func50, Tryz.ntmps50
  go_wp2
  go_loopg [3, 8] (l.length - 0) (fun g u v wr => ∃ (k : Nat) (acc : List (List UInt8)), k ≤ l.length ∧ g = l.length - k ∧ v = .int .i64 (k : Int) ∧ TidyAt l k acc ∧ wr.ownsRow w.heap.size 9 1 u acc.length (txts acc) ∧ Below w.heap.size w wr)
  case atStart => exact ⟨0, [], by omega, rfl, rfl, .start l, ⟨rfl, .inl ⟨rfl, rfl⟩⟩, Below.refl _ _⟩
  case round =>
    obtain ⟨k, acc, hk, hg, rfl, ha, ho, hw⟩ := hrel
    have HG := Lib.hid hg
    have HA := Lib.hid ha
    have HW := Lib.hid hw
    have hacc : acc.length ≤ k := ha.2
    have hzr := hw.size
    obtain ⟨A, cap, rfl⟩ := own_slice ho
    have HO := Lib.hid ho
    clear hg ha hw ho
    by_cases hlt : k < l.length
    · obtain ⟨p, hp⟩ : ∃ p, l[k]? = some p := ⟨_, List.getElem?_eq_getElem hlt⟩
      have hl1 : decide ((k : Int) < (l.length : Int)) = true := decide_eq_true (by omega)
      have hl2 : (k : Int) < (l.length : Int) := by omega
      have hc : wr.cell? ⟨g0, o0 + k, none⟩ = some (.string (byt p)) := by
        rw [HW.out.cell (p := ⟨g0, o0 + k, none⟩) hg0]
        exact HR.out k _ (by simp [txts, hp])
      have HPP := Lib.hid hp
      clear hp
      have hxl : (byt p).toList = p := byt_list p
      obtain ⟨X, hX⟩ : ∃ X, byt p = X := ⟨_, rfl⟩
      have HX := Lib.hid hX
      rw [hX] at hc hxl
      clear hX
      by_cases q1 : p = [46]
      · subst q1
        have t1 : (X.toList == [46]) = true := by rw [hxl]; rfl
        have t2 : (X.toList != [46]) = false := by rw [hxl]; rfl
        have t3 : (X.toList == [46, 46]) = false := by rw [hxl]; rfl
        have t4 : (X.toList != [46, 46]) = true := by rw [hxl]; rfl
        clear hxl
        have hwr : IntKind.i64.wrap ((l.length : Int) - 1) = (l.length : Int) - 1 := by rw [IntKind.wrap_i64]; omega
        by_cases q2 : k + 1 = l.length
        · have s1 : ((k : Int) == (l.length : Int) - 1) = true := by rw [beq_iff_eq]; omega
          have HF := Lib.hid (HA.out.dot_last HPP.out q2)
          have HQ := Lib.hid q2
          clear q2
          go_wp2_with (at_builtin; refine wpList_append_own _ rfl (.tmp 40) (.tmp 41) 33 rfl w.heap.size 9 i0 (.string ByteArray.empty) 1 16 Tryz.underlying33 hi hi0 hi1 hi2 rfl (by decide) (.slice A acc.length cap) acc.length (txts acc) rfl (HO.out.alloc _) ⟨wr.heap.size, 0, none⟩ 1 1 [.string ByteArray.empty] rfl rfl (one_new _ _ _ _ rfl) (one_text _) ?c3 ?c4 ?c5 ?_)
          case c3 => unfold maxLen; omega
          case c4 => omega
          case c5 => (try simp); omega
          intro v' w3 hown' hgrow _
          have HOW := Lib.hid hown'
          have HGR := Lib.hid hgrow
          clear hown' hgrow
          go_wp2
          go_roundg (l.length - (k + 1))
          case measure => rw [HG.out]; omega
          case rel =>
            refine ⟨k + 1, acc ++ [[]], by omega, rfl, by go_num, HF.out, ?_, ?_⟩
            · have := HOW.out
              rw [txts_snoc, byt_nil]
              simpa [txts] using this
            · exact grown_below (HW.out.alloc (by omega) _) HGR.out (HO.out.alloc _) (by simp; omega)
        · have s1 : ((k : Int) == (l.length : Int) - 1) = false := beq_no (by omega)
          have HF := Lib.hid (HA.out.dot HPP.out (by omega))
          have HQ := Lib.hid q2
          clear q2
          go_wp2
          go_roundg (l.length - (k + 1))
          case measure => rw [HG.out]; omega
          case rel => exact ⟨k + 1, acc, by omega, rfl, by go_num, HF.out, HO.out, HW.out⟩
      · have t1 : (X.toList == [46]) = false := by rw [hxl, beq_eq_false_iff_ne]; exact q1
        have t2 : (X.toList != [46]) = true := by rw [bne, t1]; rfl
        by_cases q3 : p = [46, 46]
        · subst q3
          have t3 : (X.toList == [46, 46]) = true := by rw [hxl]; rfl
          have t4 : (X.toList != [46, 46]) = false := by rw [hxl]; rfl
          clear hxl q1
          have hwr : IntKind.i64.wrap ((l.length : Int) - 1) = (l.length : Int) - 1 := by rw [IntKind.wrap_i64]; omega
          by_cases q4 : acc = []
          · subst q4
            have z1 : decide ((0 : Int) > 0) = false := rfl
            by_cases q2 : k + 1 = l.length
            · have s1 : ((k : Int) == (l.length : Int) - 1) = true := by rw [beq_iff_eq]; omega
              have HF : Hid (TidyAt l (k + 1) ([] ++ [[]])) := Lib.hid (HA.out.up_last HPP.out q2)
              have HQ := Lib.hid q2
              clear q2
              go_wp2_with (at_builtin; refine wpList_append_own _ rfl (.tmp 40) (.tmp 41) 33 rfl w.heap.size 9 i0 (.string ByteArray.empty) 1 16 Tryz.underlying33 hi hi0 hi1 hi2 rfl (by decide) (.slice A 0 cap) 0 [] rfl (HO.out.alloc _) ⟨wr.heap.size, 0, none⟩ 1 1 [.string ByteArray.empty] rfl rfl (one_new _ _ _ _ rfl) (one_text _) ?c3 ?c4 ?c5 ?_)
              case c3 => unfold maxLen; omega
              case c4 => omega
              case c5 => (try simp); omega
              intro v' w3 hown' hgrow _
              have HOW := Lib.hid hown'
              have HGR := Lib.hid hgrow
              clear hown' hgrow
              go_wp2
              go_roundg (l.length - (k + 1))
              case measure => rw [HG.out]; omega
              case rel =>
                refine ⟨k + 1, [] ++ [[]], by omega, rfl, by go_num, HF.out, ?_, ?_⟩
                · have := HOW.out
                  rw [txts_snoc, byt_nil]
                  simpa [txts] using this
                · exact grown_below (HW.out.alloc (by omega) _) HGR.out (HO.out.alloc _) (by simp; omega)
            · have s1 : ((k : Int) == (l.length : Int) - 1) = false := beq_no (by omega)
              have HF : Hid (TidyAt l (k + 1) []) := Lib.hid (HA.out.up HPP.out (by omega))
              have HQ := Lib.hid q2
              clear q2
              go_wp2
              go_roundg (l.length - (k + 1))
              case measure => rw [HG.out]; omega
              case rel => exact ⟨k + 1, [], by omega, rfl, by go_num, HF.out, HO.out, HW.out⟩
          · obtain ⟨m, hm⟩ : ∃ m, acc.length = m + 1 := ⟨acc.length - 1, by have := List.length_pos_iff.2 q4; omega⟩
            have hO2 := HO.out
            rw [hm] at hO2
            obtain ⟨g1, cap1, hv1⟩ := own_succ hO2
            injection hv1 with hv1 _ hvc
            subst hvc
            subst hv1
            have HS := Lib.hid (own_shrink hm hO2)
            have hcm : m + 1 ≤ cap := by
              rcases hO2.2 with ⟨h2, _⟩ | ⟨g', cap', cur, hv, hb, hg, hn, hc, hs, ht⟩
              · cases h2
              · injection hv with _ _ hv3; subst hv3; exact hn
            have HM := Lib.hid hm
            rw [hm]
            have hm2 : m + 1 ≤ k := by omega
            have hd : acc.dropLast.length = m := by simp [hm]
            have z1 : decide ((m : Int) + 1 > 0) = true := decide_eq_true (by omega)
            have z2 : decide ((0 : Int) < (m : Int) + 1) = true := decide_eq_true (by omega)
            have z3 : (0 : Int) < (m : Int) + 1 := by omega
            rw [hd] at HS
            have HD := Lib.hid hd
            clear hO2 q4 HO hm hd hacc
            by_cases q2 : k + 1 = l.length
            · have s1 : ((k : Int) == (l.length : Int) - 1) = true := by rw [beq_iff_eq]; omega
              have HF := Lib.hid (HA.out.up_last HPP.out q2)
              have HQ := Lib.hid q2
              clear q2
              go_wp2_with (at_builtin; refine wpList_append_own _ rfl (.tmp 40) (.tmp 41) 33 rfl w.heap.size 9 i0 (.string ByteArray.empty) 1 16 Tryz.underlying33 hi hi0 hi1 hi2 rfl (by decide) (.slice (some ⟨g1, 0, none⟩) m cap) m (txts acc.dropLast) rfl (HS.out.alloc _) ⟨wr.heap.size, 0, none⟩ 1 1 [.string ByteArray.empty] rfl rfl (one_new _ _ _ _ rfl) (one_text _) ?c3 ?c4 ?c5 ?_)
              case c3 => unfold maxLen; omega
              case c4 => omega
              case c5 => (try simp); omega
              intro v' w3 hown' hgrow _
              have HOW := Lib.hid hown'
              have HGR := Lib.hid hgrow
              clear hown' hgrow
              go_wp2
              go_roundg (l.length - (k + 1))
              case measure => rw [HG.out]; omega
              case rel =>
                refine ⟨k + 1, acc.dropLast ++ [[]], by omega, rfl, by go_num, HF.out, ?_, ?_⟩
                · have := HOW.out
                  rw [txts_snoc, byt_nil, List.length_append, HD.out]
                  simpa [txts] using this
                · exact grown_below (HW.out.alloc (by omega) _) HGR.out (HS.out.alloc _) (by simp; omega)
            · have s1 : ((k : Int) == (l.length : Int) - 1) = false := beq_no (by omega)
              have HF := Lib.hid (HA.out.up HPP.out (by omega))
              have HQ := Lib.hid q2
              clear q2
              go_wp2
              go_roundg (l.length - (k + 1))
              case measure => rw [HG.out]; omega
              case rel => exact ⟨k + 1, acc.dropLast, by omega, rfl, by go_num, HF.out, by rw [HD.out]; exact HS.out, HW.out⟩
        · have t3 : (X.toList == [46, 46]) = false := by rw [hxl, beq_eq_false_iff_ne]; exact q3
          have t4 : (X.toList != [46, 46]) = true := by rw [bne, t3]; rfl
          have HF := Lib.hid (HA.out.norm HPP.out q1 q3)
          clear hxl q1 q3
          go_wp2_with (at_builtin; refine wpList_append_own _ rfl (.tmp 19) (.tmp 21) 33 rfl w.heap.size 9 i0 (.string ByteArray.empty) 1 16 Tryz.underlying33 hi hi0 hi1 hi2 rfl (by decide) (.slice A acc.length cap) acc.length (txts acc) rfl (HO.out.alloc _) ⟨wr.heap.size, 0, none⟩ 1 1 [.string X] rfl rfl (one_new _ _ _ _ rfl) (one_text _) ?c3 ?c4 ?c5 ?_)
          case c3 => unfold maxLen; omega
          case c4 => omega
          case c5 => (try simp); omega
          intro v' w3 hown' hgrow _
          have HOW := Lib.hid hown'
          have HGR := Lib.hid hgrow
          clear hown' hgrow
          go_wp2
          go_roundg (l.length - (k + 1))
          case measure => rw [HG.out]; omega
          case rel =>
            refine ⟨k + 1, acc ++ [p], by omega, rfl, by go_num, HF.out, ?_, ?_⟩
            · have := HOW.out
              rw [txts_snoc, HX.out]
              simpa [txts] using this
            · exact grown_below (HW.out.alloc (by omega) _) HGR.out (HO.out.alloc _) (by simp; omega)
    · have hl1 : decide ((k : Int) < (l.length : Int)) = false := decide_eq_false (by omega)
      have hl2 : ¬ (k : Int) < (l.length : Int) := by omega
      have HF : Hid (Urly.tidyGo [] l = acc) := Lib.hid (HA.out.done (by omega))
      by_cases q4 : acc = []
      · subst q4
        have z1 : ((0 : Int) == 0) = true := rfl
        go_wp2
        go_ret
        exact tidyOut_mk (tidy_none HF.out) rfl (World.ownsRow_lit wr #[.string ByteArray.empty] 1 hzr (by unfold maxLen; omega) rfl) (by simp) (HW.out.alloc (by omega) _)
      · have hpos : 0 < acc.length := List.length_pos_iff.2 q4
        have HT : Hid (Urly.tidy l = acc) := Lib.hid (tidy_some HF.out q4)
        have z1 : ((acc.length : Int) == 0) = false := beq_no (by omega)
        clear q4
        go_wp2
        go_ret
        exact tidyOut_mk HT.out rfl HO.out (by omega) HW.out
end Go.Proofs.YtdolmjeiakdfhaaGreatDoor
