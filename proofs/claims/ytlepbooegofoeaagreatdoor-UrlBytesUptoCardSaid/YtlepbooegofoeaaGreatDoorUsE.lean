/-
  A text resolved beside an address. Conditions: the library's variables hold what they hold.
-/
import Derived.Test.YtlepbooegofoeaaGreatDoorUsD
namespace Go.Proofs.YtlepbooegofoeaaGreatDoor
set_option linter.unusedSimpArgs false
set_option linter.unusedVariables false
open Go.RowKit

theorem scheme_is (s : List UInt8) (w : World) (hs : s.length ≤ 1048576) (he : Env w) : Calls Tryz.prog 45 #[.string (byt s)] w fun e w' => (∃ X Y, e = .returned (.tuple #[.string X, .string Y, .bool (Urly.scheme s).isSome])) ∧ Below w.heap.size w w' :=
  (scheme_any s w hs he).mono fun e w' h => by
    unfold SchemeOut at h
    cases hc : Urly.scheme s with
    | none => rw [hc] at h; exact ⟨⟨_, _, h.1⟩, h.2⟩
    | some p => rw [hc] at h; exact ⟨⟨_, _, h.1⟩, h.2⟩
theorem hasp_any (s : List UInt8) (w : World) : Calls Tryz.prog 23 #[.string (byt s), .string ⟨#[47, 47]⟩] w fun e w' => e = .returned (.bool (Urly.twoOff s).isSome) ∧ w' = w := by
  have h := Tryz.strings_HasPrefix (byt s) ⟨#[47, 47]⟩ w
  rw [byt_data, show (⟨#[47, 47]⟩ : ByteArray).data.toList = [47, 47] from rfl, (pre_two s).1] at h
  exact h
section
variable {base ref : List UInt8} {b : Urly.U}
theorem res_large (hb : Urly.parse base = .ok b) (h : 500 < ref.length) : Urly.resolve base ref = .error 2 := by unfold Urly.resolve Urly.resolveU; rw [hb]; simp only; rw [if_pos h]
theorem resU_sch (hb : Urly.parse base = .ok b) (h : ¬ 500 < ref.length) (h1 : (Urly.scheme ref).isSome = true) : Urly.resolveU base ref = Urly.parse ref := by unfold Urly.resolveU; rw [hb]; simp only; rw [if_neg h, if_pos h1]
theorem resU_two (hb : Urly.parse base = .ok b) (h : ¬ 500 < ref.length) (h1 : (Urly.scheme ref).isSome = false) (h2 : (Urly.twoOff ref).isSome = true) : Urly.resolveU base ref = Urly.parse (b.scheme ++ 58 :: ref) := by unfold Urly.resolveU; rw [hb]; simp only; rw [if_neg h, if_neg (by rw [h1]; simp), if_pos h2]
theorem resU_bes (hb : Urly.parse base = .ok b) (h : ¬ 500 < ref.length) (h1 : (Urly.scheme ref).isSome = false) (h2 : (Urly.twoOff ref).isSome = false) : Urly.resolveU base ref = Urly.beside b ref := by unfold Urly.resolveU; rw [hb]; simp only; rw [if_neg h, if_neg (by rw [h1]; simp), if_neg (by rw [h2]; simp)]
theorem res_err {n : Nat} (h : Urly.resolveU base ref = .error n) : Urly.resolve base ref = .error n := by unfold Urly.resolve; rw [h]
theorem res_long {u : Urly.U} (h : Urly.resolveU base ref = .ok u) (hl : 500 < (Urly.text u).length) : Urly.resolve base ref = .error 2 := by unfold Urly.resolve; rw [h]; simp only; rw [if_pos hl]
theorem res_ok {u : Urly.U} (h : Urly.resolveU base ref = .ok u) (hl : ¬ 500 < (Urly.text u).length) : Urly.resolve base ref = .ok (Urly.text u) := by unfold Urly.resolve; rw [h]; simp only; rw [if_neg hl]
end
/-- an address that was found, or why not. -/
def FoundOut (r : Except Nat Urly.U) (v0 : Value) (w : World) (e : Ending) (w' : World) : Prop :=
  (∃ u v, r = .ok u ∧ Urly.Sz u ∧ e = .returned (.tuple #[.agg (ucells u v), .int .i64 0]) ∧ Rd w' 1 (txts u.path) u.path.length v ∧ Far v v0 w.heap.size ∧ Below w.heap.size w w') ∨
  (∃ n : Nat, r = .error n ∧ n ≠ 0 ∧ e = .returned (.tuple #[.agg uzero, .int .i64 (n : Int)]) ∧ Below w.heap.size w w')
theorem rd_upd {w w1 : World} {k n b : Nat} {xs : List Value} {v : Value} (h : Rd w k xs n v) (hu : Upd w w1 b) (hne : v.ownBlock ≠ some b) : Rd w1 k xs n v := by
  obtain ⟨A, cap, rfl, h1, h2, h3⟩ := h
  refine ⟨A, cap, rfl, h1, h2, fun hn => ?_⟩
  obtain ⟨g, o, rfl, h4, h5⟩ := h3 hn
  refine ⟨g, o, rfl, by have := hu.size; omega, fun j u hj => ?_⟩
  rw [World.cell?_of_block (w := w) (hu.block g h4 (fun e => hne (by rw [← e]; rfl)))]
  exact h5 j u hj
theorem found_parse {s : List UInt8} {v0 : Value} {w w' : World} {e : Ending} (h : ParseOut s w e w') : FoundOut (Urly.parse s) v0 w e w' := by
  rcases h with ⟨u, v, hp, he, ho, hl, hb⟩ | ⟨n, hp, he, hb⟩
  · exact .inl ⟨u, v, hp, (Urly.parse_size hp).1, he, Rd.own ho, far_own ho (Nat.le_refl _), hb⟩
  · exact .inr ⟨n, hp, parse_no0 hp, he, hb⟩
theorem found_beside {b : Urly.U} {v0 : Value} {r : List UInt8} {w w' : World} {e : Ending} (hs : Urly.Sz b) (hs2 : b.path.length ≤ 502 ∧ Urly.tot b.path ≤ 501) (hr : r.length ≤ 500) (h : BesideOut b v0 r w e w') : FoundOut (Urly.beside b r) v0 w e w' := by
  rcases h with ⟨u, v, hp, he, ho, hf, hb⟩ | ⟨n, hp, h0, he, hb⟩
  · exact .inl ⟨u, v, hp, Urly.beside_size hs hs2 hr hp, he, ho, hf, hb⟩
  · exact .inr ⟨n, hp, h0, he, hb⟩
set_option maxRecDepth 100000 in
set_option maxHeartbeats 8000000 in
theorem resolve_any (base ref : List UInt8) (w : World) (he : Env w) :
    Calls Tryz.prog 15 #[.string (byt base), .string (byt ref)] w (WriteOut (Urly.resolve base ref) w) := by
  have HE := Lib.hid he
  have HPB : Hid (Calls Tryz.prog 24 #[.string (byt base)] w (ParseOut base w)) := Lib.hid (parse_any base w he)
  have hz := byt_size ref
  have HSC : Hid (ref.length ≤ 1048576 → ∀ w1, Below w.heap.size w w1 → Calls Tryz.prog 45 #[.string (byt ref)] w1 fun e w' => (∃ X Y, e = .returned (.tuple #[.string X, .string Y, .bool (Urly.scheme ref).isSome])) ∧ Below w1.heap.size w1 w') := Lib.hid (fun h w1 h1 => scheme_is ref w1 h (he.below h1))
  have HHP : Hid (∀ w, Calls Tryz.prog 23 #[.string (byt ref), .string ⟨#[47, 47]⟩] w fun e w' => e = .returned (.bool (Urly.twoOff ref).isSome) ∧ w' = w) := Lib.hid (fun w => hasp_any ref w)
  have HPR : Hid (∀ w1, Below w.heap.size w w1 → Calls Tryz.prog 24 #[.string (byt ref)] w1 (ParseOut ref w1)) := Lib.hid (fun w1 h1 => parse_any ref w1 (he.below h1))
  have HPT : Hid (∀ (sch : List UInt8) (C : ByteArray) w1, byt (sch ++ 58 :: ref) = C → Below w.heap.size w w1 → Calls Tryz.prog 24 #[.string C] w1 (ParseOut (sch ++ 58 :: ref) w1)) := Lib.hid (fun sch C w1 hC h1 => by rw [← hC]; exact parse_any _ w1 (he.below h1))
  have HBD : Hid (∀ (b : Urly.U) (v : Value) w1, Urly.Sz b → b.path ≠ [] → b.path.length ≤ 502 → ref.length ≤ 500 → Below w.heap.size w w1 → Rd w1 1 (txts b.path) b.path.length v → Calls Tryz.prog 46 #[.agg (ucells b v), .string (byt ref)] w1 (BesideOut b v ref w1)) := Lib.hid (fun b v w1 h1 h2 h3 h4 h5 h6 => beside_any b v ref w1 h1 h2 h3 (he.below h5) h6 h4)
  have HCT : Hid (∀ sch : List UInt8, byt sch ++ ⟨#[58]⟩ ++ byt ref = byt (sch ++ 58 :: ref)) := Lib.hid (fun sch => by rw [show (⟨#[58]⟩ : ByteArray) = byt [58] from rfl, byt_append, byt_append]; simp)
  obtain ⟨BB, hBB⟩ : ∃ S, byt base = S := ⟨_, rfl⟩
  obtain ⟨RR, hRR⟩ : ∃ S, byt ref = S := ⟨_, rfl⟩
  rw [hBB] at HPB ⊢
  rw [hRR] at hz HSC HHP HPR HBD HCT ⊢
  have HZ := Lib.hid hz
  clear hBB hRR hz he
  go_enter Tryz.func15, Tryz.ntmps15
  go_wp2_with (fail)
  refine HPB.out.mono ?_
  rintro e w1 (⟨b, v, hp, rfl, hown, hlen, hw1⟩ | ⟨n, hp, rfl, hw1⟩)
  rotate_left
  · have HOR : Hid (Urly.resolve base ref = .error n) := Lib.hid (Urly.resolve_fail hp)
    have HW1 := Lib.hid hw1
    have hn0 : n ≠ 0 := parse_no0 hp
    obtain ⟨m, hm⟩ : ∃ m : Int, (n : Int) = m := ⟨_, rfl⟩
    have hm0 : (m != 0) = true := by rw [bne, beq_no (by omega)]; rfl
    have HM := Lib.hid hm
    rw [hm]
    clear hm hn0 hp hw1 HPB
    go_wp2_with (refine wpList_store_box rfl 47 (.tmp 6) (.tmp 16) rfl w1.heap.size uzero rfl rfl 47 _ (Box.new w1 _ _) info_url rfl uzero_one ?_; intro w3 hx3 hu3 hz3)
    have hb13 : Below w1.heap.size w1 w3 := (below1 w1 _).trans (hu3.own (Nat.le_refl _) (by simp))
    have HW3 : Hid (Below w.heap.size w w3) := Lib.hid (HW1.out.trans (hb13.mono HW1.out.size))
    go_returns
    exact writeOut_no HOR.out HM.out rfl HW3.out
  have HSZ := Lib.hid (Urly.parse_size hp)
  have HGD := Lib.hid (Urly.parse_good hp).1
  have HW1 := Lib.hid hw1
  have HPP := Lib.hid hp
  obtain ⟨A, cap, rfl⟩ := own_slice hown
  have HRD := Lib.hid (Rd.own hown)
  have HAB : Hid (∀ x, (Value.slice A b.path.length cap).ownBlock = some x → x < w1.heap.size) := Lib.hid (fun x hx => (hown.lt x hx).2)
  have h12 := ucells_one b A b.path.length cap
  have hisz : (Tryz.prog.info? 47).map (·.size) = some (ucells b (.slice A b.path.length cap)).size := info_url
  have HBDB := Lib.hid (HBD.out b (.slice A b.path.length cap))
  have hcsz : (8 : Nat) = (ucells b (.slice A b.path.length cap)).size := rfl
  have k0 : (ucells b (.slice A b.path.length cap))[0]? = some (.string (byt b.scheme)) := rfl
  obtain ⟨cs, hcs⟩ : ∃ cs, ucells b (.slice A b.path.length cap) = cs := ⟨_, rfl⟩
  rw [hcs] at h12 hisz HBDB hcsz k0 ⊢
  have HK0 := Lib.hid k0
  have HCZ := Lib.hid hcsz
  clear hcsz hcs hp hw1 hown hlen HBD HPB k0
  by_cases hlarge : 500 < ref.length
  · have HR := Lib.hid (res_large HPP.out hlarge)
    have d1 : decide ((RR.size : Int) > 500) = true := decide_eq_true (by rw [HZ.out]; omega)
    have d2 : (500 : Int) < (RR.size : Int) := by rw [HZ.out]; omega
    clear hlarge
    go_wp2_with (refine wpList_store_box rfl 47 (.tmp 6) (.tmp 16) rfl w1.heap.size cs rfl rfl 47 _ (Box.new w1 _ _) hisz (by rw [← HCZ.out]; rfl) h12 ?_; intro w3 hx3 hu3 hz3)
    have hb13 : Below w1.heap.size w1 w3 := (below1 w1 _).trans (hu3.own (Nat.le_refl _) (by simp))
    have HW3 : Hid (Below w.heap.size w w3) := Lib.hid (HW1.out.trans (hb13.mono HW1.out.size))
    go_returns
    exact writeOut_no HR.out (by rfl) rfl HW3.out
  have d1 : decide ((RR.size : Int) > 500) = false := decide_eq_false (by rw [HZ.out]; omega)
  have d2 : ¬ (500 : Int) < (RR.size : Int) := by rw [HZ.out]; omega
  have HSC1 := Lib.hid (HSC.out (by omega))
  have HLG := Lib.hid hlarge
  clear hlarge HSC
  go_wp2_with (refine wpList_store_box rfl 47 (.tmp 6) (.tmp 16) rfl w1.heap.size cs rfl rfl 47 _ (Box.new w1 _ _) hisz (by rw [← HCZ.out]; rfl) h12 ?_; intro w3 hx3 hu3 hz3; have HZ3 := Lib.hid hz3; clear hz3)
  have hb13 : Below w1.heap.size w1 w3 := (below1 w1 _).trans (hu3.own (Nat.le_refl _) (by simp))
  have hz13 : w1.heap.size < w3.heap.size := by rw [HZ3.out]; simp
  have HW3 : Hid (Below w.heap.size w (w3.alloc (.cells uzero 47))) := Lib.hid ((HW1.out.trans (hb13.mono HW1.out.size)).alloc (by have := HW1.out.size; omega) _)
  have HB3 : Hid (Box (w3.alloc (.cells uzero 47)) w1.heap.size 47 cs) := Lib.hid (hx3.alloc _)
  have HV3 : Hid (Box (w3.alloc (.cells uzero 47)) w3.heap.size 47 uzero) := Lib.hid (Box.new w3 _ _)
  have HRD3 : Hid (Rd (w3.alloc (.cells uzero 47)) 1 (txts b.path) b.path.length (.slice A b.path.length cap)) := Lib.hid ((HRD.out.below hb13).below (below1 w3 _))
  have hszz : w.heap.size ≤ w1.heap.size := HW1.out.size
  clear hb13 hu3 hx3 HZ3 HRD
  refine (HSC1.out _ HW3.out).mono ?_
  rintro e w4 ⟨⟨X, Y, rfl⟩, hw4⟩
  have HW4 : Hid (Below w.heap.size w w4) := Lib.hid (HW3.out.trans (hw4.mono HW3.out.size))
  have HB4 : Hid (Box w4 w1.heap.size 47 cs) := Lib.hid (HB3.out.below hw4 HB3.out.lt)
  have HV4 : Hid (Box w4 w3.heap.size 47 uzero) := Lib.hid (HV3.out.below hw4 HV3.out.lt)
  have HRD4 : Hid (Rd w4 1 (txts b.path) b.path.length (.slice A b.path.length cap)) := Lib.hid (HRD3.out.below hw4)
  have HT : Hid (∀ (u : Urly.U) (v : Value) w1, Urly.Sz u → Below w.heap.size w w1 → Rd w1 1 (txts u.path) u.path.length v → Calls Tryz.prog 47 #[.agg (ucells u v)] w1 (TextOut (Urly.text u) w1)) := Lib.hid (fun u v w1 hu h1 h2 => text_any u v w1 hu (HE.out.below h1) h2)
  clear hw4 HB3 HV3 HRD3 HW3 HSC1
  have k0 : w4.cell? ⟨w1.heap.size, 0, none⟩ = some (.string (byt b.scheme)) := (HB4.out.cell 0).trans HK0.out
  cases hsc : (Urly.scheme ref).isSome with
  | true =>
    have HEQ := Lib.hid (resU_sch HPP.out HLG.out hsc)
    clear hsc
    go_wp2_with (fail)
    refine (HPR.out _ HW4.out).mono ?_
    rintro e w5 hfo
    rcases (found_parse hfo) with ⟨u, v5, hr, hs5, rfl, hrd5, hfar, hb5⟩ | ⟨n, hr, hn0, rfl, hb5⟩
    rotate_left
    · have HOR : Hid (Urly.resolve base ref = .error n) := Lib.hid (res_err (HEQ.out.trans hr))
      have HW5 : Hid (Below w.heap.size w w5) := Lib.hid (HW4.out.trans (hb5.mono HW4.out.size))
      have HV5 : Hid (Box w5 w3.heap.size 47 uzero) := Lib.hid (HV4.out.below hb5 HV4.out.lt)
      obtain ⟨m, hm⟩ : ∃ m : Int, (n : Int) = m := ⟨_, rfl⟩
      have hm0 : (m != 0) = true := by rw [bne, beq_no (by omega)]; rfl
      have HM := Lib.hid hm
      rw [hm]
      clear hm hn0 hr hb5 hfo
      go_wp2_with (refine wpList_store_box rfl 47 (.tmp 8) (.tmp 34) rfl w3.heap.size uzero rfl rfl 47 _ HV5.out info_url rfl uzero_one ?_; intro w6 hx6 hu6 hz6)
      have HW6 : Hid (Below w.heap.size w w6) := Lib.hid (HW5.out.trans (hu6.own (by omega) HW5.out.size))
      go_returns
      exact writeOut_no HOR.out HM.out rfl HW6.out
    have HRU := Lib.hid (HEQ.out.trans hr)
    have HW5 : Hid (Below w.heap.size w w5) := Lib.hid (HW4.out.trans (hb5.mono HW4.out.size))
    have HV5 : Hid (Box w5 w3.heap.size 47 uzero) := Lib.hid (HV4.out.below hb5 HV4.out.lt)
    obtain ⟨A5, cap5, rfl⟩ : ∃ A c, v5 = .slice A u.path.length c := by
      obtain ⟨A, c, e, _⟩ := hrd5
      exact ⟨A, c, e⟩
    have h52 := ucells_one u A5 u.path.length cap5
    have hisz5 : (Tryz.prog.info? 47).map (·.size) = some (ucells u (.slice A5 u.path.length cap5)).size := info_url
    have hcsz5 : uzero.size = (ucells u (.slice A5 u.path.length cap5)).size := rfl
    have HTU := Lib.hid (fun w1 h1 h2 => HT.out u (.slice A5 u.path.length cap5) w1 hs5 h1 h2)
    have HRD5 := Lib.hid hrd5
    have HAP : Hid ((Value.slice A5 u.path.length cap5).ownBlock ≠ some w3.heap.size) := Lib.hid (fun e => by
      rcases hfar _ e with h | h
      · have := HAB.out _ h; omega
      · have := HV4.out.lt; omega)
    unfold TextOut at HTU
    have htz := byt_size (Urly.text u)
    obtain ⟨T, hTT⟩ : ∃ T, byt (Urly.text u) = T := ⟨_, rfl⟩
    rw [hTT] at HTU htz
    have HTT := Lib.hid hTT
    have HTZ := Lib.hid htz
    obtain ⟨c5, hc5⟩ : ∃ c, ucells u (.slice A5 u.path.length cap5) = c := ⟨_, rfl⟩
    rw [hc5] at h52 hisz5 hcsz5 HTU ⊢
    have HCZ5 := Lib.hid hcsz5
    clear hr hs5 hrd5 hb5 hfar hfo hTT htz hcsz5 hc5 HT HB4 HV4 HRD4 HW4
    by_cases hlong : 500 < (Urly.text u).length
    · have HOR := Lib.hid (res_long HRU.out hlong)
      have t1 : decide ((T.size : Int) > 500) = true := decide_eq_true (by rw [HTZ.out]; omega)
      have t2 : (500 : Int) < (T.size : Int) := by rw [HTZ.out]; omega
      clear hlong
      go_wp2_with (first | (refine wpList_store_box rfl 47 (.tmp 8) (.tmp 34) rfl w3.heap.size c5 rfl rfl 47 _ HV5.out hisz5 HCZ5.out h52 ?_; intro w6 hx6 hu6 hz6) | (refine wpList_load_row rfl 47 (.tmp 8) rfl w3.heap.size rfl _ c5 (0, 0) _ hx6 Tryz.underlying47 rfl hisz5 ?_))
      have HW6 : Hid (Below w.heap.size w w6) := Lib.hid (HW5.out.trans (hu6.own (by omega) HW5.out.size))
      have HRD6 := Lib.hid (rd_upd HRD5.out hu6 HAP.out)
      clear hx6 hu6 hz6
      refine (HTU.out _ HW6.out HRD6.out).mono ?_
      rintro e w7 ⟨rfl, hw7⟩
      have HW7 := Lib.hid (HW6.out.trans (hw7.mono HW6.out.size))
      clear hw7
      go_wp2
      go_returns
      exact writeOut_no HOR.out (by rfl) rfl HW7.out
    · have HOR := Lib.hid (res_ok HRU.out hlong)
      have t1 : decide ((T.size : Int) > 500) = false := decide_eq_false (by rw [HTZ.out]; omega)
      have t2 : ¬ (500 : Int) < (T.size : Int) := by rw [HTZ.out]; omega
      clear hlong
      go_wp2_with (first | (refine wpList_store_box rfl 47 (.tmp 8) (.tmp 34) rfl w3.heap.size c5 rfl rfl 47 _ HV5.out hisz5 HCZ5.out h52 ?_; intro w6 hx6 hu6 hz6) | (refine wpList_load_row rfl 47 (.tmp 8) rfl w3.heap.size rfl _ c5 (0, 0) _ hx6 Tryz.underlying47 rfl hisz5 ?_))
      have HW6 : Hid (Below w.heap.size w w6) := Lib.hid (HW5.out.trans (hu6.own (by omega) HW5.out.size))
      have HRD6 := Lib.hid (rd_upd HRD5.out hu6 HAP.out)
      clear hx6 hu6 hz6
      refine (HTU.out _ HW6.out HRD6.out).mono ?_
      rintro e w7 ⟨rfl, hw7⟩
      have HW7 := Lib.hid (HW6.out.trans (hw7.mono HW6.out.size))
      clear hw7
      go_wp2
      go_returns
      exact writeOut_ok HOR.out HTT.out rfl HW7.out
  | false =>
    cases htw : (Urly.twoOff ref).isSome with
    | true =>
      have HEQ := Lib.hid (resU_two HPP.out HLG.out hsc htw)
      rw [htw] at HHP
      have q1 := byt_size b.scheme
      have q2 := HSZ.out.1.scheme
      have hcat := HCT.out b.scheme
      have q3 : RR.size ≤ 500 := by rw [HZ.out]; have := HLG.out; omega
      obtain ⟨C, hC⟩ : ∃ C, byt b.scheme = C := ⟨_, rfl⟩
      rw [hC] at hcat q1 k0
      have q4 : C.size ≤ 500 := by omega
      obtain ⟨J, hJ⟩ : ∃ J, byt (b.scheme ++ 58 :: ref) = J := ⟨_, rfl⟩
      have HJP := Lib.hid (fun w1 h1 => HPT.out b.scheme J w1 hJ h1)
      rw [hJ] at hcat
      have HCAT := Lib.hid hcat
      clear hsc htw hC hJ hcat q1 q2
      go_wp2_with (fail)
      refine (HHP.out _).mono ?_
      rintro e wr ⟨rfl, rfl⟩
      go_wp2_with (fail)
      rw [HCAT.out]
      refine (HJP.out _ HW4.out).mono ?_
      rintro e w5 hfo
      rcases (found_parse hfo) with ⟨u, v5, hr, hs5, rfl, hrd5, hfar, hb5⟩ | ⟨n, hr, hn0, rfl, hb5⟩
      rotate_left
      · have HOR : Hid (Urly.resolve base ref = .error n) := Lib.hid (res_err (HEQ.out.trans hr))
        have HW5 : Hid (Below w.heap.size w w5) := Lib.hid (HW4.out.trans (hb5.mono HW4.out.size))
        have HV5 : Hid (Box w5 w3.heap.size 47 uzero) := Lib.hid (HV4.out.below hb5 HV4.out.lt)
        obtain ⟨m, hm⟩ : ∃ m : Int, (n : Int) = m := ⟨_, rfl⟩
        have hm0 : (m != 0) = true := by rw [bne, beq_no (by omega)]; rfl
        have HM := Lib.hid hm
        rw [hm]
        clear hm hn0 hr hb5 hfo
        go_wp2_with (refine wpList_store_box rfl 47 (.tmp 8) (.tmp 45) rfl w3.heap.size uzero rfl rfl 47 _ HV5.out info_url rfl uzero_one ?_; intro w6 hx6 hu6 hz6)
        have HW6 : Hid (Below w.heap.size w w6) := Lib.hid (HW5.out.trans (hu6.own (by omega) HW5.out.size))
        go_returns
        exact writeOut_no HOR.out HM.out rfl HW6.out
      have HRU := Lib.hid (HEQ.out.trans hr)
      have HW5 : Hid (Below w.heap.size w w5) := Lib.hid (HW4.out.trans (hb5.mono HW4.out.size))
      have HV5 : Hid (Box w5 w3.heap.size 47 uzero) := Lib.hid (HV4.out.below hb5 HV4.out.lt)
      obtain ⟨A5, cap5, rfl⟩ : ∃ A c, v5 = .slice A u.path.length c := by
        obtain ⟨A, c, e, _⟩ := hrd5
        exact ⟨A, c, e⟩
      have h52 := ucells_one u A5 u.path.length cap5
      have hisz5 : (Tryz.prog.info? 47).map (·.size) = some (ucells u (.slice A5 u.path.length cap5)).size := info_url
      have hcsz5 : uzero.size = (ucells u (.slice A5 u.path.length cap5)).size := rfl
      have HTU := Lib.hid (fun w1 h1 h2 => HT.out u (.slice A5 u.path.length cap5) w1 hs5 h1 h2)
      have HRD5 := Lib.hid hrd5
      have HAP : Hid ((Value.slice A5 u.path.length cap5).ownBlock ≠ some w3.heap.size) := Lib.hid (fun e => by
        rcases hfar _ e with h | h
        · have := HAB.out _ h; omega
        · have := HV4.out.lt; omega)
      unfold TextOut at HTU
      have htz := byt_size (Urly.text u)
      obtain ⟨T, hTT⟩ : ∃ T, byt (Urly.text u) = T := ⟨_, rfl⟩
      rw [hTT] at HTU htz
      have HTT := Lib.hid hTT
      have HTZ := Lib.hid htz
      obtain ⟨c5, hc5⟩ : ∃ c, ucells u (.slice A5 u.path.length cap5) = c := ⟨_, rfl⟩
      rw [hc5] at h52 hisz5 hcsz5 HTU ⊢
      have HCZ5 := Lib.hid hcsz5
      clear hr hs5 hrd5 hb5 hfar hfo hTT htz hcsz5 hc5 HT HB4 HV4 HRD4 HW4
      by_cases hlong : 500 < (Urly.text u).length
      · have HOR := Lib.hid (res_long HRU.out hlong)
        have t1 : decide ((T.size : Int) > 500) = true := decide_eq_true (by rw [HTZ.out]; omega)
        have t2 : (500 : Int) < (T.size : Int) := by rw [HTZ.out]; omega
        clear hlong
        go_wp2_with (first | (refine wpList_store_box rfl 47 (.tmp 8) (.tmp 45) rfl w3.heap.size c5 rfl rfl 47 _ HV5.out hisz5 HCZ5.out h52 ?_; intro w6 hx6 hu6 hz6) | (refine wpList_load_row rfl 47 (.tmp 8) rfl w3.heap.size rfl _ c5 (0, 0) _ hx6 Tryz.underlying47 rfl hisz5 ?_))
        have HW6 : Hid (Below w.heap.size w w6) := Lib.hid (HW5.out.trans (hu6.own (by omega) HW5.out.size))
        have HRD6 := Lib.hid (rd_upd HRD5.out hu6 HAP.out)
        clear hx6 hu6 hz6
        refine (HTU.out _ HW6.out HRD6.out).mono ?_
        rintro e w7 ⟨rfl, hw7⟩
        have HW7 := Lib.hid (HW6.out.trans (hw7.mono HW6.out.size))
        clear hw7
        go_wp2
        go_returns
        exact writeOut_no HOR.out (by rfl) rfl HW7.out
      · have HOR := Lib.hid (res_ok HRU.out hlong)
        have t1 : decide ((T.size : Int) > 500) = false := decide_eq_false (by rw [HTZ.out]; omega)
        have t2 : ¬ (500 : Int) < (T.size : Int) := by rw [HTZ.out]; omega
        clear hlong
        go_wp2_with (first | (refine wpList_store_box rfl 47 (.tmp 8) (.tmp 45) rfl w3.heap.size c5 rfl rfl 47 _ HV5.out hisz5 HCZ5.out h52 ?_; intro w6 hx6 hu6 hz6) | (refine wpList_load_row rfl 47 (.tmp 8) rfl w3.heap.size rfl _ c5 (0, 0) _ hx6 Tryz.underlying47 rfl hisz5 ?_))
        have HW6 : Hid (Below w.heap.size w w6) := Lib.hid (HW5.out.trans (hu6.own (by omega) HW5.out.size))
        have HRD6 := Lib.hid (rd_upd HRD5.out hu6 HAP.out)
        clear hx6 hu6 hz6
        refine (HTU.out _ HW6.out HRD6.out).mono ?_
        rintro e w7 ⟨rfl, hw7⟩
        have HW7 := Lib.hid (HW6.out.trans (hw7.mono HW6.out.size))
        clear hw7
        go_wp2
        go_returns
        exact writeOut_ok HOR.out HTT.out rfl HW7.out
    | false =>
      have HEQ := Lib.hid (resU_bes HPP.out HLG.out hsc htw)
      rw [htw] at HHP
      have HBB := Lib.hid (HBDB.out w4 HSZ.out.1 HGD.out.pth HSZ.out.2.1 (by have := HLG.out; omega) HW4.out HRD4.out)
      clear hsc htw
      go_wp2_with (fail)
      refine (HHP.out _).mono ?_
      rintro e wr ⟨rfl, rfl⟩
      go_wp2_with (refine wpList_load_row rfl 47 (.tmp 6) rfl w1.heap.size rfl _ cs (0, 0) _ HB4.out Tryz.underlying47 rfl hisz ?_)
      refine HBB.out.mono ?_
      rintro e w5 hfo
      rcases (found_beside HSZ.out.1 HSZ.out.2 (by have := HLG.out; omega) hfo) with ⟨u, v5, hr, hs5, rfl, hrd5, hfar, hb5⟩ | ⟨n, hr, hn0, rfl, hb5⟩
      rotate_left
      · have HOR : Hid (Urly.resolve base ref = .error n) := Lib.hid (res_err (HEQ.out.trans hr))
        have HW5 : Hid (Below w.heap.size w w5) := Lib.hid (HW4.out.trans (hb5.mono HW4.out.size))
        have HV5 : Hid (Box w5 w3.heap.size 47 uzero) := Lib.hid (HV4.out.below hb5 HV4.out.lt)
        obtain ⟨m, hm⟩ : ∃ m : Int, (n : Int) = m := ⟨_, rfl⟩
        have hm0 : (m != 0) = true := by rw [bne, beq_no (by omega)]; rfl
        have HM := Lib.hid hm
        rw [hm]
        clear hm hn0 hr hb5 hfo
        go_wp2_with (refine wpList_store_box rfl 47 (.tmp 8) (.tmp 51) rfl w3.heap.size uzero rfl rfl 47 _ HV5.out info_url rfl uzero_one ?_; intro w6 hx6 hu6 hz6)
        have HW6 : Hid (Below w.heap.size w w6) := Lib.hid (HW5.out.trans (hu6.own (by omega) HW5.out.size))
        go_returns
        exact writeOut_no HOR.out HM.out rfl HW6.out
      have HRU := Lib.hid (HEQ.out.trans hr)
      have HW5 : Hid (Below w.heap.size w w5) := Lib.hid (HW4.out.trans (hb5.mono HW4.out.size))
      have HV5 : Hid (Box w5 w3.heap.size 47 uzero) := Lib.hid (HV4.out.below hb5 HV4.out.lt)
      obtain ⟨A5, cap5, rfl⟩ : ∃ A c, v5 = .slice A u.path.length c := by
        obtain ⟨A, c, e, _⟩ := hrd5
        exact ⟨A, c, e⟩
      have h52 := ucells_one u A5 u.path.length cap5
      have hisz5 : (Tryz.prog.info? 47).map (·.size) = some (ucells u (.slice A5 u.path.length cap5)).size := info_url
      have hcsz5 : uzero.size = (ucells u (.slice A5 u.path.length cap5)).size := rfl
      have HTU := Lib.hid (fun w1 h1 h2 => HT.out u (.slice A5 u.path.length cap5) w1 hs5 h1 h2)
      have HRD5 := Lib.hid hrd5
      have HAP : Hid ((Value.slice A5 u.path.length cap5).ownBlock ≠ some w3.heap.size) := Lib.hid (fun e => by
        rcases hfar _ e with h | h
        · have := HAB.out _ h; omega
        · have := HV4.out.lt; omega)
      unfold TextOut at HTU
      have htz := byt_size (Urly.text u)
      obtain ⟨T, hTT⟩ : ∃ T, byt (Urly.text u) = T := ⟨_, rfl⟩
      rw [hTT] at HTU htz
      have HTT := Lib.hid hTT
      have HTZ := Lib.hid htz
      obtain ⟨c5, hc5⟩ : ∃ c, ucells u (.slice A5 u.path.length cap5) = c := ⟨_, rfl⟩
      rw [hc5] at h52 hisz5 hcsz5 HTU ⊢
      have HCZ5 := Lib.hid hcsz5
      clear hr hs5 hrd5 hb5 hfar hfo hTT htz hcsz5 hc5 HT HB4 HV4 HRD4 HW4
      by_cases hlong : 500 < (Urly.text u).length
      · have HOR := Lib.hid (res_long HRU.out hlong)
        have t1 : decide ((T.size : Int) > 500) = true := decide_eq_true (by rw [HTZ.out]; omega)
        have t2 : (500 : Int) < (T.size : Int) := by rw [HTZ.out]; omega
        clear hlong
        go_wp2_with (first | (refine wpList_store_box rfl 47 (.tmp 8) (.tmp 51) rfl w3.heap.size c5 rfl rfl 47 _ HV5.out hisz5 HCZ5.out h52 ?_; intro w6 hx6 hu6 hz6) | (refine wpList_load_row rfl 47 (.tmp 8) rfl w3.heap.size rfl _ c5 (0, 0) _ hx6 Tryz.underlying47 rfl hisz5 ?_))
        have HW6 : Hid (Below w.heap.size w w6) := Lib.hid (HW5.out.trans (hu6.own (by omega) HW5.out.size))
        have HRD6 := Lib.hid (rd_upd HRD5.out hu6 HAP.out)
        clear hx6 hu6 hz6
        refine (HTU.out _ HW6.out HRD6.out).mono ?_
        rintro e w7 ⟨rfl, hw7⟩
        have HW7 := Lib.hid (HW6.out.trans (hw7.mono HW6.out.size))
        clear hw7
        go_wp2
        go_returns
        exact writeOut_no HOR.out (by rfl) rfl HW7.out
      · have HOR := Lib.hid (res_ok HRU.out hlong)
        have t1 : decide ((T.size : Int) > 500) = false := decide_eq_false (by rw [HTZ.out]; omega)
        have t2 : ¬ (500 : Int) < (T.size : Int) := by rw [HTZ.out]; omega
        clear hlong
        go_wp2_with (first | (refine wpList_store_box rfl 47 (.tmp 8) (.tmp 51) rfl w3.heap.size c5 rfl rfl 47 _ HV5.out hisz5 HCZ5.out h52 ?_; intro w6 hx6 hu6 hz6) | (refine wpList_load_row rfl 47 (.tmp 8) rfl w3.heap.size rfl _ c5 (0, 0) _ hx6 Tryz.underlying47 rfl hisz5 ?_))
        have HW6 : Hid (Below w.heap.size w w6) := Lib.hid (HW5.out.trans (hu6.own (by omega) HW5.out.size))
        have HRD6 := Lib.hid (rd_upd HRD5.out hu6 HAP.out)
        clear hx6 hu6 hz6
        refine (HTU.out _ HW6.out HRD6.out).mono ?_
        rintro e w7 ⟨rfl, hw7⟩
        have HW7 := Lib.hid (HW6.out.trans (hw7.mono HW6.out.size))
        clear hw7
        go_wp2
        go_returns
        exact writeOut_ok HOR.out HTT.out rfl HW7.out
end Go.Proofs.YtlepbooegofoeaaGreatDoor
