/-
  Contracts in one shape; trails live. Conditions: as each says.
-/
import Derived.Test.YtdolmjeiakdfhaaGreatDoorTrJ
import Derived.WalkKit
namespace Go.Proofs.YtdolmjeiakdfhaaGreatDoor
set_option linter.unusedSimpArgs false
set_option linter.unusedVariables false
open Go.RowKit
open Traily (Ent T)

/-- a trail and a number, as told. -/
def TRes (r : Except Nat T) (w : World) (e : Ending) (w' : World) : Prop :=
  ∃ (t : T) (A : Option Addr) (c : Nat) (m : Int), e = .returned (.tuple #[.agg (tc (.slice A t.ents.length c) t.at'), .int .i64 m]) ∧ ((m = 0 ∧ r = .ok t) ∨ (m ≠ 0 ∧ (∃ n : Nat, r = .error n ∧ m = n) ∧ t = ⟨[], 0⟩)) ∧ TrRd w' t (.slice A t.ents.length c) ∧ Below w.heap.size w w'
theorem tRes_of {r : Except Nat T} {w w' : World} {e : Ending} (h : TrOut r w e w') : TRes r w e w' := by
  rcases h with ⟨t, u, hr, he, ho, hb⟩ | ⟨n, hr, hn, he, hb⟩
  · have hrd := Rd.own ho
    obtain ⟨A, c, rfl⟩ := own_slice ho
    exact ⟨t, A, c, 0, he, .inl ⟨rfl, hr⟩, hrd, hb⟩
  · exact ⟨⟨[], 0⟩, none, 0, n, he, .inr ⟨by omega, ⟨n, hr, rfl⟩, rfl⟩, ⟨none, 0, rfl, Nat.le_refl _, by omega, fun h => absurd h (by simp)⟩, hb⟩
def GRes (r : Except Nat (T × Bool)) (w : World) (e : Ending) (w' : World) : Prop :=
  ∃ (t : T) (A : Option Addr) (c : Nat) (b : Bool) (m : Int), e = .returned (.tuple #[.agg (tc (.slice A t.ents.length c) t.at'), .bool b, .int .i64 m]) ∧ ((m = 0 ∧ r = .ok (t, b)) ∨ (m ≠ 0 ∧ (∃ n : Nat, r = .error n ∧ m = n) ∧ t = ⟨[], 0⟩)) ∧ TrRd w' t (.slice A t.ents.length c) ∧ Below w.heap.size w w'
theorem gRes_of {r : Except Nat (T × Bool)} {w w' : World} {e : Ending} (h : GoOut r w e w') : GRes r w e w' := by
  rcases h with ⟨t, b, u, hr, he, ho, hb⟩ | ⟨n, hr, hn, he, hb⟩
  · have hrd := Rd.own ho
    obtain ⟨A, c, rfl⟩ := own_slice ho
    exact ⟨t, A, c, b, 0, he, .inl ⟨rfl, hr⟩, hrd, hb⟩
  · exact ⟨⟨[], 0⟩, none, 0, false, n, he, .inr ⟨by omega, ⟨n, hr, rfl⟩, rfl⟩, ⟨none, 0, rfl, Nat.le_refl _, by omega, fun h => absurd h (by simp)⟩, hb⟩
theorem loadC (t : T) (v : Value) (ref : List UInt8) (w : World) (he : Env w) (hv : TrRd w t v) : Calls Tryz.prog 14 #[.agg (tc v t.at'), .string (byt ref)] w (TRes (Traily.load t ref) w) := (load_any t v ref w he hv).mono fun _ _ h => tRes_of h
theorem pushC (t : T) (v : Value) (ref st : List UInt8) (w : World) (he : Env w) (hv : TrRd w t v) : Calls Tryz.prog 15 #[.agg (tc v t.at'), .string (byt ref), .string (byt st)] w (TRes (Traily.push t ref st) w) := (push_any t v ref st w he hv).mono fun _ _ h => tRes_of h
theorem replC (t : T) (v : Value) (ref st : List UInt8) (w : World) (he : Env w) (hv : TrRd w t v) : Calls Tryz.prog 18 #[.agg (tc v t.at'), .string (byt ref), .string (byt st)] w (TRes (Traily.replace t ref st) w) := (replace_any t v ref st w he hv).mono fun _ _ h => tRes_of h
theorem goC (t : T) (v : Value) (n : Int) (w : World) (he : Env w) (hv : TrRd w t v) (hn0 : -9223372036854775808 ≤ n) (hn1 : n ≤ 9223372036854775807) : Calls Tryz.prog 17 #[.agg (tc v t.at'), .int .i64 n] w (GRes (Traily.go t n) w) := (go_any t v n w he hv hn0 hn1).mono fun _ _ h => gRes_of h
set_option maxRecDepth 100000 in
set_option maxHeartbeats 8000000 in
theorem start_any (s : List UInt8) (w : World) (he : Env w) :
    Calls Tryz.prog 31 #[.string (byt s)] w (TrOut (Traily.start s) w) := by
  have HRS : Hid (ResC s s w) := Lib.hid (resC s s w he)
  have HRS : Hid (∀ w1, Below w.heap.size w w1 → ResC s s w1) := Lib.hid (fun w1 h => resC s s w1 (he.below h))
  unfold ResC at HRS
  obtain ⟨S, hS⟩ : ∃ S, byt s = S := ⟨_, rfl⟩
  rw [hS] at HRS ⊢
  clear hS he
  go_enter Tryz.func31, Tryz.ntmps31
  go_upto_region 1 with (fail)
  refine gen_world (F := fun W => Box W w.heap.size 41 #[.slice none 0 0, .int .i64 0] ∧ Below w.heap.size w W) ⟨Box.new w _ _, below1 w _⟩ ?_
  rintro W0 ⟨r0, hU⟩
  have HU0 := Lib.hid hU
  have HR0 := Lib.hid r0
  clear hU r0
  go_wp2_with (fail)
  refine (HRS.out _ HU0.out).mono ?_
  rintro e w1 ⟨c, m, rfl, ht, hb1⟩
  have HU1 := Lib.hid (HU0.out.trans (hb1.mono HU0.out.size))
  have HR1 := Lib.hid (HR0.out.below hb1 HR0.out.lt)
  clear hb1
  rcases ht with ⟨rfl, hr⟩ | ⟨hm, rfl, n, hr, hmn⟩
  · have HL : Hid (Traily.start s = .ok ⟨[⟨c, [], 0⟩], 0⟩) := Lib.hid (by unfold Traily.start; rw [hr])
    have hbx := Box.new w1 48 #[.string (byt c), .string ⟨#[]⟩, .int .i64 0]
    have HBX := Lib.hid hbx
    have hz1 := HR1.out.lt
    clear hr hbx
    go_wp2_with (refine wpList_store_box rfl 41 (.tmp 2) (.tmp 19) rfl (w.heap.size) #[.slice (some ⟨w1.heap.size, 0, none⟩) 1 1, .int .i64 0] rfl rfl 41 _ (HR1.out.alloc _) info_trl rfl (tc_one _ _ _ _) ?_; intro wz hxz huz hzz; have HZZ := Lib.hid hzz; clear hzz)
    refine bodyPost_ret (results_box_tmp rfl _ _ (w.heap.size) 41 _ _ rfl hxz Tryz.underlying41 rfl info_trl) rfl ?_
    have hbz := Box.grown HBX.out huz (by intro h; injection h with h; omega)
    refine .inl ⟨_, _, HL.out, rfl, ?_, ?_⟩
    · exact box_own (cur := (ec ⟨c, [], 0⟩).toList) (by omega) hbz (Nat.le_refl _) (by decide) rfl rfl rfl
    · exact (HU1.out.alloc HU1.out.size _).trans (huz.own (Nat.le_refl _) (by have := HU1.out.size; simp; omega))
  · have HL : Hid (Traily.start s = .error n) := Lib.hid (by unfold Traily.start; rw [hr])
    have g1 : (m != 0) = true := by rw [bne_iff_ne]; exact hm
    have HM := Lib.hid hm
    have HMN := Lib.hid hmn
    clear hr hm hmn
    go_wp2_with (refine wpList_store_box rfl 41 (.tmp 2) (.tmp 14) rfl (w.heap.size) #[.slice none 0 0, .int .i64 0] rfl rfl 41 _ HR1.out info_trl rfl (tc_one _ _ _ _) ?_; intro wz hxz huz hzz; have HZZ := Lib.hid hzz; clear hzz)
    refine bodyPost_ret (results_box_tmp rfl _ _ (w.heap.size) 41 _ _ rfl hxz Tryz.underlying41 rfl info_trl) rfl ?_
    exact trOut_err HL.out HMN.out HM.out rfl (HU1.out.trans (huz.own (Nat.le_refl _) HU1.out.size))
set_option maxRecDepth 100000 in
set_option maxHeartbeats 8000000 in
theorem sametrail_any (a b : T) (va vb : Value) (w : World) (ha : TrRd w a va) (hb : TrRd w b vb) (hla : a.ents.length ≤ 50) (hlb : b.ents.length ≤ 50) :
    Calls Tryz.prog 20 #[.agg (tc va a.at'), .agg (tc vb b.at')] w (BoolOut (decide (a = b)) w) := by
  have HEQ : Hid (∀ w1, Below w.heap.size w w1 → Calls Tryz.prog 38 #[va, vb] w1 fun e w' => e = .returned (.bool (decide (a.ents = b.ents))) ∧ Below w1.heap.size w1 w') := Lib.hid (fun w1 h => equal_ent a.ents b.ents va vb w1 (ha.below h) (hb.below h) (by omega) (by omega))
  have hdec : Hid (decide (a = b) = (decide (a.at' = b.at') && decide (a.ents = b.ents))) := Lib.hid (by
    obtain ⟨x, y⟩ := a
    obtain ⟨x', y'⟩ := b
    rw [Bool.eq_iff_iff]; simp [and_comm])
  obtain ⟨x, hx⟩ : ∃ x, a.at' = x := ⟨_, rfl⟩
  obtain ⟨z, hz⟩ : ∃ x, b.at' = x := ⟨_, rfl⟩
  obtain ⟨q, hq⟩ : ∃ x, decide (a.ents = b.ents) = x := ⟨_, rfl⟩
  rw [hx, hz, hq] at hdec
  rw [hq] at HEQ
  rw [hx, hz]
  clear hx hz hq ha hb hla hlb
  go_enter Tryz.func20, Tryz.ntmps20
  go_upto_region 1 with (fail)
  refine gen_world (F := fun W => Box W w.heap.size 41 (tc va x) ∧ Box W (w.heap.size + 1) 41 (tc vb z) ∧ Below w.heap.size w W) ⟨(Box.new w _ _).alloc _, by have := Box.new (w.alloc (.cells (tc va x) 41)) 41 (tc vb z); simpa using this, (below1 w _).alloc (by simp) _⟩ ?_
  rintro W0 ⟨b0, b1, hU⟩
  have c0 := b0.cell 0
  have c1 := b0.cell 1
  have d0 := b1.cell 0
  have d1 := b1.cell 1
  simp [tc] at c0 c1 d0 d1
  have HU0 := Lib.hid hU
  clear hU b0 b1
  by_cases y : x = z
  · have e1 : (x == z) = true := by simp [y]
    have HD : Hid (decide (a = b) = q) := Lib.hid (by rw [hdec.out, decide_eq_true y]; rfl)
    clear y
    go_wp2_with (fail)
    refine (HEQ.out _ HU0.out).mono ?_
    rintro e w1 ⟨rfl, hb1⟩
    have HU1 := Lib.hid (HU0.out.trans (hb1.mono HU0.out.size))
    clear hb1
    go_wp2
    go_ret
    exact ⟨by rw [HD.out] <;> rfl, HU1.out⟩
  · have e1 : (x == z) = false := by rw [beq_eq_false_iff_ne]; exact y
    have HD : Hid (decide (a = b) = false) := Lib.hid (by rw [hdec.out, decide_eq_false y]; rfl)
    clear y
    go_wp2
    go_ret
    exact ⟨by rw [HD.out] <;> rfl, HU0.out⟩
theorem all_hit {α : Type} {p : α → Bool} {l : List α} {k : Nat} {x : α} (h : l[k]? = some x) (hp : p x = false) : l.all p = false := by
  rw [List.all_eq_false]
  exact ⟨x, List.mem_of_getElem? h, by rw [hp]; simp⟩
theorem all_yes {α : Type} {p : α → Bool} {l : List α} (h : ∀ (j : Nat) (y : α), l[j]? = some y → p y = true) : l.all p = true := by
  rw [List.all_eq_true]
  intro x hx
  obtain ⟨j, hj⟩ := List.getElem?_of_mem hx
  exact h j x hj
def errs (l : List Int) : Array Value := (l.map (Value.int .i64)).toArray
set_option maxHeartbeats 2000000 in
theorem ok_any (l : List Int) (b : Nat) (w : World) (hb : Box w b 24 (errs l)) (hl : l.length ≤ 100) :
    Calls Tryz.prog 11 #[.slice (some ⟨b, 0, none⟩) l.length l.length] w fun e w' => e = .returned (.bool (l.all fun n => decide (n = 0))) ∧ w' = w := by
  have HB := Lib.hid hb
  obtain ⟨n, hn⟩ : ∃ n, l.length = n := ⟨_, rfl⟩
  have HN := Lib.hid hn
  rw [hn] at hl ⊢
  clear hb hn
  go_enter Tryz.func11, Tryz.ntmps11
  go_upto_region 2 with (fail)
  go_loopg [4, 7] n (fun gg _ s7 wr => ∃ j : Nat, j ≤ n ∧ n - j ≤ gg ∧ s7 = .int .i64 (j : Int) ∧ wr = w ∧ Hid (∀ (i : Nat) (x : Int), i < j → l[i]? = some x → x = 0))
  case atStart => exact ⟨0, Nat.zero_le _, by omega, rfl, rfl, fun i x hi => absurd hi (Nat.not_lt_zero _)⟩
  case round =>
    obtain ⟨j, hj, hgg, rfl, rfl, AA⟩ := hrel
    by_cases hlt : j < n
    · have hlt2 : decide ((j : Int) < (n : Int)) = true := decide_eq_true (by omega)
      have hltz : (j : Int) < (n : Int) := by omega
      obtain ⟨x, hx⟩ : ∃ x, l[j]? = some x := ⟨_, List.getElem?_eq_getElem (by rw [HN.out]; exact hlt)⟩
      have cx : wr.cell? ⟨b, j, none⟩ = some (.int .i64 x) := by
        rw [HB.out.cell j]
        simp [errs, hx]
      have HX := Lib.hid hx
      clear hx
      by_cases y : x = 0
      · subst y
        go_wp2
        go_roundg (n - (j + 1))
        case measure => omega
        case rel =>
          refine ⟨j + 1, by omega, by omega, by go_num, rfl, (show Hid _ from fun i x hi hx => ?_)⟩
          by_cases e : i = j
          · subst e
            have := HX.out
            rw [hx] at this
            injection this
          · exact AA.out i x (by omega) hx
      · have e1 : (x != 0) = true := by simp [y]
        have Y := Lib.hid y
        clear y
        go_wp2
        go_ret
        exact ⟨ret_bool (all_hit HX.out (decide_eq_false Y.out)).symm, rfl⟩
    · have hlt2 : decide ((j : Int) < (n : Int)) = false := decide_eq_false (by omega)
      go_wp2
      go_ret
      exact ⟨ret_bool (all_yes (fun i x hi => decide_eq_true (AA.out i x (by have := (List.getElem?_eq_some_iff.1 hi).1; have := HN.out; omega) hi))).symm, rfl⟩
end Go.Proofs.YtdolmjeiakdfhaaGreatDoor

namespace Traily
abbrev sA : Urly.Bs := [104, 116, 116, 112, 58, 47, 47, 65, 47, 120]
abbrev ax : Urly.Bs := [104, 116, 116, 112, 58, 47, 47, 97, 47, 120]
abbrev ay : Urly.Bs := [104, 116, 116, 112, 58, 47, 47, 97, 47, 121]
abbrev az : Urly.Bs := [104, 116, 116, 112, 58, 47, 47, 97, 47, 121, 35, 122]
theorem lives1 : start sA = .ok ⟨[⟨ax, [], 0⟩], 0⟩ := by kernel_rfl
theorem lives2 : load ⟨[⟨ax, [], 0⟩], 0⟩ [121] = .ok ⟨[⟨ax, [], 0⟩, ⟨ay, [], 1⟩], 1⟩ := by kernel_rfl
theorem lives3 : push ⟨[⟨ax, [], 0⟩, ⟨ay, [], 1⟩], 1⟩ [35, 122] [115] = .ok ⟨[⟨ax, [], 0⟩, ⟨ay, [], 1⟩, ⟨az, [115], 1⟩], 2⟩ := by kernel_rfl
theorem lives4 : go ⟨[⟨ax, [], 0⟩, ⟨ay, [], 1⟩, ⟨az, [115], 1⟩], 2⟩ (-2) = .ok (⟨[⟨ax, [], 0⟩, ⟨ay, [], 1⟩, ⟨az, [115], 1⟩], 0⟩, true) := by kernel_rfl
end Traily
namespace Go.Proofs.YtdolmjeiakdfhaaGreatDoor
set_option linter.unusedSimpArgs false
set_option linter.unusedVariables false
open Go.RowKit
open Traily (Ent T)

theorem tok {r : Except Nat T} {t t' : T} {m : Int} (hr : r = .ok t) (h : (m = 0 ∧ r = .ok t') ∨ (m ≠ 0 ∧ (∃ n : Nat, r = .error n ∧ m = n) ∧ t' = ⟨[], 0⟩)) : m = 0 ∧ t' = t := by
  rcases h with ⟨h1, h2⟩ | ⟨_, ⟨n, h2, _⟩, _⟩
  · rw [hr] at h2; injection h2 with h2; exact ⟨h1, h2.symm⟩
  · rw [hr] at h2; cases h2
theorem gok {r : Except Nat (T × Bool)} {t t' : T} {b b' : Bool} {m : Int} (hr : r = .ok (t, b)) (h : (m = 0 ∧ r = .ok (t', b')) ∨ (m ≠ 0 ∧ (∃ n : Nat, r = .error n ∧ m = n) ∧ t' = ⟨[], 0⟩)) : m = 0 ∧ t' = t ∧ b' = b := by
  rcases h with ⟨h1, h2⟩ | ⟨_, ⟨n, h2, _⟩, _⟩
  · rw [hr] at h2; injection h2 with h2; injection h2 with h2 h3; exact ⟨h1, h2.symm, h3.symm⟩
  · rw [hr] at h2; cases h2
set_option maxRecDepth 100000 in
set_option maxHeartbeats 8000000 in
theorem trailLives_true (w : World) (he : Env w) : Calls Tryz.prog 16 #[] w (BoolOut true w) := by
  have HE := Lib.hid he
  have HS := Lib.hid ((start_any Traily.sA w he).mono fun _ _ h => tRes_of h)
  have HLO : Hid (∀ (t : T) (v : Value) w1, Below w.heap.size w w1 → TrRd w1 t v → Calls Tryz.prog 14 #[.agg (tc v t.at'), .string ⟨#[121]⟩] w1 (TRes (Traily.load t [121]) w1)) := Lib.hid (fun t v w1 h hv => loadC t v [121] w1 (he.below h) hv)
  have HPU : Hid (∀ (t : T) (v : Value) w1, Below w.heap.size w w1 → TrRd w1 t v → Calls Tryz.prog 15 #[.agg (tc v t.at'), .string ⟨#[35, 122]⟩, .string ⟨#[115]⟩] w1 (TRes (Traily.push t [35, 122] [115]) w1)) := Lib.hid (fun t v w1 h hv => pushC t v [35, 122] [115] w1 (he.below h) hv)
  have HGO : Hid (∀ (t : T) (v : Value) w1, Below w.heap.size w w1 → TrRd w1 t v → Calls Tryz.prog 17 #[.agg (tc v t.at'), .int .i64 (-2)] w1 (GRes (Traily.go t (-2)) w1)) := Lib.hid (fun t v w1 h hv => goC t v (-2) w1 (he.below h) hv (by decide) (by decide))
  have HOK : Hid (∀ (w1 : World), Calls Tryz.prog 11 #[.slice (some ⟨w1.heap.size, 0, none⟩) 4 4] (w1.alloc (.cells #[.int .i64 0, .int .i64 0, .int .i64 0, .int .i64 0] 24)) fun e w' => e = .returned (.bool true) ∧ Below w1.heap.size w1 w') := Lib.hid (fun w1 => (ok_any [0, 0, 0, 0] w1.heap.size _ (Box.new w1 _ _) (by simp)).mono fun e w' ⟨h1, h2⟩ => ⟨by rw [h1]; rfl, by rw [h2]; exact below1 w1 _⟩)
  have HU : Hid (Below w.heap.size w w) := Lib.hid (Below.refl _ _)
  clear he
  go_enter Tryz.func16, Tryz.ntmps16
  go_wp2_with (fail)
  refine (HS.out).mono ?_
  rintro e w1 ⟨T1, A1, c1, m1, rfl, hT1, hrd1, hb1⟩
  replace HU := Lib.hid (HU.out.trans ((hb1).mono HU.out.size))
  have RD1 := Lib.hid hrd1
  clear hb1 hrd1
  obtain ⟨rfl, hE1⟩ := tok Traily.lives1 hT1
  have HE1 := Lib.hid hE1
  clear hT1 hE1 HS
  go_upto_region 2 with (refine wpList_store_box rfl 41 (.tmp 1) (.tmp 12) rfl w1.heap.size (tc (.slice A1 T1.ents.length c1) T1.at') rfl rfl 41 _ (Box.new w1 _ _) info_trl rfl (tc_one _ _ _ _) ?_; intro x1 hx1 hu1 hz1; have HZ1 := Lib.hid hz1; clear hz1)
  have hs1 : Below w1.heap.size w1 x1 := ((Below.refl _ w1).alloc (Nat.le_refl _) _).trans (hu1.own (Nat.le_refl _) (by simp))
  replace HU := Lib.hid (HU.out.trans ((hs1).mono HU.out.size))
  replace RD1 := Lib.hid (RD1.out.below (hs1))
  have BX1 := Lib.hid hx1
  clear hs1 hu1 hx1
  have bx1 := BX1.out
  go_wp2_with (refine wpList_load_row rfl 41 (.tmp 1) rfl (w1.heap.size) rfl _ (tc (.slice A1 T1.ents.length c1) T1.at') (0, 0) _ bx1 Tryz.underlying41 rfl info_trl ?_)
  refine (HLO.out T1 _ _ HU.out RD1.out).mono ?_
  rintro e w2 ⟨T2, A2, c2, m2, rfl, hT2, hrd2, hb2⟩
  replace HU := Lib.hid (HU.out.trans ((hb2).mono HU.out.size))
  replace RD1 := Lib.hid (RD1.out.below (hb2))
  replace BX1 := Lib.hid (BX1.out.below (hb2) BX1.out.lt)
  have RD2 := Lib.hid hrd2
  clear hb2 hrd2
  obtain ⟨rfl, hE2⟩ := tok (by rw [HE1.out]; exact Traily.lives2) hT2
  have HE2 := Lib.hid hE2
  clear hT2 hE2 HLO bx1
  go_upto_region 3 with (refine wpList_store_box rfl 41 (.tmp 3) (.tmp 17) rfl w2.heap.size (tc (.slice A2 T2.ents.length c2) T2.at') rfl rfl 41 _ (Box.new w2 _ _) info_trl rfl (tc_one _ _ _ _) ?_; intro x2 hx2 hu2 hz2; have HZ2 := Lib.hid hz2; clear hz2)
  have hs2 : Below w2.heap.size w2 x2 := ((Below.refl _ w2).alloc (Nat.le_refl _) _).trans (hu2.own (Nat.le_refl _) (by simp))
  replace HU := Lib.hid (HU.out.trans ((hs2).mono HU.out.size))
  replace RD1 := Lib.hid (RD1.out.below (hs2))
  replace BX1 := Lib.hid (BX1.out.below (hs2) BX1.out.lt)
  replace RD2 := Lib.hid (RD2.out.below (hs2))
  have BX2 := Lib.hid hx2
  clear hs2 hu2 hx2
  have bx2 := BX2.out
  go_wp2_with (refine wpList_load_row rfl 41 (.tmp 3) rfl (w2.heap.size) rfl _ (tc (.slice A2 T2.ents.length c2) T2.at') (0, 0) _ bx2 Tryz.underlying41 rfl info_trl ?_)
  refine (HPU.out T2 _ _ HU.out RD2.out).mono ?_
  rintro e w3 ⟨T3, A3, c3, m3, rfl, hT3, hrd3, hb3⟩
  replace HU := Lib.hid (HU.out.trans ((hb3).mono HU.out.size))
  replace RD1 := Lib.hid (RD1.out.below (hb3))
  replace BX1 := Lib.hid (BX1.out.below (hb3) BX1.out.lt)
  replace RD2 := Lib.hid (RD2.out.below (hb3))
  replace BX2 := Lib.hid (BX2.out.below (hb3) BX2.out.lt)
  have RD3 := Lib.hid hrd3
  clear hb3 hrd3
  obtain ⟨rfl, hE3⟩ := tok (by rw [HE2.out]; exact Traily.lives3) hT3
  have HE3 := Lib.hid hE3
  clear hT3 hE3 HPU bx2
  go_upto_region 4 with (refine wpList_store_box rfl 41 (.tmp 5) (.tmp 22) rfl w3.heap.size (tc (.slice A3 T3.ents.length c3) T3.at') rfl rfl 41 _ (Box.new w3 _ _) info_trl rfl (tc_one _ _ _ _) ?_; intro x3 hx3 hu3 hz3; have HZ3 := Lib.hid hz3; clear hz3)
  have hs3 : Below w3.heap.size w3 x3 := ((Below.refl _ w3).alloc (Nat.le_refl _) _).trans (hu3.own (Nat.le_refl _) (by simp))
  replace HU := Lib.hid (HU.out.trans ((hs3).mono HU.out.size))
  replace RD1 := Lib.hid (RD1.out.below (hs3))
  replace BX1 := Lib.hid (BX1.out.below (hs3) BX1.out.lt)
  replace RD2 := Lib.hid (RD2.out.below (hs3))
  replace BX2 := Lib.hid (BX2.out.below (hs3) BX2.out.lt)
  replace RD3 := Lib.hid (RD3.out.below (hs3))
  have BX3 := Lib.hid hx3
  clear hs3 hu3 hx3
  have bx3 := BX3.out
  go_wp2_with (refine wpList_load_row rfl 41 (.tmp 5) rfl (w3.heap.size) rfl _ (tc (.slice A3 T3.ents.length c3) T3.at') (0, 0) _ bx3 Tryz.underlying41 rfl info_trl ?_)
  refine (HGO.out T3 _ _ HU.out RD3.out).mono ?_
  rintro e w4 ⟨T4, A4, c4, b4, m4, rfl, hT4, hrd4, hb4⟩
  replace HU := Lib.hid (HU.out.trans ((hb4).mono HU.out.size))
  replace RD1 := Lib.hid (RD1.out.below (hb4))
  replace BX1 := Lib.hid (BX1.out.below (hb4) BX1.out.lt)
  replace RD2 := Lib.hid (RD2.out.below (hb4))
  replace BX2 := Lib.hid (BX2.out.below (hb4) BX2.out.lt)
  replace RD3 := Lib.hid (RD3.out.below (hb4))
  replace BX3 := Lib.hid (BX3.out.below (hb4) BX3.out.lt)
  have RD4 := Lib.hid hrd4
  clear hb4 hrd4
  obtain ⟨rfl, hE4, rfl⟩ := gok (by rw [HE3.out]; exact Traily.lives4) hT4
  have HE4 := Lib.hid hE4
  clear hT4 hE4 HGO bx3
  go_upto_region 5 with (refine wpList_store_box rfl 41 (.tmp 7) (.tmp 27) rfl w4.heap.size (tc (.slice A4 T4.ents.length c4) T4.at') rfl rfl 41 _ (Box.new w4 _ _) info_trl rfl (tc_one _ _ _ _) ?_; intro x4 hx4 hu4 hz4; have HZ4 := Lib.hid hz4; clear hz4)
  have hs4 : Below w4.heap.size w4 x4 := ((Below.refl _ w4).alloc (Nat.le_refl _) _).trans (hu4.own (Nat.le_refl _) (by simp))
  replace HU := Lib.hid (HU.out.trans ((hs4).mono HU.out.size))
  replace RD1 := Lib.hid (RD1.out.below (hs4))
  replace BX1 := Lib.hid (BX1.out.below (hs4) BX1.out.lt)
  replace RD2 := Lib.hid (RD2.out.below (hs4))
  replace BX2 := Lib.hid (BX2.out.below (hs4) BX2.out.lt)
  replace RD3 := Lib.hid (RD3.out.below (hs4))
  replace BX3 := Lib.hid (BX3.out.below (hs4) BX3.out.lt)
  replace RD4 := Lib.hid (RD4.out.below (hs4))
  have BX4 := Lib.hid hx4
  clear hs4 hu4 hx4
  go_wp2_with (fail)
  refine (HOK.out _).mono ?_
  rintro e w9 ⟨rfl, hb9⟩
  replace HU := Lib.hid (HU.out.trans ((hb9).mono HU.out.size))
  replace RD1 := Lib.hid (RD1.out.below (hb9))
  replace BX1 := Lib.hid (BX1.out.below (hb9) BX1.out.lt)
  replace RD2 := Lib.hid (RD2.out.below (hb9))
  replace BX2 := Lib.hid (BX2.out.below (hb9) BX2.out.lt)
  replace RD3 := Lib.hid (RD3.out.below (hb9))
  replace BX3 := Lib.hid (BX3.out.below (hb9) BX3.out.lt)
  replace RD4 := Lib.hid (RD4.out.below (hb9))
  replace BX4 := Lib.hid (BX4.out.below (hb9) BX4.out.lt)
  clear hb9
  have hl3 : T3.ents.length = 3 := by rw [HE3.out]; rfl
  obtain ⟨X, cx, e1, h1, h2, h3⟩ := RD3.out
  injection e1 with e1 _ e2
  subst e1 e2
  obtain ⟨g3, o3, rfl, hg3, hr3⟩ := h3 (by omega)
  have k0 : w9.cell? ⟨g3, o3 + 2 * 3, none⟩ = some (.string ⟨#[104, 116, 116, 112, 58, 47, 47, 97, 47, 121, 35, 122]⟩) := hr3 6 _ (by rw [HE3.out]; rfl)
  have k2 : w9.cell? ⟨g3, o3 + 2 * 3 + 2, none⟩ = some (.int .i64 1) := hr3 8 _ (by rw [HE3.out]; rfl)
  have a3 := BX3.out.cell 0
  have a4 := BX4.out.cell 1
  have hat : T4.at' = 0 := by rw [HE4.out]
  simp [tc] at a3 a4
  rw [hat] at a4
  rw [hl3] at a3
  simp at k0 k2
  clear hl3 hat h1 h2 h3 hr3 hg3
  go_wp2
  go_ret
  exact ⟨rfl, HU.out⟩
end Go.Proofs.YtdolmjeiakdfhaaGreatDoor
