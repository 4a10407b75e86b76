/-
  The scheme of an address. Conditions: the library's variables hold what they hold; the text is no longer than 1048576 bytes.
-/
import Derived.Test.YtdolmjeiakdfhaaGreatDoorUrQ
import Derived.IntWalk
namespace Go.Proofs.YtdolmjeiakdfhaaGreatDoor
set_option linter.unusedSimpArgs false
set_option linter.unusedVariables false
open Go.RowKit

def LetterC : Prop := ∀ (c : UInt8) (w : World), Calls Tryz.prog 60 #[.int .u8 (c.toNat : Int)] w fun e w' => e = .returned (.bool (Urly.letter c)) ∧ w = w'
theorem letterC : LetterC := letter_any
def scset : List UInt8 := [48, 49, 50, 51, 52, 53, 54, 55, 56, 57, 43, 45, 46]
theorem sc_eq (c : UInt8) : Urly.sc c = (Urly.letter c || scset.contains c) := byte_all (p := fun c => Urly.sc c = (Urly.letter c || scset.contains c)) (by decide +kernel) c
def SchemeOut (s : List UInt8) (w : World) (e : Ending) (w' : World) : Prop :=
  e = .returned (match Urly.scheme s with
    | some (a, r) => .tuple #[.string (byt a), .string (byt r), .bool true]
    | none => .tuple #[.string (byt []), .string (byt []), .bool false]) ∧ Below w.heap.size w w'
theorem schemeOut_yes {s a r : List UInt8} {w w' : World} {e : Ending} (h : Urly.scheme s = some (a, r)) (he : e = .returned (.tuple #[.string (byt a), .string (byt r), .bool true])) (hb : Below w.heap.size w w') : SchemeOut s w e w' := by
  unfold SchemeOut; rw [h]; exact ⟨he, hb⟩
theorem schemeOut_no {s : List UInt8} {w w' : World} {e : Ending} (h : Urly.scheme s = none) (he : e = .returned (.tuple #[.string (byt []), .string (byt []), .bool false])) (hb : Below w.heap.size w w') : SchemeOut s w e w' := by
  unfold SchemeOut; rw [h]; exact ⟨he, hb⟩
/-- the first k bytes are of a scheme. -/
def SchAt (s : List UInt8) (k : Nat) : Prop := k = 0 ∨ (0 < k ∧ Urly.scheme s = Urly.schemeTail (s.take k) (s.drop k) ∧ ((s.take k).all fun b => decide (b.toNat < 128)) = true)
theorem drop_get {s : List UInt8} {k : Nat} {c : UInt8} (h : s[k]? = some c) : s.drop k = c :: s.drop (k + 1) := by
  obtain ⟨h1, h2⟩ := List.getElem?_eq_some_iff.1 h
  rw [List.drop_eq_getElem_cons h1, h2]
theorem take_get {s : List UInt8} {k : Nat} {c : UInt8} (h : s[k]? = some c) : s.take (k + 1) = s.take k ++ [c] := by
  rw [List.take_add_one, h]; rfl
/-- how the next byte is taken. -/
theorem sch_zero {s : List UInt8} {c : UInt8} (h : s[0]? = some c) : (Urly.letter c = true → SchAt s 1) ∧ (Urly.letter c = false → Urly.scheme s = none) := by
  cases s with
  | nil => simp at h
  | cons x r =>
    simp at h
    subst h
    refine ⟨fun hl => .inr ⟨by omega, ?_, ?_⟩, fun hl => ?_⟩
    · rw [Urly.scheme, if_pos hl]; rfl
    · have := ((Urly.lower_sc x).2.2.2.2.1 hl).2
      simp [this]
    · rw [Urly.scheme, if_neg (by simp [hl])]
theorem sch_more {s : List UInt8} {k : Nat} {c : UInt8} (ha : SchAt s k) (hk : 0 < k) (h : s[k]? = some c) :
    (c = 58 → Urly.scheme s = some (Urly.small (s.take k), s.drop (k + 1)) ∧ ((s.take k).all fun b => decide (b.toNat < 128)) = true) ∧ (c ≠ 58 → (Urly.letter c || scset.contains c) = true → SchAt s (k + 1)) ∧ (c ≠ 58 → (Urly.letter c || scset.contains c) = false → Urly.scheme s = none) := by
  rcases ha with h0 | ⟨_, h1, h2⟩
  · omega
  · rw [drop_get h] at h1
    refine ⟨fun e => ?_, fun e hs => .inr ⟨by omega, ?_, ?_⟩, fun e hs => ?_⟩
    · subst e
      exact ⟨by rw [h1, Urly.schemeTail, if_pos rfl], h2⟩
    · rw [← sc_eq] at hs
      have hs2 := hs
      unfold Urly.sc at hs2
      rw [h1, Urly.schemeTail, if_neg e, if_pos hs2, take_get h]
    · rw [← sc_eq] at hs
      have := ((Urly.lower_sc c).2.2.2.2.2 hs).1
      rw [take_get h, List.all_append, h2]
      simp [this]
    · rw [← sc_eq] at hs
      unfold Urly.sc at hs
      rw [h1, Urly.schemeTail, if_neg e, if_neg (by simp [hs])]
theorem sch_end {s : List UInt8} {k : Nat} (ha : SchAt s k) (hk : s.length ≤ k) : Urly.scheme s = none := by
  rcases ha with rfl | ⟨_, h1, h2⟩
  · have : s = [] := List.eq_nil_of_length_eq_zero (by omega)
    subst this; rfl
  · rw [h1, List.drop_eq_nil_of_le hk]; rfl
set_option maxRecDepth 100000 in
set_option maxHeartbeats 8000000 in
theorem scheme_any (s : List UInt8) (w : World) (hs : s.length ≤ 1048576) (he : Env w) :
    Calls Tryz.prog 43 #[.string (byt s)] w (SchemeOut s w) := by
  have HL : Hid LetterC := Lib.hid letterC
  have HI : Hid InC := Lib.hid inC
  have HSM : Hid (∀ k, ((s.take k).all fun b => decide (b.toNat < 128)) = true → ∀ w1, Below w.heap.size w w1 → Calls Tryz.prog 59 #[.string (byt (s.take k))] w1 (fun e w' => e = .returned (.string (byt (Urly.small (s.take k)))) ∧ Below w1.heap.size w1 w')) := by
    refine Lib.hid (fun k hk w1 hw1 => ?_)
    have := small_env (s.take k) w1 (by simp; omega) (he.below hw1)
    unfold SmallOut at this
    rwa [small_ascii _ hk] at this
  have hz := byt_size s
  have HSZ := Lib.hid hs
  go_enter Tryz.func43, Tryz.ntmps43
  obtain ⟨S, hS⟩ : ∃ S, byt s = S := ⟨_, rfl⟩
  rw [hS] at hz ⊢
  have HX : Hid (∀ (k : Nat) (c : UInt8), s[k]? = some c → ∀ w, (Instr.index 9 (.string S) (.int .i64 (k : Int))).run Tryz.prog w = .ok (.int .u8 (c.toNat : Int)) w) := by
    refine Lib.hid (fun k c h w => run_at S c (k : Int) (by omega) ?_ w)
    rw [← hS]; exact h
  have HS := Lib.hid hS
  have HZ := Lib.hid hz
  have hm : (S.size : Int) ≤ 1048576 := by omega
  clear hS hz hs he
  go_wp2
  go_loopg [9] (S.size - 0) (fun g v wr => ∃ (k : Nat), k ≤ S.size ∧ g = S.size - k ∧ v = .int .i64 (k : Int) ∧ SchAt s k ∧ wr = w)
  case atStart => exact ⟨0, by omega, rfl, rfl, .inl rfl, rfl⟩
  case round =>
    obtain ⟨k, hk, hg, rfl, ha, rfl⟩ := hrel
    have HG := Lib.hid hg
    have HA := Lib.hid ha
    clear hg ha
    by_cases hlt : k < S.size
    · obtain ⟨c, hc⟩ : ∃ c, s[k]? = some c := ⟨_, List.getElem?_eq_getElem (by rw [← HZ.out]; exact hlt)⟩
      have hl1 : decide ((k : Int) < (S.size : Int)) = true := decide_eq_true (by omega)
      have hl2 : (k : Int) < (S.size : Int) := by omega
      have hx := HX.out k c hc
      have HC := Lib.hid hc
      have HLC := Lib.hid (fun w => HL.out c w)
      have HIC := Lib.hid (fun w => HI.out c scset w)
      have hk0 : k = 0 ∨ 0 < k := by omega
      have hc58 : c = 58 ∨ c ≠ 58 := by by_cases e : c = 58; exact .inl e; exact .inr e
      clear hc
      rcases hk0 with hk0 | hk0
      · have HF := Lib.hid (sch_zero (s := s) (c := c) (by have := HC.out; rwa [hk0] at this))
        obtain ⟨m, hm2⟩ : ∃ m : Int, (c.toNat : Int) = m := ⟨_, rfl⟩
        rw [hm2] at hx
        simp only [hm2] at HLC HIC
        have g1 : decide ((k : Int) > 0) = false := decide_eq_false (by omega)
        have g1b : ¬ (0 : Int) < (k : Int) := by omega
        have g2 : ((k : Int) == 0) = true := by rw [beq_iff_eq]; omega
        have HK0 := Lib.hid hk0
        have hmm : (m == 58) = true ∨ (m == 58) = false := by cases (m == 58) <;> simp
        clear hm2 hc58 hk0
        rcases hmm with hmm | hmm
        all_goals
          cases hlc : Urly.letter c with
          | true =>
            rw [hlc] at HLC
            have HN := Lib.hid (HF.out.1 hlc)
            clear hlc
            go_wp2_with (fail)
            refine (HLC.out _).mono ?_
            rintro e w1 ⟨rfl, hw1⟩
            subst hw1
            go_wp2
            go_roundg (S.size - (k + 1))
            case measure => rw [HG.out]; omega
            case rel => exact ⟨k + 1, by omega, rfl, by go_num, by rw [HK0.out]; exact HN.out, rfl⟩
          | false =>
            rw [hlc] at HLC
            have HN := Lib.hid (HF.out.2 hlc)
            clear hlc
            go_wp2_with (fail)
            refine (HLC.out _).mono ?_
            rintro e w1 ⟨rfl, hw1⟩
            subst hw1
            go_wp2
            go_returns
            exact schemeOut_no HN.out rfl (Below.refl _ _)
      · have HF := Lib.hid (sch_more HA.out hk0 HC.out)
        have g1 : decide ((k : Int) > 0) = true := decide_eq_true (by omega)
        have g1b : (0 : Int) < (k : Int) := by omega
        have g2 : ((k : Int) == 0) = false := beq_no (by omega)
        have g2b : ¬ ((k : Int) = 0) := by omega
        rcases hc58 with rfl | hc58
        · obtain ⟨f1, f2⟩ := HF.out.1 rfl
          have HN := Lib.hid f1
          have HSM1 := Lib.hid (HSM.out k f2)
          have hx' : ∀ w, (Instr.index 9 (.string S) (.int .i64 (k : Int))).run Tryz.prog w = .ok (.int .u8 58) w := hx
          have hkz : k + 1 ≤ s.length := by rw [← HZ.out]; omega
          have gw : IntKind.i64.wrap ((k : Int) + 1) = (k : Int) + 1 := by rw [IntKind.wrap_i64]; omega
          have hsl : (s.length : Int) = (S.size : Int) := by rw [HZ.out]
          clear f1 f2 hx HIC HLC HF
          obtain ⟨T, hT⟩ : ∃ T, s.take k = T := ⟨_, rfl⟩
          rw [hT] at HSM1 HN
          have HT := Lib.hid hT
          clear hT
          go_upto_region 6 with (fail)
          rw [← HS.out]
          refine wp_region_held_drew (S := fun w' => Below wr.heap.size wr w' ∧ True) (by kernel_rfl) ⟨(Below.refl _ wr).drew, trivial⟩ (fun hHeld => ?_)
          refine wpAnyH_take (i := 0) (v := ?_) rfl (by kernel_rfl) (by kernel_rfl) (by kernel_rfl) (fun _ _ _ h => h) (Or.inl ⟨by kernel_rfl, ?_⟩) (by assumption) ?_
          rotate_left
          · intro w hSw
            (try dsimp only at hSw)
            go_simp
            try (with_reducible rfl)
          (try simp only [Act.put, List.getElem_toArray, List.getElem_cons_zero, List.setIfInBounds_toArray, List.set_cons_zero, List.set_cons_succ])
          refine wpAnyH_take (i := 1) (v := ?_) rfl (by kernel_rfl) (by kernel_rfl) (by kernel_rfl) (fun _ _ _ h => h) (Or.inl ⟨by kernel_rfl, ?_⟩) (by assumption) ?_
          rotate_left
          · intro w hSw
            (try dsimp only at hSw)
            go_simp
            try (with_reducible rfl)
          (try simp only [Act.put, List.getElem_toArray, List.getElem_cons_succ, List.getElem_cons_zero, List.setIfInBounds_toArray, List.set_cons_zero, List.set_cons_succ])
          refine wpAnyH_take (i := 2) (v := _) rfl (by kernel_rfl) (by kernel_rfl) (by kernel_rfl) (fun _ _ _ h => h) (yields_upto (by kernel_rfl) (.tmp 22) (.tmp 23) rfl s ((k : Int)) rfl rfl (by omega) (by omega)) (by assumption) ?_
          (try simp only [Act.put, List.getElem_toArray, List.getElem_cons_succ, List.getElem_cons_zero, List.setIfInBounds_toArray, List.set_cons_zero, List.set_cons_succ])
          refine wpAnyH_take (i := 4) (v := ?_) rfl (by kernel_rfl) (by kernel_rfl) (by kernel_rfl) (fun _ _ _ h => h) (Or.inl ⟨by kernel_rfl, ?_⟩) (by assumption) ?_
          rotate_left
          · intro w hSw
            (try dsimp only at hSw)
            go_simp
            try (with_reducible rfl)
          (try simp only [Act.put, List.getElem_toArray, List.getElem_cons_succ, List.getElem_cons_zero, List.setIfInBounds_toArray, List.set_cons_zero, List.set_cons_succ])
          refine wpAnyH_take (i := 5) (v := ?_) rfl (by kernel_rfl) (by kernel_rfl) (by kernel_rfl) (fun _ _ _ h => h) (Or.inl ⟨by kernel_rfl, ?_⟩) (by assumption) ?_
          rotate_left
          · intro w hSw
            (try dsimp only at hSw)
            go_simp
            try (with_reducible rfl)
          (try simp only [Act.put, List.getElem_toArray, List.getElem_cons_succ, List.getElem_cons_zero, List.setIfInBounds_toArray, List.set_cons_zero, List.set_cons_succ])
          refine wpAnyH_take (i := 6) (v := ?_) rfl (by kernel_rfl) (by kernel_rfl) (by kernel_rfl) (fun _ _ _ h => h) (Or.inl ⟨by kernel_rfl, ?_⟩) (by assumption) ?_
          rotate_left
          · intro w hSw
            (try dsimp only at hSw)
            go_simp
            try (with_reducible rfl)
          (try simp only [Act.put, List.getElem_toArray, List.getElem_cons_succ, List.getElem_cons_zero, List.setIfInBounds_toArray, List.set_cons_zero, List.set_cons_succ])
          refine wpAnyH_take (i := 7) (v := _) rfl (by kernel_rfl) (by kernel_rfl) (by kernel_rfl) (fun _ _ _ h => h) (yields_from (by kernel_rfl) (.tmp 26) (.tmp 28) rfl s ((k : Int) + 1) rfl rfl (by omega) (by omega)) (by assumption) ?_
          (try simp only [Act.put, List.getElem_toArray, List.getElem_cons_succ, List.getElem_cons_zero, List.setIfInBounds_toArray, List.set_cons_zero, List.set_cons_succ])
          rw [show ((k : Int)).toNat = k by omega, HT.out, show ((k : Int) + 1).toNat = k + 1 by omega]
          refine wpAnyH_ready (rs := [3]) (by kernel_rfl) (by simp) ?_
          refine AllReadyH.cons rfl (fun K hK => ?_) AllReadyH.nil
          go_simp
          refine (HSM1.out _ hHeld.1).mono ?_
          rintro e w3 ⟨rfl, hw3⟩
          go_wp2_with (fail)
          refine hK.out _ _ ?_ (fun hHeld => ?_)
          · exact ⟨hHeld.1.trans (hw3.mono hHeld.1.size), trivial⟩
          clear hK K
          (try simp only [Act.put, List.getElem_toArray, List.getElem_cons_succ, List.getElem_cons_zero, List.setIfInBounds_toArray, List.set_cons_zero, List.set_cons_succ])
          refine wpAnyH_take (i := 8) (v := ?_) rfl (by kernel_rfl) (by kernel_rfl) (by kernel_rfl) (fun _ _ _ h => h) (Or.inl ⟨by kernel_rfl, ?_⟩) (by assumption) ?_
          rotate_left
          · intro w hSw
            (try dsimp only at hSw)
            go_simp
            try (with_reducible rfl)
          (try simp only [Act.put, List.getElem_toArray, List.getElem_cons_succ, List.getElem_cons_zero, List.setIfInBounds_toArray, List.set_cons_zero, List.set_cons_succ])
          refine wpAnyH_take (i := 9) (v := ?_) rfl (by kernel_rfl) (by kernel_rfl) (by kernel_rfl) (fun _ _ _ h => h) (Or.inl ⟨by kernel_rfl, ?_⟩) (by assumption) ?_
          rotate_left
          · intro w hSw
            (try dsimp only at hSw)
            go_simp
            try (with_reducible rfl)
          (try simp only [Act.put, List.getElem_toArray, List.getElem_cons_succ, List.getElem_cons_zero, List.setIfInBounds_toArray, List.set_cons_zero, List.set_cons_succ])
          refine wpAnyH_take (i := 10) (v := ?_) rfl (by kernel_rfl) (by kernel_rfl) (by kernel_rfl) (fun _ _ _ h => h) (Or.inl ⟨by kernel_rfl, ?_⟩) (by assumption) ?_
          rotate_left
          · intro w hSw
            (try dsimp only at hSw)
            go_simp
            try (with_reducible rfl)
          (try simp only [Act.put, List.getElem_toArray, List.getElem_cons_succ, List.getElem_cons_zero, List.setIfInBounds_toArray, List.set_cons_zero, List.set_cons_succ])
          refine wpAnyH_done (by kernel_rfl) ?_ _
          go_wp2
          go_returns
          exact schemeOut_yes HN.out rfl hHeld.1
        · have hn58 : ((c.toNat : Int) == 58) = false := by
            rw [beq_eq_false_iff_ne]
            intro e
            apply hc58
            rw [← UInt8.toNat_inj]
            simp; omega
          obtain ⟨m, hm2⟩ : ∃ m : Int, (c.toNat : Int) = m := ⟨_, rfl⟩
          rw [hm2] at hx hn58
          simp only [hm2] at HLC HIC
          clear hm2
          cases hlc : Urly.letter c with
          | true =>
            rw [hlc] at HLC
            have HN := Lib.hid (HF.out.2.1 hc58 (by rw [hlc]; rfl))
            clear hlc HF
            go_wp2_with (fail)
            refine (HLC.out _).mono ?_
            rintro e w1 ⟨rfl, hw1⟩
            subst hw1
            go_wp2
            go_roundg (S.size - (k + 1))
            case measure => rw [HG.out]; omega
            case rel => exact ⟨k + 1, by omega, rfl, by go_num, HN.out, rfl⟩
          | false =>
            cases hic : scset.contains c with
            | true =>
              rw [hlc] at HLC
              rw [hic] at HIC
              have HN := Lib.hid (HF.out.2.1 hc58 (by rw [hlc, hic]; rfl))
              clear hlc hic HF
              go_wp2_with (fail)
              refine (HLC.out _).mono ?_
              rintro e w1 ⟨rfl, hw1⟩
              subst hw1
              go_wp2_with (fail)
              refine (HIC.out _).mono ?_
              rintro e w1 ⟨rfl, hw1⟩
              subst hw1
              go_wp2
              go_roundg (S.size - (k + 1))
              case measure => rw [HG.out]; omega
              case rel => exact ⟨k + 1, by omega, rfl, by go_num, HN.out, rfl⟩
            | false =>
              rw [hlc] at HLC
              rw [hic] at HIC
              have HN := Lib.hid (HF.out.2.2 hc58 (by rw [hlc, hic]; rfl))
              clear hlc hic HF
              go_wp2_with (fail)
              refine (HLC.out _).mono ?_
              rintro e w1 ⟨rfl, hw1⟩
              subst hw1
              go_wp2_with (fail)
              refine (HIC.out _).mono ?_
              rintro e w1 ⟨rfl, hw1⟩
              subst hw1
              go_wp2
              go_returns
              exact schemeOut_no HN.out rfl (Below.refl _ _)
    · have hl1 : decide ((k : Int) < (S.size : Int)) = false := decide_eq_false (by omega)
      have hl2 : ¬ (k : Int) < (S.size : Int) := by omega
      have HN := Lib.hid (sch_end HA.out (by rw [← HZ.out]; omega))
      go_wp2
      go_returns
      exact schemeOut_no HN.out rfl (Below.refl _ _)
end Go.Proofs.YtdolmjeiakdfhaaGreatDoor
