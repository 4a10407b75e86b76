/-
  What a rune's bytes are, of a text that is read rune by rune. Conditions: as each says.
-/
import Derived.Test.YtdolmjeiakdfhaaGreatDoorUrT
import Derived.Lib.IndexAny
import Derived.Laws.RangeAny
import Derived.Laws.Runes
import Derived.WalkMore
import Derived.Scope
namespace Go.Proofs.YtdolmjeiakdfhaaGreatDoor
set_option linter.unusedSimpArgs false
set_option linter.unusedVariables false
open Go.RowKit

theorem dec_skip (l : List UInt8) (hne : l ≠ []) (h : 128 ≤ (l.getD 0 0).toNat) :
    128 ≤ (Lib.decodeL l).1 ∧ (Lib.decodeL l).2 ≤ l.length ∧ ∀ (j : Nat) (b : UInt8), j < (Lib.decodeL l).2 → l[j]? = some b → 128 ≤ b.toNat := by
  refine ⟨?_, Lib.decodeL_le l hne, ?_⟩
  · cases l with
    | nil => exact absurd rfl hne
    | cons b t => exact dec_high b t h
  · intro j b hj hb
    have hg : (l.getD j 0) = b := by simp [List.getD, hb]
    rw [Lib.decodeL_N] at hj
    rcases Lib.decodeN_shape l.length (l.getD 0 0).toNat (l.getD 1 0).toNat (l.getD 2 0).toNat (l.getD 3 0).toNat with ⟨c, e⟩ | ⟨c1, c2, c3, cv, e⟩ | ⟨c1, c2, c3, c4, cv, cs, e⟩ | ⟨c1, c2, c3, c4, c5, cv, cw, e⟩ | e
    · omega
    all_goals (rw [e] at hj; dsimp only at hj; rw [← hg])
    · rcases j with _ | _ | j
      · exact h
      · (try simp only [Nat.zero_add, Nat.reduceAdd]); omega
      · (try simp only [Nat.zero_add, Nat.reduceAdd]); omega
    · rcases j with _ | _ | _ | j
      · exact h
      · (try simp only [Nat.zero_add, Nat.reduceAdd]); omega
      · (try simp only [Nat.zero_add, Nat.reduceAdd]); omega
      · (try simp only [Nat.zero_add, Nat.reduceAdd]); omega
    · rcases j with _ | _ | _ | _ | j
      · exact h
      · (try simp only [Nat.zero_add, Nat.reduceAdd]); omega
      · (try simp only [Nat.zero_add, Nat.reduceAdd]); omega
      · (try simp only [Nat.zero_add, Nat.reduceAdd]); omega
      · (try simp only [Nat.zero_add, Nat.reduceAdd]); omega
    · rcases j with _ | j
      · exact h
      · (try simp only [Nat.zero_add, Nat.reduceAdd]); omega
/-! ### a rune of 128 or more is none of "/?#" -/
def ends3 : ByteArray := ⟨#[47, 63, 35]⟩
set_option maxRecDepth 100000 in
set_option maxHeartbeats 2000000 in
theorem valid_any (r : Int) (w : World) : Calls Tryz.prog 86 #[.int .i32 r] w fun e w' => e = .returned (.bool (Utf8.valid r)) ∧ w' = w := by
  rw [validRune_eq]
  unfold validRune
  by_cases h1 : 0 ≤ r
  · by_cases h2 : r < 55296
    · rw [decide_eq_true (.inl ⟨h1, h2⟩)]
      go_enter Tryz.func86, Tryz.ntmps86
      go_wp2
      go_ret
      exact ⟨rfl, rfl⟩
    · by_cases h3 : 57343 < r
      · by_cases h4 : r ≤ 1114111
        · rw [decide_eq_true (.inr ⟨h3, h4⟩)]
          go_enter Tryz.func86, Tryz.ntmps86
          go_wp2
          go_ret
          exact ⟨rfl, rfl⟩
        · rw [decide_eq_false (by omega)]
          go_enter Tryz.func86, Tryz.ntmps86
          go_wp2
          go_ret
          exact ⟨rfl, rfl⟩
      · rw [decide_eq_false (by omega)]
        go_enter Tryz.func86, Tryz.ntmps86
        go_wp2
        go_ret
        exact ⟨rfl, rfl⟩
  · have h5 : ¬ (57343 < r) := by omega
    rw [decide_eq_false (by omega)]
    go_enter Tryz.func86, Tryz.ntmps86
    go_wp2
    go_ret
    exact ⟨rfl, rfl⟩
theorem below_iter (w : World) (s : ByteArray) (pos : Nat) : Below w.heap.size w (w.iter s pos) := (Below.refl _ _).alloc (Nat.le_refl _) _
def NoOut (w : World) (e : Ending) (w' : World) : Prop := e = .returned (.int .i64 (-1)) ∧ Below w.heap.size w w'
set_option maxRecDepth 100000 in
set_option maxHeartbeats 2000000 in
theorem ir_error (w : World) : Calls Tryz.prog 63 #[.string ends3, .int .i32 65533] w (NoOut w) := by
  have HN : Hid (∀ (pos : Nat) (ty : TypeId) (h : pos < 3), (Instr.next (.pointer (some ⟨w.heap.size, 0, none⟩)) true ty).run Tryz.prog (w.iter ends3 pos) = .ok (.tuple #[.bool true, .int .i64 (pos : Int), .int .i32 ((ends3[pos]'h).toNat : Int)]) (w.iter ends3 (pos + 1))) :=
    Lib.hid (fun pos ty h => run_next_ascii (P := Tryz.prog) w ends3 pos ty h (by
      rcases pos with _ | _ | _ | pos
      · exact (by decide : (47 : UInt8).toNat < 128)
      · exact (by decide : (63 : UInt8).toNat < 128)
      · exact (by decide : (35 : UInt8).toNat < 128)
      · omega))
  have HE : Hid (∀ (ty : TypeId), (Instr.next (.pointer (some ⟨w.heap.size, 0, none⟩)) true ty).run Tryz.prog (w.iter ends3 3) = _) := Lib.hid (fun ty => run_next_end (P := Tryz.prog) w ends3 3 ty (by decide))
  go_enter Tryz.func63, Tryz.ntmps63
  go_wp2
  go_loopg [5, 6] 3 (fun g _ _ wx => ∃ i : Nat, i + g = 3 ∧ wx = w.iter ends3 i)
  case atStart => exact ⟨0, rfl, rfl⟩
  case round =>
    obtain ⟨i, hig, rfl⟩ := hrel
    cases gk with
    | zero =>
      obtain rfl : i = 3 := by omega
      have hnx := HE.out
      go_wp2
      go_ret
      exact ⟨rfl, below_iter _ _ _⟩
    | succ g =>
      have hi : i < 3 := by omega
      have hnx := fun ty => HN.out i ty hi
      have hne : ((((ends3[i]'hi).toNat : Int)) == 65533) = false := beq_no (by have := (ends3[i]'hi).toNat_lt; omega)
      obtain ⟨m, hm⟩ : ∃ m : Int, ((ends3[i]'hi).toNat : Int) = m := ⟨_, rfl⟩
      simp only [hm] at hnx hne
      clear hm
      go_wp2
      go_roundg g
      case measure => omega
      case rel => exact ⟨i + 1, by omega, rfl⟩
theorem ends_at : ∀ (k : Nat) (h : k < 3) (w : World), (Instr.index 9 (.string ends3) (.int .i64 (k : Int))).run Tryz.prog w = .ok (.int .u8 ([47, 63, 35].getD k 0)) w := by
  intro k h w
  rcases k with _ | _ | _ | k
  · exact run_at ends3 47 0 (by omega) rfl w
  · exact run_at ends3 63 1 (by omega) rfl w
  · exact run_at ends3 35 2 (by omega) rfl w
  · omega
set_option maxRecDepth 100000 in
set_option maxHeartbeats 2000000 in
theorem ir_high (r : Int) (h1 : 128 ≤ r) (hne : r ≠ 65533) (w : World) : Calls Tryz.prog 63 #[.string ends3, .int .i32 r] w (NoOut w) := by
  have HV : Hid (∀ w, Calls Tryz.prog 86 #[.int .i32 r] w fun e w' => e = .returned (.bool (Utf8.valid r)) ∧ w' = w) := Lib.hid (fun w => valid_any r w)
  have hlt : decide (r < 128) = false := decide_eq_false (by omega)
  have hlt2 : ¬ r < 128 := by omega
  have hn : (r == 65533) = false := beq_no hne
  cases hv : Utf8.valid r with
  | false =>
    rw [hv] at HV
    clear hv hne
    go_enter Tryz.func63, Tryz.ntmps63
    go_wp2_with (fail)
    refine (HV.out _).mono ?_
    rintro e w1 ⟨rfl, rfl⟩
    go_wp2
    go_ret
    exact ⟨rfl, Below.refl _ _⟩
  | true =>
    obtain ⟨f1, f2, f3⟩ := encode_facts r hv h1
    rw [hv] at HV
    clear hv hne
    obtain ⟨R, hR⟩ : ∃ R, Utf8.encode r = R := ⟨_, rfl⟩
    have hc : ∀ w, (convert 21 9 (.int .i32 r)).run Tryz.prog w = .ok (.string R) w := fun w => by
      rw [run_convert_int_string w 21 9 .i32 r (by kernel_rfl) Tryz.underlying9, hR]
    rw [hR] at f1 f2 f3
    clear hR
    go_enter Tryz.func63, Tryz.ntmps63
    go_wp2_with (fail)
    refine (HV.out _).mono ?_
    rintro e w1 ⟨rfl, rfl⟩
    clear HV
    have hlast : ∀ (k : Nat) (hk : k < R.size), k = R.size - 1 → 128 ≤ ((R[k]'hk).toNat : Int) := by
      rintro k hk rfl
      have := f3 hk
      omega
    have hsz : R.size = 2 ∨ R.size = 3 ∨ R.size = 4 := by omega
    have hib : ∀ (m : Int) (t : ByteArray) (w : World), 128 ≤ m → m < 256 → (∀ x ∈ t.data.toList, x.toNat < 128) → Calls Tryz.prog 84 #[.string t, .int .u8 m] w fun e w' => e = .returned (.int .i64 (-1)) ∧ w' = w := fun m t w h1 h2 ht => by
      have h := Tryz.strings_IndexByte t m w
      rw [ib_no (fun hm => by
        have := ht _ hm
        have e : (m.toNat.toUInt8).toNat = m.toNat := by simp only [Nat.toUInt8, UInt8.toNat_ofNat']; omega
        rw [e] at this; omega)] at h
      exact h
    have he3 : ends3.size = 3 := rfl
    have w1i : IntKind.i64.wrap 1 = 1 := rfl
    have w2i : IntKind.i64.wrap 2 = 2 := rfl
    have w3i : IntKind.i64.wrap 3 = 3 := rfl
    clear f1 f2 f3
    rcases hsz with hsz | hsz | hsz
    · have hk : 1 < R.size := by omega
      have hl := hlast 1 hk (by omega)
      have hl2 : ((R[1]'hk).toNat : Int) < 256 := by have := (R[1]'hk).toNat_lt; omega
      have n1 : ((63 : Int) != ((R[1]'hk).toNat : Int)) = true := by rw [bne, beq_no (by omega)]; rfl
      have he1 : ∀ w, (Instr.index 9 (.string ends3) (.int .i64 1)).run Tryz.prog w = .ok (.int .u8 63) w := fun w => ends_at 1 (by omega) w
      have x1 : ends3.extract 2 3 = ⟨#[35]⟩ := rfl
      have HIB1 := Lib.hid (fun w => hib _ ⟨#[35]⟩ w hl hl2 (by decide))
      clear hlast hib hl hl2
      go_wp2
      go_step3
      go_wp2
      go_loopg [9] 1 (fun g v wr => g = 1 ∧ v = .int .i64 1 ∧ wr = w1)
      case atStart => exact ⟨rfl, rfl, rfl⟩
      case round =>
        obtain ⟨rfl, rfl, rfl⟩ := hrel
        go_wp2
        go_step3
        go_wp2
        go_quiet (fail)
        go_wp2
        go_quiet ((go_at_call 84; exact quiet_more_same (HIB1.out _)))
        go_wp2
        simp only [Exit.noGoto_ret, Exit.inBlock, Exit.then]
        go_ret
        exact ⟨rfl, below_drewN (Below.refl _ _) _⟩
    · have hk : 2 < R.size := by omega
      have hl := hlast 2 hk (by omega)
      have hl2 : ((R[2]'hk).toNat : Int) < 256 := by have := (R[2]'hk).toNat_lt; omega
      have n1 : ((35 : Int) != ((R[2]'hk).toNat : Int)) = true := by rw [bne, beq_no (by omega)]; rfl
      have he1 : ∀ w, (Instr.index 9 (.string ends3) (.int .i64 2)).run Tryz.prog w = .ok (.int .u8 35) w := fun w => ends_at 2 (by omega) w
      have x1 : ends3.extract 3 3 = ⟨#[]⟩ := rfl
      have HIB1 := Lib.hid (fun w => hib _ ⟨#[]⟩ w hl hl2 (by decide))
      clear hlast hib hl hl2
      go_wp2
      go_step3
      go_wp2
      go_loopg [9] 1 (fun g v wr => g = 1 ∧ v = .int .i64 2 ∧ wr = w1)
      case atStart => exact ⟨rfl, rfl, rfl⟩
      case round =>
        obtain ⟨rfl, rfl, rfl⟩ := hrel
        go_wp2
        go_step3
        go_wp2
        go_quiet (fail)
        go_wp2
        go_quiet ((go_at_call 84; exact quiet_more_same (HIB1.out _)))
        go_wp2
        simp only [Exit.noGoto_ret, Exit.inBlock, Exit.then]
        go_ret
        exact ⟨rfl, below_drewN (Below.refl _ _) _⟩
    · go_wp2
      go_step3
      go_wp2
      go_loopg [9] 1 (fun g v wr => g = 1 ∧ v = .int .i64 3 ∧ wr = w1)
      case atStart => exact ⟨rfl, rfl, rfl⟩
      case round =>
        obtain ⟨rfl, rfl, rfl⟩ := hrel
        go_wp2
        go_ret
        exact ⟨rfl, Below.refl _ _⟩
end Go.Proofs.YtdolmjeiakdfhaaGreatDoor
