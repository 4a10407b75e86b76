/-
  Origin; beside, and resolved. Conditions: as each says.
-/
import Derived.Test.YtdolmjeiakdfhaaGreatDoorUkY
import Derived.Test.YtdolmjeiakdfhaaGreatDoorGrd
import Derived.Test.YtdolmjeiakdfhaaGreatDoorUrM
import Derived.Lib.AppendZeros
namespace Go.Proofs.YtdolmjeiakdfhaaGreatDoor
set_option linter.unusedSimpArgs false
set_option linter.unusedVariables false
open Go.RowKit

theorem parse_no0 {s : List UInt8} {n : Nat} (h : Urly.parse s = .error n) : n ≠ 0 := by
  unfold Urly.parse at h
  split at h
  · injection h with h; omega
  · split at h
    · injection h with h; omega
    · split at h
      · injection h with h; omega
      · split at h
        · injection h with h; omega
        · simp only at h
          split at h
          · cases h
          · injection h with h; omega
/-- the cells of an address, each. -/
theorem cells8 {w : World} {b : Nat} {u : Urly.U} {v : Value} (h : Box w b 62 (ucells u v)) : w.cell? ⟨b, 0, none⟩ = some (.string (byt u.scheme)) ∧ w.cell? ⟨b, 1, none⟩ = some (.string (byt u.host)) ∧ w.cell? ⟨b, 2, none⟩ = some (.int .i64 (u.port : Int)) ∧ w.cell? ⟨b, 3, none⟩ = some v ∧ w.cell? ⟨b, 4, none⟩ = some (.string (byt u.query)) ∧ w.cell? ⟨b, 5, none⟩ = some (.bool u.asks) ∧ w.cell? ⟨b, 6, none⟩ = some (.string (byt u.fragment)) ∧ w.cell? ⟨b, 7, none⟩ = some (.bool u.points) := ⟨h.cell 0, h.cell 1, h.cell 2, h.cell 3, h.cell 4, h.cell 5, h.cell 6, h.cell 7⟩
def WriteOut (r : Except Nat (List UInt8)) (w : World) (e : Ending) (w' : World) : Prop :=
  e = .returned (.tuple (match r with
    | .ok s => #[.string (byt s), .int .i64 0]
    | .error n => #[.string (byt []), .int .i64 (n : Int)])) ∧ Below w.heap.size w w'
theorem writeOut_ok {r : Except Nat (List UInt8)} {s : List UInt8} {S : ByteArray} {w w' : World} {e : Ending} (h : r = .ok s) (hS : byt s = S) (he : e = .returned (.tuple #[.string S, .int .i64 0])) (hb : Below w.heap.size w w') : WriteOut r w e w' := by subst h; subst hS; exact ⟨he, hb⟩
theorem writeOut_no {r : Except Nat (List UInt8)} {n : Nat} {m : Int} {w w' : World} {e : Ending} (h : r = .error n) (hm : (n : Int) = m) (he : e = .returned (.tuple #[.string (byt []), .int .i64 m])) (hb : Below w.heap.size w w') : WriteOut r w e w' := by subst h; subst hm; exact ⟨he, hb⟩
set_option maxRecDepth 100000 in
set_option maxHeartbeats 8000000 in
theorem uorigin_any (s : List UInt8) (w : World) (he : Env w) :
    Calls Tryz.prog 9 #[.string (byt s)] w (WriteOut (Urly.originOf s) w) := by
  have HP : Hid (Calls Tryz.prog 22 #[.string (byt s)] w (ParseOut s w)) := Lib.hid (parse_any s w he)
  have HO : Hid (∀ (u : Urly.U) (v : Value) (w1 : World), Urly.Sz u → Below w.heap.size w w1 → Calls Tryz.prog 23 #[.agg (ucells u v)] w1 (TextOut (Urly.origin u) w1)) := Lib.hid (fun u v w1 hu h1 => origin_any u v w1 hu (he.below h1))
  obtain ⟨S, hS⟩ : ∃ S, byt s = S := ⟨_, rfl⟩
  rw [hS] at HP ⊢
  clear hS he
  go_enter Tryz.func9, Tryz.ntmps9
  go_wp2_with (fail)
  refine HP.out.mono ?_
  rintro e w1 (⟨u, v, hp, rfl, hown, hlen, hw1⟩ | ⟨n, hp, rfl, hw1⟩)
  · have HOR : Hid (Urly.originOf s = .ok (Urly.origin u)) := Lib.hid (Urly.origin_ok hp)
    have HSZ := Lib.hid (Urly.parse_size hp).1
    have HW1 := Lib.hid hw1
    obtain ⟨A, cap, rfl⟩ := own_slice hown
    have h12 := ucells_one u A u.path.length cap
    have hisz : (Tryz.prog.info? 62).map (·.size) = some (ucells u (.slice A u.path.length cap)).size := info_url
    have HOO := Lib.hid (HO.out u (.slice A u.path.length cap))
    have hcsz : (8 : Nat) = (ucells u (.slice A u.path.length cap)).size := rfl
    obtain ⟨cs, hcs⟩ : ∃ cs, ucells u (.slice A u.path.length cap) = cs := ⟨_, rfl⟩
    rw [hcs] at h12 hisz HOO hcsz ⊢
    have HCZ := Lib.hid hcsz
    clear hcsz hcs hp hw1 hown hlen HO HP
    go_wp2_with (first | (refine wpList_store_box rfl 62 (.tmp 4) (.tmp 9) rfl w1.heap.size cs rfl rfl 62 _ (Box.new w1 _ _) hisz (by rw [← HCZ.out]; rfl) h12 ?_; intro w3 hx3 hu3 hz3) | (refine wpList_load_row rfl 62 (.tmp 4) rfl w1.heap.size rfl _ cs (0, 0) _ hx3 Tryz.underlying62 rfl hisz ?_))
    have hb13 : Below w1.heap.size w1 w3 := (below1 w1 _).trans (hu3.own (Nat.le_refl _) (by simp))
    have HW3 : Hid (Below w.heap.size w w3) := Lib.hid (HW1.out.trans (hb13.mono HW1.out.size))
    clear hb13 hu3 hx3 hz3
    refine (HOO.out _ HSZ.out HW3.out).mono ?_
    rintro e w4 ⟨rfl, hw4⟩
    have HW4 := Lib.hid (HW3.out.trans (hw4.mono HW3.out.size))
    clear hw4
    go_wp2
    go_returns
    exact writeOut_ok HOR.out rfl rfl HW4.out
  · have HOR : Hid (Urly.originOf s = .error n) := Lib.hid (Urly.origin_fail hp)
    have HW1 := Lib.hid hw1
    have hn0 : n ≠ 0 := parse_no0 hp
    obtain ⟨m, hm⟩ : ∃ m : Int, (n : Int) = m := ⟨_, rfl⟩
    have hm0 : (m != 0) = true := by rw [bne, beq_no (by omega)]; rfl
    have HM := Lib.hid hm
    rw [hm]
    clear hm hn0 hp hw1 HO HP
    go_wp2_with (refine wpList_store_box rfl 62 (.tmp 4) (.tmp 9) rfl w1.heap.size uzero rfl rfl 62 _ (Box.new w1 _ _) info_url rfl uzero_one ?_; intro w3 hx3 hu3 hz3)
    have hb13 : Below w1.heap.size w1 w3 := (below1 w1 _).trans (hu3.own (Nat.le_refl _) (by simp))
    have HW3 : Hid (Below w.heap.size w w3) := Lib.hid (HW1.out.trans (hb13.mono HW1.out.size))
    go_returns
    exact writeOut_no HOR.out HM.out rfl HW3.out
end Go.Proofs.YtdolmjeiakdfhaaGreatDoor

namespace Go.Proofs.YtdolmjeiakdfhaaGreatDoor
set_option linter.unusedSimpArgs false
set_option linter.unusedVariables false
open Go.RowKit

/-- a row of one's own that is empty, with room. -/
def GrowOut (w : World) (e : Ending) (w' : World) : Prop := ∃ v, e = .returned v ∧ w'.ownsRow w.heap.size 9 1 v 0 [] ∧ Below w.heap.size w w'
set_option maxRecDepth 100000 in
set_option maxHeartbeats 4000000 in
theorem grow_nil (n : Nat) (h0 : 0 < n) (hn : n ≤ 100000) (w : World) :
    Calls Tryz.prog 129 #[.slice none 0 0, .int .i64 (n : Int)] w (GrowOut w) := by
  obtain ⟨i0, hi, hi0, hi1, hi2⟩ := info_parts txt_info
  have hap := Lib.hid (fun ty w => Lib.run_append_nil_zeros (P := Tryz.prog) w 33 3 ty 9 i0 (.string ByteArray.empty) .i64 .i64 Tryz.underlying33 Tryz.underlying3 hi hi0 n h0 (by omega) (by omega) (by rw [hi2]; omega))
  have d1 : ¬ (n : Int) < 0 := by omega
  have d2 : (0 : Int) < (n : Int) := by omega
  have d3 : decide ((n : Int) > 0) = true := decide_eq_true (by omega)
  have hwr : IntKind.i64.wrap (n : Int) = (n : Int) := by rw [IntKind.wrap_i64]; omega
  go_enter Tryz.func129, Tryz.ntmps129
  go_wp2_with (at_builtin; refine Lib.wpList_append_run _ rfl _ _ _ _ rfl _ _ rfl rfl _ _ (hap.out _ _) ?_)
  go_ret
  have hge := grownCap_ge w n 0 9
  have hle := grownCap_le_maxLen w n 0 9 (by unfold maxLen; omega)
  unfold maxLen at hle
  refine ⟨_, rfl, box_own (cur := (Builtin.zeroCells (Value.string ByteArray.empty).cells n ++ Builtin.zeroCells (Value.string ByteArray.empty).cells (grownCap w n 0 9 - n)).toList) (Nat.le_refl _) ?_ (Nat.zero_le _) hle ?_ rfl rfl, (below_drewN (Below.refl _ w) 1).trans (below1 w.drew _)⟩
  · exact Box.new w.drew _ _
  · rw [Array.length_toList, Array.size_append, size_zeroCells, size_zeroCells]
    show n * 1 + _ * 1 = _
    omega
/-! ### two rows, one behind the other -/
theorem adr_block (a : Addr) (j : Nat) : (a.add j).block = a.block := by unfold Addr.add; split <;> rfl
def ConcatOut (l1 l2 : List (List UInt8)) (w : World) (e : Ending) (w' : World) : Prop := ∃ v, e = .returned v ∧ w'.ownsRow w.heap.size 9 1 v (l1 ++ l2).length (txts (l1 ++ l2)) ∧ Below w.heap.size w w'
theorem txts_app (a b : List (List UInt8)) : txts (a ++ b) = txts a ++ txts b := by simp [txts]
theorem txts_one (l : List (List UInt8)) : ∀ u ∈ txts l, u.oneCell' = true := by
  intro u hu
  simp only [txts, List.mem_map] at hu
  obtain ⟨x, _, rfl⟩ := hu
  rfl
set_option maxRecDepth 100000 in
set_option maxHeartbeats 4000000 in
theorem concat_any (l1 l2 : List (List UInt8)) (a1 a2 : Addr) (c1 c2 b : Nat) (w : World) (h1 : l1.length ≤ 2000) (h2 : l2.length ≤ 2000) (h0 : 0 < l2.length)
    (hb : Box w b 33 #[.slice (some a1) l1.length c1, .slice (some a2) l2.length c2])
    (hr1 : ∀ (j : Nat) (u : Value), (txts l1)[j]? = some u → w.cell? (a1.add j) = some u) (hr2 : ∀ (j : Nat) (u : Value), (txts l2)[j]? = some u → w.cell? (a2.add j) = some u) (hl1 : a1.block < w.heap.size) (hl2 : a2.block < w.heap.size) :
    Calls Tryz.prog 105 #[.slice (some ⟨b, 0, none⟩) 2 2] w (ConcatOut l1 l2 w) := by
  obtain ⟨i0, hi, hi0, hi1, hi2⟩ := info_parts txt_info
  have HG : Hid (∀ w, Calls Tryz.prog 129 #[.slice none 0 0, .int .i64 ((l1.length : Int) + (l2.length : Int))] w (GrowOut w)) := Lib.hid (fun w => by
    have := grow_nil (l1.length + l2.length) (by omega) (by omega) w
    rwa [Int.natCast_add] at this)
  have HB := Lib.hid hb
  have HR1 := Lib.hid hr1
  have HR2 := Lib.hid hr2
  obtain ⟨n1, hn1⟩ : ∃ n, l1.length = n := ⟨_, rfl⟩
  obtain ⟨n2, hn2⟩ : ∃ n, l2.length = n := ⟨_, rfl⟩
  rw [hn1, hn2] at HG HB
  rw [hn1] at h1
  rw [hn2] at h2 h0
  have HN := Lib.hid (And.intro hn1 hn2)
  have x0 : w.cell? ⟨b, 0, none⟩ = some (.slice (some a1) n1 c1) := HB.out.cell 0
  have x1 : w.cell? ⟨b, 1, none⟩ = some (.slice (some a2) n2 c2) := HB.out.cell 1
  have w1 : IntKind.i64.wrap ((n1 : Int) + (n2 : Int)) = (n1 : Int) + (n2 : Int) := by rw [IntKind.wrap_i64]; omega
  have w2 : IntKind.i64.wrap (n1 : Int) = (n1 : Int) := by rw [IntKind.wrap_i64]; omega
  have g1 : ¬ (n1 : Int) < 0 := by omega
  have g2 : ¬ (n1 : Int) + (n2 : Int) < 0 := by omega
  have g3 : decide ((n1 : Int) < 0) = false := decide_eq_false g1
  have g4 : decide ((n1 : Int) + (n2 : Int) < 0) = false := decide_eq_false g2
  clear hb hr1 hr2 hn1 hn2
  go_enter Tryz.func105, Tryz.ntmps105
  go_wp2
  go_loopg [3, 5, 11] 2 (fun g s _ v wr => wr = w ∧ ((g = 2 ∧ s = .int .i64 0 ∧ v = .int .i64 0) ∨ (g = 1 ∧ s = .int .i64 (n1 : Int) ∧ v = .int .i64 1) ∨ (g = 0 ∧ s = .int .i64 ((n1 : Int) + (n2 : Int)) ∧ v = .int .i64 2)))
  case atStart => exact ⟨rfl, .inl ⟨rfl, rfl, rfl⟩⟩
  case round =>
    obtain ⟨rfl, ⟨rfl, rfl, rfl⟩ | ⟨rfl, rfl, rfl⟩ | ⟨rfl, rfl, rfl⟩⟩ := hrel
    · go_wp2
      go_roundg 1
      case measure => omega
      case rel => exact ⟨rfl, .inr (.inl ⟨rfl, by go_num, rfl⟩)⟩
    · go_wp2
      go_roundg 0
      case measure => omega
      case rel => exact ⟨rfl, .inr (.inr ⟨rfl, by go_num, rfl⟩)⟩
    · go_wp2_with (fail)
      refine (HG.out _).mono ?_
      rintro e w3 ⟨v, rfl, hown, hw3⟩
      obtain ⟨A0, cap0, rfl⟩ := own_slice hown
      obtain ⟨wa, rfl⟩ : ∃ wa : World, wa = wr := ⟨_, rfl⟩
      have HO := Lib.hid hown
      have HW := Lib.hid hw3
      have HX : Hid (∀ {w4 : World}, Below wa.heap.size wa w4 → Box w4 b 33 #[.slice (some a1) n1 c1, .slice (some a2) n2 c2] ∧ (∀ (j : Nat) (u : Value), (txts l1)[j]? = some u → w4.cell? (a1.add j) = some u) ∧ (∀ (j : Nat) (u : Value), (txts l2)[j]? = some u → w4.cell? (a2.add j) = some u)) := Lib.hid (fun h4 => ⟨HB.out.below h4 HB.out.lt, fun j u hu => by rw [h4.cell (p := a1.add j) (by rw [adr_block]; exact hl1)]; exact HR1.out j u hu, fun j u hu => by rw [h4.cell (p := a2.add j) (by rw [adr_block]; exact hl2)]; exact HR2.out j u hu⟩)
      clear hown hw3 x0 x1 HG HR1 HR2
      go_wp2
      go_loopg [6, 8, 27] 2 (fun g t _ v w4 => Below wa.heap.size wa w4 ∧ ((g = 2 ∧ v = .int .i64 0 ∧ w4.ownsRow wa.heap.size 9 1 t 0 []) ∨ (g = 1 ∧ v = .int .i64 1 ∧ w4.ownsRow wa.heap.size 9 1 t n1 (txts l1)) ∨ (g = 0 ∧ v = .int .i64 2 ∧ w4.ownsRow wa.heap.size 9 1 t (n1 + n2) (txts l1 ++ txts l2))))
      case atStart => exact ⟨HW.out, .inl ⟨rfl, rfl, HO.out⟩⟩
      case round =>
        obtain ⟨hw4, ⟨rfl, rfl, hown⟩ | ⟨rfl, rfl, hown⟩ | ⟨rfl, rfl, hown⟩⟩ := hrel
        · have HO4 := Lib.hid hown
          have HW4 := Lib.hid hw4
          have hzr := hw4.size
          obtain ⟨A, cap, rfl⟩ := own_slice hown
          have hx0 : wr.cell? ⟨b, 0, none⟩ = some (.slice (some a1) n1 c1) := (HX.out hw4).1.cell 0
          have HRA := Lib.hid (HX.out hw4).2.1
          clear hown hw4
          go_wp2_with (at_builtin; refine wpList_append_own _ rfl (.tmp 31) (.tmp 32) 33 rfl wa.heap.size 9 i0 (.string ByteArray.empty) 1 16 Tryz.underlying33 hi hi0 hi1 hi2 rfl (by decide) (.slice A 0 cap) 0 [] rfl HO4.out a1 n1 c1 (txts l1) rfl ?c2 HRA.out (txts_one _) ?c3 ?c4 ?c5 ?_)
          case c2 => rw [txts_len, HN.out.1, Nat.mul_one]
          case c3 => unfold maxLen; omega
          case c4 => omega
          case c5 => omega
          intro v' w6 hown' hgrow _
          have HOW := Lib.hid hown'
          have HW6 : Hid (Below wa.heap.size wa w6) := Lib.hid (grown_below HW4.out hgrow HO4.out hzr)
          clear hown' hgrow
          go_wp2
          go_roundg 1
          case measure => omega
          case rel => exact ⟨HW6.out, .inr (.inl ⟨rfl, rfl, by have := HOW.out; simpa using this⟩)⟩
        · have HO4 := Lib.hid hown
          have HW4 := Lib.hid hw4
          have hzr := hw4.size
          obtain ⟨A, cap, rfl⟩ := own_slice hown
          have hx0 : wr.cell? ⟨b, 1, none⟩ = some (.slice (some a2) n2 c2) := (HX.out hw4).1.cell 1
          have HRA := Lib.hid (HX.out hw4).2.2
          clear hown hw4
          go_wp2_with (at_builtin; refine wpList_append_own _ rfl (.tmp 31) (.tmp 32) 33 rfl wa.heap.size 9 i0 (.string ByteArray.empty) 1 16 Tryz.underlying33 hi hi0 hi1 hi2 rfl (by decide) (.slice A n1 cap) n1 (txts l1) rfl HO4.out a2 n2 c2 (txts l2) rfl ?c2 HRA.out (txts_one _) ?c3 ?c4 ?c5 ?_)
          case c2 => rw [txts_len, HN.out.2, Nat.mul_one]
          case c3 => unfold maxLen; omega
          case c4 => omega
          case c5 => omega
          intro v' w6 hown' hgrow _
          have HOW := Lib.hid hown'
          have HW6 : Hid (Below wa.heap.size wa w6) := Lib.hid (grown_below HW4.out hgrow HO4.out hzr)
          clear hown' hgrow
          go_wp2
          go_roundg 0
          case measure => omega
          case rel => exact ⟨HW6.out, .inr (.inr ⟨rfl, rfl, HOW.out⟩)⟩
        · have HO4 := Lib.hid hown
          have HW4 := Lib.hid hw4
          clear hown hw4
          go_wp2
          go_ret
          exact ⟨_, rfl, by rw [List.length_append, HN.out.1, HN.out.2, txts_app]; exact HO4.out, HW4.out⟩
end Go.Proofs.YtdolmjeiakdfhaaGreatDoor

namespace Go.Proofs.YtdolmjeiakdfhaaGreatDoor
set_option linter.unusedSimpArgs false
set_option linter.unusedVariables false
open Go.RowKit

theorem pre_one (s : List UInt8) : Lib.hasPrefix s [47] = decide (s.head? = some 47) := by
  unfold Lib.hasPrefix
  match s with
  | [] => rfl
  | a :: r =>
    by_cases h1 : a = 47
    · subst h1; simp [List.isPrefixOf]
    · have : ¬ (47 : UInt8) = a := fun e => h1 e.symm
      simp [List.isPrefixOf, h1, this]
theorem cutone_any (s : List UInt8) (w : World) : Calls Tryz.prog 44 #[.string (byt s), .string ⟨#[47]⟩] w fun e w' => e = .returned (.tuple #[.string (byt (Urly.bare s)), .bool (decide (s.head? = some 47))]) ∧ w' = w := by
  have h := Tryz.strings_CutPrefix (byt s) ⟨#[47]⟩ w
  rw [byt_data, show (⟨#[47]⟩ : ByteArray).data.toList = [47] from rfl, pre_one, pre_bare] at h
  exact h
/-- a value's block is that of another one, or a new one. -/
def Far (v v0 : Value) (B : Nat) : Prop := ∀ x, v.ownBlock = some x → v0.ownBlock = some x ∨ B ≤ x
theorem far_own {w : World} {base B : Nat} {e : TypeId} {k n : Nat} {v v0 : Value} {xs : List Value} (h : w.ownsRow base e k v n xs) (hb : B ≤ base) : Far v v0 B := fun x hx => .inr (by have := (h.lt x hx).1; omega)
def BesideOut (b : Urly.U) (v0 : Value) (r : List UInt8) (w : World) (e : Ending) (w' : World) : Prop :=
  (∃ u v, Urly.beside b r = .ok u ∧ e = .returned (.tuple #[.agg (ucells u v), .int .i64 0]) ∧ Rd w' 1 (txts u.path) u.path.length v ∧ Far v v0 w.heap.size ∧ Below w.heap.size w w') ∨
  (∃ n : Nat, Urly.beside b r = .error n ∧ n ≠ 0 ∧ e = .returned (.tuple #[.agg uzero, .int .i64 (n : Int)]) ∧ Below w.heap.size w w')
theorem besideOut_err {b : Urly.U} {v0 : Value} {r : List UInt8} {w w' : World} {e : Ending} (h : Urly.beside b r = .error 3) (he : e = .returned (.tuple #[.agg uzero, .int .i64 3])) (hb : Below w.heap.size w w') : BesideOut b v0 r w e w' := .inr ⟨3, h, by omega, he, hb⟩
theorem besideOut_ok {b : Urly.U} {v0 : Value} {r : List UInt8} {w w' : World} {e : Ending} {u : Urly.U} {v : Value} (h : Urly.beside b r = .ok u) (he : e = .returned (.tuple #[.agg (ucells u v), .int .i64 0])) (ho : Rd w' 1 (txts u.path) u.path.length v) (hf : Far v v0 w.heap.size) (hb : Below w.heap.size w w') : BesideOut b v0 r w e w' := .inl ⟨u, v, h, he, ho, hf, hb⟩
theorem rd_len {w : World} {k n m : Nat} {xs : List Value} {v : Value} (h : m = n) (hr : Rd w k xs n v) : Rd w k xs m v := h ▸ hr
theorem adr_at (g o j : Nat) : Addr.add ⟨g, o, none⟩ j = ⟨g, o + j, none⟩ := by
  unfold Addr.add
  by_cases h0 : j = 0
  · subst h0; simp
  · simp [h0]
theorem new3b (w : World) (a c : Array Value) (t : TypeId) (o : Obj) : Box (((w.alloc o).alloc (.cells a t)).alloc (.cells c t)) (w.heap.size + 1) t a := (new2 w _ _ _).alloc _
section
variable {b : Urly.U} {r : List UInt8}
theorem bes_no {t : Urly.Tail} (ht : Urly.tail r = t) (h : (t.query.isSome && t.fragment.isSome) = false ∨ Urly.segments (Urly.bare t.path) = none) : Urly.beside b r = .error 3 := by
  subst ht
  unfold Urly.beside
  simp only
  rcases h with h | h
  · cases hq : (Urly.tail r).query with
    | none => rfl
    | some q => cases hf : (Urly.tail r).fragment with
      | none => rfl
      | some f => rw [hq, hf] at h; exact absurd h (by simp)
  · rw [h]
    cases hq : (Urly.tail r).query <;> cases hf : (Urly.tail r).fragment <;> rfl
theorem bes_here {t : Urly.Tail} {q f : List UInt8} {l : List (List UInt8)} (ht : Urly.tail r = t) (hq : t.query = some q) (hf : t.fragment = some f) (hl : Urly.segments (Urly.bare t.path) = some l) (h : t.path = []) : Urly.beside b r = .ok ⟨b.scheme, b.host, b.port, b.path, if t.asks then q else b.query, t.asks || b.asks, f, t.points⟩ := by
  subst ht
  unfold Urly.beside
  simp only
  rw [hq, hf, hl]
  simp only
  rw [if_pos h]
theorem bes_there {t : Urly.Tail} {q f : List UInt8} {l m : List (List UInt8)} (ht : Urly.tail r = t) (hq : t.query = some q) (hf : t.fragment = some f) (hl : Urly.segments (Urly.bare t.path) = some l) (h : t.path ≠ []) (hm : (if t.path.head? = some 47 then l else b.path.dropLast ++ l) = m) : Urly.beside b r = .ok ⟨b.scheme, b.host, b.port, Urly.tidy m, q, t.asks, f, t.points⟩ := by
  subst ht
  subst hm
  unfold Urly.beside
  simp only
  rw [hq, hf, hl]
  simp only
  rw [if_neg h]
end
set_option maxRecDepth 100000 in
set_option maxHeartbeats 8000000 in
theorem beside_any (b : Urly.U) (v : Value) (r : List UInt8) (w : World) (hbs : Urly.Sz b) (hbp : b.path ≠ []) (hbl : b.path.length ≤ 502) (he : Env w) (hv : Rd w 1 (txts b.path) b.path.length v) (hr : r.length ≤ 500) :
    Calls Tryz.prog 77 #[.agg (ucells b v), .string (byt r)] w (BesideOut b v r w) := by
  have HE := Lib.hid he
  have h6 := he.z
  have HV := Lib.hid hv
  obtain ⟨A, cap, rfl, hc1, hc2, hc3⟩ := hv
  obtain ⟨g, off, rfl, hg, hcells⟩ := hc3 (List.length_pos_iff.2 hbp)
  have HCE := Lib.hid hcells
  obtain ⟨t, ht⟩ : ∃ t, Urly.tail r = t := ⟨_, rfl⟩
  have htl := (Urly.tail_size r).1
  rw [ht] at htl
  have htp : t.path.length ≤ 500 := by omega
  have HTL : Hid (∀ (c0 c1 c2 c3 c4 c5 c6 c7 : Value) (w1 : World), Box w1 (w.heap.size + 1 + 1) 62 #[c0, c1, c2, c3, c4, c5, c6, c7] → Calls Tryz.prog 47 #[.pointer (some ⟨w.heap.size + 1 + 1, 0, none⟩), .string (byt r)] w1 (fun e w' => e = .returned (.tuple #[.string (byt t.path), .bool (t.query.isSome && t.fragment.isSome)]) ∧ Box w' (w.heap.size + 1 + 1) 62 (tcells c0 c1 c2 c3 t) ∧ Upd w1 w' (w.heap.size + 1 + 1))) := Lib.hid (fun c0 c1 c2 c3 c4 c5 c6 c7 w1 h1 => by
    have := tail_any r (w.heap.size + 1 + 1) c0 c1 c2 c3 c4 c5 c6 c7 w1 h1 (by omega)
    unfold TailOut at this
    rwa [ht] at this)
  have HCP : Hid (∀ w, Calls Tryz.prog 44 #[.string (byt t.path), .string ⟨#[47]⟩] w fun e w' => e = .returned (.tuple #[.string (byt (Urly.bare t.path)), .bool (decide (t.path.head? = some 47))]) ∧ w' = w) := Lib.hid (fun w => cutone_any t.path w)
  have HSG : Hid (∀ w1, Below w.heap.size w w1 → Calls Tryz.prog 48 #[.string (byt (Urly.bare t.path))] w1 (SegOut (Urly.bare t.path) w1)) := Lib.hid (fun w1 hw1 => segments_any (Urly.bare t.path) w1 (by have := bare_len t.path; omega) (HE.out.below hw1))
  have HBL : Hid ((Urly.bare t.path).length ≤ 500) := Lib.hid (by have := bare_len t.path; omega)
  have HTT := Lib.hid ht
  have htz := byt_list t.path
  obtain ⟨kk, hkk⟩ : ∃ kk, (t.query.isSome && t.fragment.isSome) = kk := ⟨_, rfl⟩
  rw [hkk] at HTL
  have HKK := Lib.hid hkk
  obtain ⟨root, hroot⟩ : ∃ k, decide (t.path.head? = some 47) = k := ⟨_, rfl⟩
  rw [hroot] at HCP
  have HRT := Lib.hid hroot
  obtain ⟨bp, hbp2⟩ : ∃ l, Urly.bare t.path = l := ⟨_, rfl⟩
  rw [hbp2] at HCP HSG HBL
  have HBP := Lib.hid hbp2
  obtain ⟨BP, hBP⟩ : ∃ C, byt bp = C := ⟨_, rfl⟩
  rw [hBP] at HCP HSG
  obtain ⟨TP, hTP⟩ : ∃ C, byt t.path = C := ⟨_, rfl⟩
  rw [hTP] at HCP HTL htz
  obtain ⟨RR, hRR⟩ : ∃ C, byt r = C := ⟨_, rfl⟩
  rw [hRR] at HTL ⊢
  have HTZ := Lib.hid htz
  obtain ⟨n, hn⟩ : ∃ n, b.path.length = n := ⟨_, rfl⟩
  rw [hn] at hc1 hbl HV
  have HN := Lib.hid hn
  have hpos : 0 < n := by rw [← hn]; exact List.length_pos_iff.2 hbp
  have HB := Lib.hid (Box.new w 62 (ucells b (.slice (some ⟨g, off, none⟩) b.path.length cap)))
  have HW0 : Hid (Below w.heap.size w (w.alloc (.cells (ucells b (.slice (some ⟨g, off, none⟩) b.path.length cap)) 62))) := Lib.hid (below1 w _)
  obtain ⟨c0, c1, c2, c3, c4, c5, c6, c7⟩ := cells8 HB.out
  rw [hn] at c3 HB HW0 c0 c1 c2 c4 c5 ⊢
  obtain ⟨cs, hcs⟩ : ∃ cs, ucells b (.slice (some ⟨g, off, none⟩) n cap) = cs := ⟨_, rfl⟩
  rw [hcs] at c3 HB HW0 c0 c1 c2 c4 c5 ⊢
  have HCS := Lib.hid hcs
  have k0 : cs[0]? = some (.string (byt b.scheme)) := by rw [← hcs]; rfl
  have k1 : cs[1]? = some (.string (byt b.host)) := by rw [← hcs]; rfl
  have k2 : cs[2]? = some (.int .i64 (b.port : Int)) := by rw [← hcs]; rfl
  have k3 : cs[3]? = some (.slice (some ⟨g, off, none⟩) n cap) := by rw [← hcs]; rfl
  have k4 : cs[4]? = some (.string (byt b.query)) := by rw [← hcs]; rfl
  have k5 : cs[5]? = some (.bool b.asks) := by rw [← hcs]; rfl
  have HKS := Lib.hid (And.intro k3 (And.intro k4 k5))
  have HBS := Lib.hid hbs
  clear ht htl htp hkk hroot hbp2 hBP hTP hRR htz hn hcs hcells hc3 hbs hbp he hr c6 c7 k3 k4 k5
  go_enter Tryz.func77, Tryz.ntmps77
  go_wp2_with (refine wpList_store_box rfl 62 (.tmp 6) (.tmp 19) rfl (w.heap.size + 1 + 1) #[.string (byt b.scheme), .string (byt b.host), .int .i64 (b.port : Int), .slice none 0 0, .string ByteArray.empty, .bool false, .string ByteArray.empty, .bool false] rfl rfl 62 _ (new3 w _ _ _ _) info_url rfl (by simp [Value.oneCell']) ?_; intro w1 hx1 hu1 hz1)
  have HU1 := Lib.hid hx1
  have HW1 : Hid (Below w.heap.size w w1) := Lib.hid (((HW0.out.alloc (by simp) _).alloc (by simp; omega) _).trans (hu1.own (by omega) (by simp; omega)))
  have HB1 : Hid (Box w1 w.heap.size 62 cs) := Lib.hid (box_upd ((HB.out.alloc _).alloc _) hu1 (by omega))
  have HR1 : Hid (Box w1 (w.heap.size + 1) 62 uzero) := Lib.hid (box_upd (new3b w _ _ _ _) hu1 (by omega))
  clear hx1 hu1 hz1 c0 c1 c2 c3 c4 c5 HB HW0
  refine (HTL.out _ _ _ _ _ _ _ _ _ HU1.out).mono ?_
  rintro e w2 ⟨rfl, hx2, hu2⟩
  have HU2 := Lib.hid hx2
  have HW2 : Hid (Below w.heap.size w w2) := Lib.hid (HW1.out.trans (hu2.own (by omega) HW1.out.size))
  have HB2 : Hid (Box w2 w.heap.size 62 cs) := Lib.hid (box_upd HB1.out hu2 (by omega))
  have HR2 : Hid (Box w2 (w.heap.size + 1) 62 uzero) := Lib.hid (box_upd HR1.out hu2 (by omega))
  clear hx2 hu2 HU1 HW1 HB1 HR1 HTL
  go_wp2_with (fail)
  refine (HCP.out _).mono ?_
  rintro e wr ⟨rfl, rfl⟩
  go_wp2_with (fail)
  refine (HSG.out _ HW2.out).mono ?_
  rintro e w3 (⟨l, v3, hseg, rfl, hown, hlen, hb3⟩ | ⟨hseg, rfl, hb3⟩)
  rotate_left
  · have HP : Hid (Urly.beside b r = .error 3) := Lib.hid (bes_no HTT.out (.inr (by rw [HBP.out]; exact hseg)))
    have HR3 : Hid (Box w3 (w.heap.size + 1) 62 uzero) := Lib.hid (HR2.out.below hb3 HR2.out.lt)
    have HW3 : Hid (Below w.heap.size w w3) := Lib.hid (HW2.out.trans (hb3.mono HW2.out.size))
    clear hb3 hseg
    cases kk with
    | false =>
      go_wp2_with (refine wpList_store_box rfl 62 (.tmp 4) (.tmp 42) rfl (w.heap.size + 1) uzero rfl rfl 62 _ HR3.out info_url rfl uzero_one ?_; intro wz hxz huz hzz)
      refine bodyPost_ret (results_box_tmp rfl _ _ (w.heap.size + 1) 62 _ _ rfl hxz Tryz.underlying62 rfl info_url) rfl ?_
      exact besideOut_err HP.out rfl (HW3.out.trans (huz.own (by omega) HW3.out.size))
    | true =>
      go_wp2_with (refine wpList_store_box rfl 62 (.tmp 4) (.tmp 42) rfl (w.heap.size + 1) uzero rfl rfl 62 _ HR3.out info_url rfl uzero_one ?_; intro wz hxz huz hzz)
      refine bodyPost_ret (results_box_tmp rfl _ _ (w.heap.size + 1) 62 _ _ rfl hxz Tryz.underlying62 rfl info_url) rfl ?_
      exact besideOut_err HP.out rfl (HW3.out.trans (huz.own (by omega) HW3.out.size))
  have HR3 : Hid (Box w3 (w.heap.size + 1) 62 uzero) := Lib.hid (HR2.out.below hb3 HR2.out.lt)
  have HW3 : Hid (Below w.heap.size w w3) := Lib.hid (HW2.out.trans (hb3.mono HW2.out.size))
  have HB3 : Hid (Box w3 w.heap.size 62 cs) := Lib.hid (HB2.out.below hb3 HB2.out.lt)
  have HU3 := Lib.hid (HU2.out.below hb3 HU2.out.lt)
  have HO3 := Lib.hid hown
  have HLN := Lib.hid hlen
  have HPOS : Hid (0 < l.length) := Lib.hid (seg_pos hseg)
  have HSEG : Hid (Urly.segments (Urly.bare t.path) = some l) := Lib.hid (by rw [HBP.out]; exact hseg)
  clear hb3 hseg hown hlen HR2 HW2 HB2 HU2
  cases kk with
  | false =>
    have HP : Hid (Urly.beside b r = .error 3) := Lib.hid (bes_no HTT.out (.inl HKK.out))
    go_wp2_with (refine wpList_store_box rfl 62 (.tmp 4) (.tmp 42) rfl (w.heap.size + 1) uzero rfl rfl 62 _ HR3.out info_url rfl uzero_one ?_; intro wz hxz huz hzz)
    refine bodyPost_ret (results_box_tmp rfl _ _ (w.heap.size + 1) 62 _ _ rfl hxz Tryz.underlying62 rfl info_url) rfl ?_
    exact besideOut_err HP.out rfl (HW3.out.trans (huz.own (by omega) HW3.out.size))
  | true =>
    obtain ⟨q, f, hqf⟩ : ∃ q f, t.query = some q ∧ t.fragment = some f := by
      have hkk := HKK.out
      cases hq : t.query with
      | none => rw [hq] at hkk; exact absurd hkk (by simp)
      | some q => cases hf : t.fragment with
        | none => rw [hq, hf] at hkk; exact absurd hkk (by simp)
        | some f => exact ⟨q, f, rfl, rfl⟩
    unfold tcells at HU3
    rw [hqf.1, hqf.2] at HU3
    have HQF := Lib.hid hqf
    clear hqf HKK
    obtain ⟨A3, cap3, rfl⟩ := own_slice HO3.out
    by_cases hpe : t.path = []
    · have HBE := Lib.hid (bes_here (b := b) HTT.out HQF.out.1 HQF.out.2 HSEG.out hpe)
      have hte : TP.toList.isEmpty = true := by rw [HTZ.out, hpe]; rfl
      have y3 : w3.cell? ⟨w.heap.size + 1 + 1, 3, none⟩ = some (.slice none 0 0) := HU3.out.cell 3
      have z3 : w3.frozen? ⟨w.heap.size + 1 + 1, 3, none⟩ = false := HU3.out.frozen 3
      have x3 : w3.cell? ⟨w.heap.size, 3, none⟩ = some (.slice (some ⟨g, off, none⟩) n cap) := (HB3.out.cell 3).trans HKS.out.1
      clear hpe
      go_upto_region 9 with (fail)
      obtain ⟨w4, hw4⟩ : ∃ w4, w3.setCell ⟨w.heap.size + 1 + 1, 3, none⟩ (.slice (some ⟨g, off, none⟩) n cap) = w4 := ⟨_, rfl⟩
      rw [hw4]
      have HU4 : Hid (Box w4 (w.heap.size + 1 + 1) 62 #[.string (byt b.scheme), .string (byt b.host), .int .i64 (b.port : Int), .slice (some ⟨g, off, none⟩) n cap, .string (byt q), .bool t.asks, .string (byt f), .bool t.points]) := Lib.hid (by rw [← hw4]; exact HU3.out.set 3 _)
      have HR4 : Hid (Box w4 (w.heap.size + 1) 62 uzero) := Lib.hid (by rw [← hw4]; exact HR3.out.far (by simp) _)
      have HB4 : Hid (Box w4 w.heap.size 62 cs) := Lib.hid (by rw [← hw4]; exact HB3.out.far (by simp; omega) _)
      have HW4 : Hid (Below w.heap.size w w4) := Lib.hid (by rw [← hw4]; exact HW3.out.setCell (by simp; omega) _)
      clear hw4 y3 z3 x3 HU3 HR3 HB3 HW3
      have y5 : w4.cell? ⟨w.heap.size + 1 + 1, 5, none⟩ = some (.bool t.asks) := HU4.out.cell 5
      obtain ⟨ak, hak⟩ : ∃ k, t.asks = k := ⟨_, rfl⟩
      rw [hak] at y5 HBE HU4
      cases ak with
      | true =>
        go_wp2_with (first | (refine wpList_load_row rfl 62 (.tmp 6) rfl (w.heap.size + 1 + 1) rfl _ (ucells ⟨b.scheme, b.host, b.port, b.path, q, true, f, t.points⟩ (.slice (some ⟨g, off, none⟩) n cap)) (0, 0) _ HU4.out Tryz.underlying62 rfl info_url ?_) | (refine wpList_store_box rfl 62 (.tmp 4) (.tmp 58) rfl (w.heap.size + 1) (ucells ⟨b.scheme, b.host, b.port, b.path, q, true, f, t.points⟩ (.slice (some ⟨g, off, none⟩) n cap)) rfl rfl 62 _ HR4.out info_url rfl (ucells_one _ _ _ _) ?_; intro wz hxz huz hzz))
        refine bodyPost_ret (results_box_tmp rfl _ _ (w.heap.size + 1) 62 _ _ rfl hxz Tryz.underlying62 rfl info_url) rfl ?_
        have hbz : Below w.heap.size w wz := HW4.out.trans (huz.own (by omega) HW4.out.size)
        exact besideOut_ok HBE.out rfl (rd_len HN.out (HV.out.below hbz)) (fun x hx => .inl hx) hbz
      | false =>
        have x4 : w4.cell? ⟨w.heap.size, 4, none⟩ = some (.string (byt b.query)) := (HB4.out.cell 4).trans HKS.out.2.1
        have x5 : w4.cell? ⟨w.heap.size, 5, none⟩ = some (.bool b.asks) := (HB4.out.cell 5).trans HKS.out.2.2
        have y4 : w4.cell? ⟨w.heap.size + 1 + 1, 4, none⟩ = some (.string (byt q)) := HU4.out.cell 4
        have z4 : w4.frozen? ⟨w.heap.size + 1 + 1, 4, none⟩ = false := HU4.out.frozen 4
        have z5 : w4.frozen? ⟨w.heap.size + 1 + 1, 5, none⟩ = false := HU4.out.frozen 5
        go_wp2
        go_region
        obtain ⟨w5, hw5⟩ : ∃ w5, ((w4.setCell ⟨w.heap.size + 1 + 1, 4, none⟩ (.string (byt b.query))).setCell ⟨w.heap.size + 1 + 1, 5, none⟩ (.bool b.asks)).drew = w5 := ⟨_, rfl⟩
        rw [hw5]
        have HU5 : Hid (Box w5 (w.heap.size + 1 + 1) 62 (ucells ⟨b.scheme, b.host, b.port, b.path, b.query, b.asks, f, t.points⟩ (.slice (some ⟨g, off, none⟩) n cap))) := Lib.hid (by rw [← hw5]; exact (((HU4.out.set 4 _).set 5 _).drew))
        have HR5 : Hid (Box w5 (w.heap.size + 1) 62 uzero) := Lib.hid (by rw [← hw5]; exact ((HR4.out.far (by simp) _).far (by simp) _).drew)
        have HW5 : Hid (Below w.heap.size w w5) := Lib.hid (by rw [← hw5]; exact ((HW4.out.setCell (by simp; omega) _).setCell (by simp; omega) _).drew)
        have HBE2 : Hid (Urly.beside b r = .ok ⟨b.scheme, b.host, b.port, b.path, b.query, b.asks, f, t.points⟩) := Lib.hid (by rw [HBE.out]; rfl)
        clear hw5 x4 x5 y4 z4 z5 y5 HU4 HR4 HB4 HW4 HBE
        go_wp2_with (first | (refine wpList_load_row rfl 62 (.tmp 6) rfl (w.heap.size + 1 + 1) rfl _ (ucells ⟨b.scheme, b.host, b.port, b.path, b.query, b.asks, f, t.points⟩ (.slice (some ⟨g, off, none⟩) n cap)) (0, 0) _ HU5.out Tryz.underlying62 rfl info_url ?_) | (refine wpList_store_box rfl 62 (.tmp 4) (.tmp 58) rfl (w.heap.size + 1) (ucells ⟨b.scheme, b.host, b.port, b.path, b.query, b.asks, f, t.points⟩ (.slice (some ⟨g, off, none⟩) n cap)) rfl rfl 62 _ HR5.out info_url rfl (ucells_one _ _ _ _) ?_; intro wz hxz huz hzz))
        refine bodyPost_ret (results_box_tmp rfl _ _ (w.heap.size + 1) 62 _ _ rfl hxz Tryz.underlying62 rfl info_url) rfl ?_
        have hbz : Below w.heap.size w wz := HW5.out.trans (huz.own (by omega) HW5.out.size)
        exact besideOut_ok HBE2.out rfl (rd_len HN.out (HV.out.below hbz)) (fun x hx => .inl hx) hbz
    · have HBE := Lib.hid (fun m hm => bes_there (b := b) (m := m) HTT.out HQF.out.1 HQF.out.2 HSEG.out hpe hm)
      have hte : TP.toList.isEmpty = false := by rw [HTZ.out]; cases h : t.path with | nil => exact absurd h hpe | cons x y => rfl
      have HCC : Hid (∀ (wx : World) (bx c : Nat) (A4 : Option Addr) (g4 : Addr), A4 = some g4 → Below w.heap.size w wx → Box wx bx 33 #[.slice (some ⟨g, off, none⟩) (n - 1) cap, .slice A4 l.length c] → (∀ (j : Nat) (u : Value), (txts l)[j]? = some u → wx.cell? (g4.add j) = some u) → g4.block < wx.heap.size → Calls Tryz.prog 105 #[.slice (some ⟨bx, 0, none⟩) 2 2] wx (ConcatOut b.path.dropLast l wx)) := Lib.hid (by
        rintro wx bx c A4 g4 rfl hwx hbx hr4 hg4
        have hdl : b.path.dropLast.length = n - 1 := by rw [List.length_dropLast, HN.out]
        refine concat_any b.path.dropLast l ⟨g, off, none⟩ g4 cap c bx wx (by omega) (by have := HLN.out; have := HBL.out; omega) HPOS.out (by rw [hdl]; exact hbx) (fun j u hu => ?_) hr4 (by have := hwx.size; show g < _; omega) hg4
        rw [hwx.cell (p := Addr.add ⟨g, off, none⟩ j) (by rw [adr_block]; exact hg)]
        have hu2 : (txts b.path)[j]? = some u := by
          have hj : j < (txts b.path.dropLast).length := (List.getElem?_eq_some_iff.1 hu).1
          rw [txts_len, hdl] at hj
          unfold txts at hu ⊢
          rw [List.getElem?_map] at hu ⊢
          rw [List.dropLast_eq_take, List.getElem?_take] at hu
          rw [if_pos (by rw [HN.out]; omega)] at hu
          exact hu
        have := HCE.out j u hu2
        rw [adr_at]
        exact this)
      clear hpe
      cases root with
      | true =>
        have HBM : Hid (Urly.beside b r = .ok ⟨b.scheme, b.host, b.port, Urly.tidy l, q, t.asks, f, t.points⟩) := Lib.hid (HBE.out l (by rw [if_pos (of_decide_eq_true HRT.out)]))
        have HLL : Hid (l.length ≤ 3000) := Lib.hid (by have := HLN.out; have := HBL.out; omega)
        clear HBE HCC
        have HTD : Hid (Calls Tryz.prog 50 #[.slice A3 l.length cap3] w3 (TidyOut l w3)) := Lib.hid (tidy_any l _ w3 (Rd.own HO3.out) HPOS.out HLL.out)
        go_wp2_with (fail)
        refine HTD.out.mono ?_
        rintro e w7 ⟨v2, rfl, hown2, hlen2, hb7⟩
        obtain ⟨A2, cap2, rfl⟩ := own_slice hown2
        have HR7 : Hid (Box w7 (w.heap.size + 1) 62 uzero) := Lib.hid (HR3.out.below hb7 HR3.out.lt)
        have HU7 : Hid (Box w7 (w.heap.size + 1 + 1) 62 #[.string (byt b.scheme), .string (byt b.host), .int .i64 (b.port : Int), .slice none 0 0, .string (byt q), .bool t.asks, .string (byt f), .bool t.points]) := Lib.hid (HU3.out.below hb7 HU3.out.lt)
        have HW7 : Hid (Below w.heap.size w w7) := Lib.hid (HW3.out.trans (hb7.mono HW3.out.size))
        have hlt6 := HU3.out.lt
        have hsz6 := HW3.out.size
        have HO7 := Lib.hid hown2
        have y3 : w7.cell? ⟨w.heap.size + 1 + 1, 3, none⟩ = some (.slice none 0 0) := HU7.out.cell 3
        have z3 : w7.frozen? ⟨w.heap.size + 1 + 1, 3, none⟩ = false := HU7.out.frozen 3
        have HU : Hid (Box (w7.setCell ⟨w.heap.size + 1 + 1, 3, none⟩ (.slice A2 (Urly.tidy l).length cap2)) (w.heap.size + 1 + 1) 62 (ucells ⟨b.scheme, b.host, b.port, Urly.tidy l, q, t.asks, f, t.points⟩ (.slice A2 (Urly.tidy l).length cap2))) := Lib.hid (HU7.out.set 3 _)
        have HRR : Hid (Box (w7.setCell ⟨w.heap.size + 1 + 1, 3, none⟩ (.slice A2 (Urly.tidy l).length cap2)) (w.heap.size + 1) 62 uzero) := Lib.hid (HR7.out.far (by simp) _)
        obtain ⟨n2, hn2⟩ : ∃ n2, (Urly.tidy l).length = n2 := ⟨_, rfl⟩
        rw [hn2] at HU HRR
        rw [hn2]
        have HN2 := Lib.hid hn2
        clear hown2 hlen2 hb7 HTD HR7 HU7 hn2
        go_wp2_with (first | (refine wpList_load_row rfl 62 (.tmp 6) rfl (w.heap.size + 1 + 1) rfl _ (ucells ⟨b.scheme, b.host, b.port, Urly.tidy l, q, t.asks, f, t.points⟩ (.slice A2 n2 cap2)) (0, 0) _ HU.out Tryz.underlying62 rfl info_url ?_) | (refine wpList_store_box rfl 62 (.tmp 4) (.tmp 75) rfl (w.heap.size + 1) (ucells ⟨b.scheme, b.host, b.port, Urly.tidy l, q, t.asks, f, t.points⟩ (.slice A2 n2 cap2)) rfl rfl 62 _ HRR.out info_url rfl (ucells_one _ _ _ _) ?_; intro wz hxz huz hzz))
        refine bodyPost_ret (results_box_tmp rfl _ _ (w.heap.size + 1) 62 _ _ rfl hxz Tryz.underlying62 rfl info_url) rfl ?_
        have hn2 := HN2.out
        subst hn2
        refine besideOut_ok HBM.out rfl (Rd.own (own_far (ownsRow_setCell_below HO7.out (by show w.heap.size + 1 + 1 < w3.heap.size; exact hlt6) _) huz (by omega))) (far_own HO7.out hsz6) ((HW7.out.setCell (by simp; omega) _).trans (huz.own (by omega) ?_))
        have := HW7.out.size
        simpa using this
      | false =>
        have HBM : Hid (Urly.beside b r = .ok ⟨b.scheme, b.host, b.port, Urly.tidy (b.path.dropLast ++ l), q, t.asks, f, t.points⟩) := Lib.hid (HBE.out _ (by rw [if_neg (of_decide_eq_false HRT.out)]))
        obtain ⟨n1, rfl⟩ : ∃ n1, n = n1 + 1 := ⟨n - 1, by omega⟩
        obtain ⟨g3, o3, hA3, hg3, hr3⟩ : ∃ g o, A3 = some ⟨g, o, none⟩ ∧ g < w3.heap.size ∧ w3.rangeAt g o (txts l) := by
          obtain ⟨A', cap', e1, _, _, h3⟩ := Rd.own HO3.out
          injection e1 with e1 _ _
          subst e1
          exact h3 HPOS.out
        have HR3A := Lib.hid hr3
        have x3 : w3.cell? ⟨w.heap.size, 3, none⟩ = some (.slice (some ⟨g, off, none⟩) (n1 + 1) cap) := (HB3.out.cell 3).trans HKS.out.1
        have wr1 : IntKind.i64.wrap (n1 : Int) = (n1 : Int) := by rw [IntKind.wrap_i64]; omega
        have wr2 : IntKind.i64.wrap ((n1 : Int) + 1) = (n1 : Int) + 1 := by rw [IntKind.wrap_i64]; omega
        subst hA3
        have HCX : Hid (Calls Tryz.prog 105 #[.slice (some ⟨w3.heap.size, 0, none⟩) 2 2] (w3.alloc (.cells #[.slice (some ⟨g, off, none⟩) n1 cap, .slice (some ⟨g3, o3, none⟩) l.length cap3] 33)) (ConcatOut b.path.dropLast l (w3.alloc (.cells #[.slice (some ⟨g, off, none⟩) n1 cap, .slice (some ⟨g3, o3, none⟩) l.length cap3] 33)))) := Lib.hid (HCC.out _ _ _ _ ⟨g3, o3, none⟩ rfl (HW3.out.alloc (by have := HW3.out.size; omega) _) (Box.new w3 _ _) (fun j u hu => by
          rw [adr_at, (below1 w3 _).cell (p := ⟨g3, o3 + j, none⟩) hg3]
          exact HR3A.out j u hu) (by simp; omega))
        have HU4 := Lib.hid (HU3.out.alloc (.cells #[.slice (some ⟨g, off, none⟩) n1 cap, .slice (some ⟨g3, o3, none⟩) l.length cap3] 33))
        have HR4 := Lib.hid (HR3.out.alloc (.cells #[.slice (some ⟨g, off, none⟩) n1 cap, .slice (some ⟨g3, o3, none⟩) l.length cap3] 33))
        have HW4 : Hid (Below w.heap.size w (w3.alloc (.cells #[.slice (some ⟨g, off, none⟩) n1 cap, .slice (some ⟨g3, o3, none⟩) l.length cap3] 33))) := Lib.hid (HW3.out.alloc (by have := HW3.out.size; omega) _)
        clear HBE HCC hr3
        go_wp2_with (fail)
        refine HCX.out.mono ?_
        rintro e w5 ⟨v5, rfl, hown5, hb5⟩
        have HU5 := Lib.hid (HU4.out.below hb5 HU4.out.lt)
        have HR5 := Lib.hid (HR4.out.below hb5 HR4.out.lt)
        have HW5 : Hid (Below w.heap.size w w5) := Lib.hid (HW4.out.trans (hb5.mono HW4.out.size))
        have HRD := Lib.hid (Rd.own hown5)
        have HMP : Hid (0 < (b.path.dropLast ++ l).length) := Lib.hid (by have := HPOS.out; simp; omega)
        have HML : Hid ((b.path.dropLast ++ l).length ≤ 3000) := Lib.hid (by have := HLN.out; have := HBL.out; have := HN.out; simp; omega)
        clear hown5 hb5 HCX HU4 HR4 HW4 x3
        obtain ⟨m, hm⟩ : ∃ m, b.path.dropLast ++ l = m := ⟨_, rfl⟩
        rw [hm] at HRD HMP HML HBM
        clear hm
        have HTD : Hid (Calls Tryz.prog 50 #[v5] w5 (TidyOut m w5)) := Lib.hid (tidy_any m _ w5 HRD.out HMP.out HML.out)
        go_wp2_with (fail)
        refine HTD.out.mono ?_
        rintro e w7 ⟨v2, rfl, hown2, hlen2, hb7⟩
        obtain ⟨A2, cap2, rfl⟩ := own_slice hown2
        have HR7 : Hid (Box w7 (w.heap.size + 1) 62 uzero) := Lib.hid (HR5.out.below hb7 HR5.out.lt)
        have HU7 : Hid (Box w7 (w.heap.size + 1 + 1) 62 #[.string (byt b.scheme), .string (byt b.host), .int .i64 (b.port : Int), .slice none 0 0, .string (byt q), .bool t.asks, .string (byt f), .bool t.points]) := Lib.hid (HU5.out.below hb7 HU5.out.lt)
        have HW7 : Hid (Below w.heap.size w w7) := Lib.hid (HW5.out.trans (hb7.mono HW5.out.size))
        have hlt6 := HU5.out.lt
        have hsz6 := HW5.out.size
        have HO7 := Lib.hid hown2
        have y3 : w7.cell? ⟨w.heap.size + 1 + 1, 3, none⟩ = some (.slice none 0 0) := HU7.out.cell 3
        have z3 : w7.frozen? ⟨w.heap.size + 1 + 1, 3, none⟩ = false := HU7.out.frozen 3
        have HU : Hid (Box (w7.setCell ⟨w.heap.size + 1 + 1, 3, none⟩ (.slice A2 (Urly.tidy m).length cap2)) (w.heap.size + 1 + 1) 62 (ucells ⟨b.scheme, b.host, b.port, Urly.tidy m, q, t.asks, f, t.points⟩ (.slice A2 (Urly.tidy m).length cap2))) := Lib.hid (HU7.out.set 3 _)
        have HRR : Hid (Box (w7.setCell ⟨w.heap.size + 1 + 1, 3, none⟩ (.slice A2 (Urly.tidy m).length cap2)) (w.heap.size + 1) 62 uzero) := Lib.hid (HR7.out.far (by simp) _)
        obtain ⟨n2, hn2⟩ : ∃ n2, (Urly.tidy m).length = n2 := ⟨_, rfl⟩
        rw [hn2] at HU HRR
        rw [hn2]
        have HN2 := Lib.hid hn2
        clear hown2 hlen2 hb7 HTD HR7 HU7 hn2
        go_wp2_with (first | (refine wpList_load_row rfl 62 (.tmp 6) rfl (w.heap.size + 1 + 1) rfl _ (ucells ⟨b.scheme, b.host, b.port, Urly.tidy m, q, t.asks, f, t.points⟩ (.slice A2 n2 cap2)) (0, 0) _ HU.out Tryz.underlying62 rfl info_url ?_) | (refine wpList_store_box rfl 62 (.tmp 4) (.tmp 75) rfl (w.heap.size + 1) (ucells ⟨b.scheme, b.host, b.port, Urly.tidy m, q, t.asks, f, t.points⟩ (.slice A2 n2 cap2)) rfl rfl 62 _ HRR.out info_url rfl (ucells_one _ _ _ _) ?_; intro wz hxz huz hzz))
        refine bodyPost_ret (results_box_tmp rfl _ _ (w.heap.size + 1) 62 _ _ rfl hxz Tryz.underlying62 rfl info_url) rfl ?_
        have hn2 := HN2.out
        subst hn2
        refine besideOut_ok HBM.out rfl (Rd.own (own_far (ownsRow_setCell_below HO7.out (by show w.heap.size + 1 + 1 < w5.heap.size; exact hlt6) _) huz (by omega))) (far_own HO7.out hsz6) ((HW7.out.setCell (by simp; omega) _).trans (huz.own (by omega) ?_))
        have := HW7.out.size
        simpa using this
end Go.Proofs.YtdolmjeiakdfhaaGreatDoor

namespace Go.Proofs.YtdolmjeiakdfhaaGreatDoor
set_option linter.unusedSimpArgs false
set_option linter.unusedVariables false
open Go.RowKit

theorem scheme_is (s : List UInt8) (w : World) (hs : s.length ≤ 1048576) (he : Env w) : Calls Tryz.prog 43 #[.string (byt s)] w fun e w' => (∃ X Y, e = .returned (.tuple #[.string X, .string Y, .bool (Urly.scheme s).isSome])) ∧ Below w.heap.size w w' :=
  (scheme_any s w hs he).mono fun e w' h => by
    unfold SchemeOut at h
    cases hc : Urly.scheme s with
    | none => rw [hc] at h; exact ⟨⟨_, _, h.1⟩, h.2⟩
    | some p => rw [hc] at h; exact ⟨⟨_, _, h.1⟩, h.2⟩
theorem hasp_any (s : List UInt8) (w : World) : Calls Tryz.prog 76 #[.string (byt s), .string ⟨#[47, 47]⟩] w fun e w' => e = .returned (.bool (Urly.twoOff s).isSome) ∧ w' = w := by
  have h := Tryz.strings_HasPrefix (byt s) ⟨#[47, 47]⟩ w
  rw [byt_data, show (⟨#[47, 47]⟩ : ByteArray).data.toList = [47, 47] from rfl, (pre_two s).1] at h
  exact h
section
variable {base ref : List UInt8} {b : Urly.U}
theorem res_large (hb : Urly.parse base = .ok b) (h : 500 < ref.length) : Urly.resolve base ref = .error 2 := by unfold Urly.resolve Urly.resolveU; rw [hb]; simp only; rw [if_pos h]
theorem resU_sch (hb : Urly.parse base = .ok b) (h : ¬ 500 < ref.length) (h1 : (Urly.scheme ref).isSome = true) : Urly.resolveU base ref = Urly.parse ref := by unfold Urly.resolveU; rw [hb]; simp only; rw [if_neg h, if_pos h1]
theorem resU_two (hb : Urly.parse base = .ok b) (h : ¬ 500 < ref.length) (h1 : (Urly.scheme ref).isSome = false) (h2 : (Urly.twoOff ref).isSome = true) : Urly.resolveU base ref = Urly.parse (b.scheme ++ 58 :: ref) := by unfold Urly.resolveU; rw [hb]; simp only; rw [if_neg h, if_neg (by rw [h1]; simp), if_pos h2]
theorem resU_bes (hb : Urly.parse base = .ok b) (h : ¬ 500 < ref.length) (h1 : (Urly.scheme ref).isSome = false) (h2 : (Urly.twoOff ref).isSome = false) : Urly.resolveU base ref = Urly.beside b ref := by unfold Urly.resolveU; rw [hb]; simp only; rw [if_neg h, if_neg (by rw [h1]; simp), if_neg (by rw [h2]; simp)]
theorem res_err {n : Nat} (h : Urly.resolveU base ref = .error n) : Urly.resolve base ref = .error n := by unfold Urly.resolve; rw [h]
theorem res_long {u : Urly.U} (h : Urly.resolveU base ref = .ok u) (hl : 500 < (Urly.text u).length) : Urly.resolve base ref = .error 2 := by unfold Urly.resolve; rw [h]; simp only; rw [if_pos hl]
theorem res_ok {u : Urly.U} (h : Urly.resolveU base ref = .ok u) (hl : ¬ 500 < (Urly.text u).length) : Urly.resolve base ref = .ok (Urly.text u) := by unfold Urly.resolve; rw [h]; simp only; rw [if_neg hl]
end
/-- an address that was found, or why not. -/
def FoundOut (r : Except Nat Urly.U) (v0 : Value) (w : World) (e : Ending) (w' : World) : Prop :=
  (∃ u v, r = .ok u ∧ Urly.Sz u ∧ e = .returned (.tuple #[.agg (ucells u v), .int .i64 0]) ∧ Rd w' 1 (txts u.path) u.path.length v ∧ Far v v0 w.heap.size ∧ Below w.heap.size w w') ∨
  (∃ n : Nat, r = .error n ∧ n ≠ 0 ∧ e = .returned (.tuple #[.agg uzero, .int .i64 (n : Int)]) ∧ Below w.heap.size w w')
theorem rd_upd {w w1 : World} {k n b : Nat} {xs : List Value} {v : Value} (h : Rd w k xs n v) (hu : Upd w w1 b) (hne : v.ownBlock ≠ some b) : Rd w1 k xs n v := by
  obtain ⟨A, cap, rfl, h1, h2, h3⟩ := h
  refine ⟨A, cap, rfl, h1, h2, fun hn => ?_⟩
  obtain ⟨g, o, rfl, h4, h5⟩ := h3 hn
  refine ⟨g, o, rfl, by have := hu.size; omega, fun j u hj => ?_⟩
  rw [World.cell?_of_block (w := w) (hu.block g h4 (fun e => hne (by rw [← e]; rfl)))]
  exact h5 j u hj
theorem found_parse {s : List UInt8} {v0 : Value} {w w' : World} {e : Ending} (h : ParseOut s w e w') : FoundOut (Urly.parse s) v0 w e w' := by
  rcases h with ⟨u, v, hp, he, ho, hl, hb⟩ | ⟨n, hp, he, hb⟩
  · exact .inl ⟨u, v, hp, (Urly.parse_size hp).1, he, Rd.own ho, far_own ho (Nat.le_refl _), hb⟩
  · exact .inr ⟨n, hp, parse_no0 hp, he, hb⟩
theorem found_beside {b : Urly.U} {v0 : Value} {r : List UInt8} {w w' : World} {e : Ending} (hs : Urly.Sz b) (hs2 : b.path.length ≤ 502 ∧ Urly.tot b.path ≤ 501) (hr : r.length ≤ 500) (h : BesideOut b v0 r w e w') : FoundOut (Urly.beside b r) v0 w e w' := by
  rcases h with ⟨u, v, hp, he, ho, hf, hb⟩ | ⟨n, hp, h0, he, hb⟩
  · exact .inl ⟨u, v, hp, Urly.beside_size hs hs2 hr hp, he, ho, hf, hb⟩
  · exact .inr ⟨n, hp, h0, he, hb⟩
set_option maxRecDepth 100000 in
set_option maxHeartbeats 8000000 in
theorem resolve_any (base ref : List UInt8) (w : World) (he : Env w) :
    Calls Tryz.prog 52 #[.string (byt base), .string (byt ref)] w (WriteOut (Urly.resolve base ref) w) := by
  have HE := Lib.hid he
  have HPB : Hid (Calls Tryz.prog 22 #[.string (byt base)] w (ParseOut base w)) := Lib.hid (parse_any base w he)
  have hz := byt_size ref
  have HSC : Hid (ref.length ≤ 1048576 → ∀ w1, Below w.heap.size w w1 → Calls Tryz.prog 43 #[.string (byt ref)] w1 fun e w' => (∃ X Y, e = .returned (.tuple #[.string X, .string Y, .bool (Urly.scheme ref).isSome])) ∧ Below w1.heap.size w1 w') := Lib.hid (fun h w1 h1 => scheme_is ref w1 h (he.below h1))
  have HHP : Hid (∀ w, Calls Tryz.prog 76 #[.string (byt ref), .string ⟨#[47, 47]⟩] w fun e w' => e = .returned (.bool (Urly.twoOff ref).isSome) ∧ w' = w) := Lib.hid (fun w => hasp_any ref w)
  have HPR : Hid (∀ w1, Below w.heap.size w w1 → Calls Tryz.prog 22 #[.string (byt ref)] w1 (ParseOut ref w1)) := Lib.hid (fun w1 h1 => parse_any ref w1 (he.below h1))
  have HPT : Hid (∀ (sch : List UInt8) (C : ByteArray) w1, byt (sch ++ 58 :: ref) = C → Below w.heap.size w w1 → Calls Tryz.prog 22 #[.string C] w1 (ParseOut (sch ++ 58 :: ref) w1)) := Lib.hid (fun sch C w1 hC h1 => by rw [← hC]; exact parse_any _ w1 (he.below h1))
  have HBD : Hid (∀ (b : Urly.U) (v : Value) w1, Urly.Sz b → b.path ≠ [] → b.path.length ≤ 502 → ref.length ≤ 500 → Below w.heap.size w w1 → Rd w1 1 (txts b.path) b.path.length v → Calls Tryz.prog 77 #[.agg (ucells b v), .string (byt ref)] w1 (BesideOut b v ref w1)) := Lib.hid (fun b v w1 h1 h2 h3 h4 h5 h6 => beside_any b v ref w1 h1 h2 h3 (he.below h5) h6 h4)
  have HCT : Hid (∀ sch : List UInt8, byt sch ++ ⟨#[58]⟩ ++ byt ref = byt (sch ++ 58 :: ref)) := Lib.hid (fun sch => by rw [show (⟨#[58]⟩ : ByteArray) = byt [58] from rfl, byt_append, byt_append]; simp)
  obtain ⟨BB, hBB⟩ : ∃ S, byt base = S := ⟨_, rfl⟩
  obtain ⟨RR, hRR⟩ : ∃ S, byt ref = S := ⟨_, rfl⟩
  rw [hBB] at HPB ⊢
  rw [hRR] at hz HSC HHP HPR HBD HCT ⊢
  have HZ := Lib.hid hz
  clear hBB hRR hz he
  go_enter Tryz.func52, Tryz.ntmps52
  go_wp2_with (fail)
  refine HPB.out.mono ?_
  rintro e w1 (⟨b, v, hp, rfl, hown, hlen, hw1⟩ | ⟨n, hp, rfl, hw1⟩)
  rotate_left
  · have HOR : Hid (Urly.resolve base ref = .error n) := Lib.hid (Urly.resolve_fail hp)
    have HW1 := Lib.hid hw1
    have hn0 : n ≠ 0 := parse_no0 hp
    obtain ⟨m, hm⟩ : ∃ m : Int, (n : Int) = m := ⟨_, rfl⟩
    have hm0 : (m != 0) = true := by rw [bne, beq_no (by omega)]; rfl
    have HM := Lib.hid hm
    rw [hm]
    clear hm hn0 hp hw1 HPB
    go_wp2_with (refine wpList_store_box rfl 62 (.tmp 6) (.tmp 16) rfl w1.heap.size uzero rfl rfl 62 _ (Box.new w1 _ _) info_url rfl uzero_one ?_; intro w3 hx3 hu3 hz3)
    have hb13 : Below w1.heap.size w1 w3 := (below1 w1 _).trans (hu3.own (Nat.le_refl _) (by simp))
    have HW3 : Hid (Below w.heap.size w w3) := Lib.hid (HW1.out.trans (hb13.mono HW1.out.size))
    go_returns
    exact writeOut_no HOR.out HM.out rfl HW3.out
  have HSZ := Lib.hid (Urly.parse_size hp)
  have HGD := Lib.hid (Urly.parse_good hp).1
  have HW1 := Lib.hid hw1
  have HPP := Lib.hid hp
  obtain ⟨A, cap, rfl⟩ := own_slice hown
  have HRD := Lib.hid (Rd.own hown)
  have HAB : Hid (∀ x, (Value.slice A b.path.length cap).ownBlock = some x → x < w1.heap.size) := Lib.hid (fun x hx => (hown.lt x hx).2)
  have h12 := ucells_one b A b.path.length cap
  have hisz : (Tryz.prog.info? 62).map (·.size) = some (ucells b (.slice A b.path.length cap)).size := info_url
  have HBDB := Lib.hid (HBD.out b (.slice A b.path.length cap))
  have hcsz : (8 : Nat) = (ucells b (.slice A b.path.length cap)).size := rfl
  have k0 : (ucells b (.slice A b.path.length cap))[0]? = some (.string (byt b.scheme)) := rfl
  obtain ⟨cs, hcs⟩ : ∃ cs, ucells b (.slice A b.path.length cap) = cs := ⟨_, rfl⟩
  rw [hcs] at h12 hisz HBDB hcsz k0 ⊢
  have HK0 := Lib.hid k0
  have HCZ := Lib.hid hcsz
  clear hcsz hcs hp hw1 hown hlen HBD HPB k0
  by_cases hlarge : 500 < ref.length
  · have HR := Lib.hid (res_large HPP.out hlarge)
    have d1 : decide ((RR.size : Int) > 500) = true := decide_eq_true (by rw [HZ.out]; omega)
    have d2 : (500 : Int) < (RR.size : Int) := by rw [HZ.out]; omega
    clear hlarge
    go_wp2_with (refine wpList_store_box rfl 62 (.tmp 6) (.tmp 16) rfl w1.heap.size cs rfl rfl 62 _ (Box.new w1 _ _) hisz (by rw [← HCZ.out]; rfl) h12 ?_; intro w3 hx3 hu3 hz3)
    have hb13 : Below w1.heap.size w1 w3 := (below1 w1 _).trans (hu3.own (Nat.le_refl _) (by simp))
    have HW3 : Hid (Below w.heap.size w w3) := Lib.hid (HW1.out.trans (hb13.mono HW1.out.size))
    go_returns
    exact writeOut_no HR.out (by rfl) rfl HW3.out
  have d1 : decide ((RR.size : Int) > 500) = false := decide_eq_false (by rw [HZ.out]; omega)
  have d2 : ¬ (500 : Int) < (RR.size : Int) := by rw [HZ.out]; omega
  have HSC1 := Lib.hid (HSC.out (by omega))
  have HLG := Lib.hid hlarge
  clear hlarge HSC
  go_wp2_with (refine wpList_store_box rfl 62 (.tmp 6) (.tmp 16) rfl w1.heap.size cs rfl rfl 62 _ (Box.new w1 _ _) hisz (by rw [← HCZ.out]; rfl) h12 ?_; intro w3 hx3 hu3 hz3; have HZ3 := Lib.hid hz3; clear hz3)
  have hb13 : Below w1.heap.size w1 w3 := (below1 w1 _).trans (hu3.own (Nat.le_refl _) (by simp))
  have hz13 : w1.heap.size < w3.heap.size := by rw [HZ3.out]; simp
  have HW3 : Hid (Below w.heap.size w (w3.alloc (.cells uzero 62))) := Lib.hid ((HW1.out.trans (hb13.mono HW1.out.size)).alloc (by have := HW1.out.size; omega) _)
  have HB3 : Hid (Box (w3.alloc (.cells uzero 62)) w1.heap.size 62 cs) := Lib.hid (hx3.alloc _)
  have HV3 : Hid (Box (w3.alloc (.cells uzero 62)) w3.heap.size 62 uzero) := Lib.hid (Box.new w3 _ _)
  have HRD3 : Hid (Rd (w3.alloc (.cells uzero 62)) 1 (txts b.path) b.path.length (.slice A b.path.length cap)) := Lib.hid ((HRD.out.below hb13).below (below1 w3 _))
  have hszz : w.heap.size ≤ w1.heap.size := HW1.out.size
  clear hb13 hu3 hx3 HZ3 HRD
  refine (HSC1.out _ HW3.out).mono ?_
  rintro e w4 ⟨⟨X, Y, rfl⟩, hw4⟩
  have HW4 : Hid (Below w.heap.size w w4) := Lib.hid (HW3.out.trans (hw4.mono HW3.out.size))
  have HB4 : Hid (Box w4 w1.heap.size 62 cs) := Lib.hid (HB3.out.below hw4 HB3.out.lt)
  have HV4 : Hid (Box w4 w3.heap.size 62 uzero) := Lib.hid (HV3.out.below hw4 HV3.out.lt)
  have HRD4 : Hid (Rd w4 1 (txts b.path) b.path.length (.slice A b.path.length cap)) := Lib.hid (HRD3.out.below hw4)
  have HT : Hid (∀ (u : Urly.U) (v : Value) w1, Urly.Sz u → Below w.heap.size w w1 → Rd w1 1 (txts u.path) u.path.length v → Calls Tryz.prog 78 #[.agg (ucells u v)] w1 (TextOut (Urly.text u) w1)) := Lib.hid (fun u v w1 hu h1 h2 => text_any u v w1 hu (HE.out.below h1) h2)
  clear hw4 HB3 HV3 HRD3 HW3 HSC1
  have k0 : w4.cell? ⟨w1.heap.size, 0, none⟩ = some (.string (byt b.scheme)) := (HB4.out.cell 0).trans HK0.out
  cases hsc : (Urly.scheme ref).isSome with
  | true =>
    have HEQ := Lib.hid (resU_sch HPP.out HLG.out hsc)
    clear hsc
    go_wp2_with (fail)
    refine (HPR.out _ HW4.out).mono ?_
    rintro e w5 hfo
    rcases (found_parse hfo) with ⟨u, v5, hr, hs5, rfl, hrd5, hfar, hb5⟩ | ⟨n, hr, hn0, rfl, hb5⟩
    rotate_left
    · have HOR : Hid (Urly.resolve base ref = .error n) := Lib.hid (res_err (HEQ.out.trans hr))
      have HW5 : Hid (Below w.heap.size w w5) := Lib.hid (HW4.out.trans (hb5.mono HW4.out.size))
      have HV5 : Hid (Box w5 w3.heap.size 62 uzero) := Lib.hid (HV4.out.below hb5 HV4.out.lt)
      obtain ⟨m, hm⟩ : ∃ m : Int, (n : Int) = m := ⟨_, rfl⟩
      have hm0 : (m != 0) = true := by rw [bne, beq_no (by omega)]; rfl
      have HM := Lib.hid hm
      rw [hm]
      clear hm hn0 hr hb5 hfo
      go_wp2_with (refine wpList_store_box rfl 62 (.tmp 8) (.tmp 34) rfl w3.heap.size uzero rfl rfl 62 _ HV5.out info_url rfl uzero_one ?_; intro w6 hx6 hu6 hz6)
      have HW6 : Hid (Below w.heap.size w w6) := Lib.hid (HW5.out.trans (hu6.own (by omega) HW5.out.size))
      go_returns
      exact writeOut_no HOR.out HM.out rfl HW6.out
    have HRU := Lib.hid (HEQ.out.trans hr)
    have HW5 : Hid (Below w.heap.size w w5) := Lib.hid (HW4.out.trans (hb5.mono HW4.out.size))
    have HV5 : Hid (Box w5 w3.heap.size 62 uzero) := Lib.hid (HV4.out.below hb5 HV4.out.lt)
    obtain ⟨A5, cap5, rfl⟩ : ∃ A c, v5 = .slice A u.path.length c := by
      obtain ⟨A, c, e, _⟩ := hrd5
      exact ⟨A, c, e⟩
    have h52 := ucells_one u A5 u.path.length cap5
    have hisz5 : (Tryz.prog.info? 62).map (·.size) = some (ucells u (.slice A5 u.path.length cap5)).size := info_url
    have hcsz5 : uzero.size = (ucells u (.slice A5 u.path.length cap5)).size := rfl
    have HTU := Lib.hid (fun w1 h1 h2 => HT.out u (.slice A5 u.path.length cap5) w1 hs5 h1 h2)
    have HRD5 := Lib.hid hrd5
    have HAP : Hid ((Value.slice A5 u.path.length cap5).ownBlock ≠ some w3.heap.size) := Lib.hid (fun e => by
      rcases hfar _ e with h | h
      · have := HAB.out _ h; omega
      · have := HV4.out.lt; omega)
    unfold TextOut at HTU
    have htz := byt_size (Urly.text u)
    obtain ⟨T, hTT⟩ : ∃ T, byt (Urly.text u) = T := ⟨_, rfl⟩
    rw [hTT] at HTU htz
    have HTT := Lib.hid hTT
    have HTZ := Lib.hid htz
    obtain ⟨c5, hc5⟩ : ∃ c, ucells u (.slice A5 u.path.length cap5) = c := ⟨_, rfl⟩
    rw [hc5] at h52 hisz5 hcsz5 HTU ⊢
    have HCZ5 := Lib.hid hcsz5
    clear hr hs5 hrd5 hb5 hfar hfo hTT htz hcsz5 hc5 HT HB4 HV4 HRD4 HW4
    by_cases hlong : 500 < (Urly.text u).length
    · have HOR := Lib.hid (res_long HRU.out hlong)
      have t1 : decide ((T.size : Int) > 500) = true := decide_eq_true (by rw [HTZ.out]; omega)
      have t2 : (500 : Int) < (T.size : Int) := by rw [HTZ.out]; omega
      clear hlong
      go_wp2_with (first | (refine wpList_store_box rfl 62 (.tmp 8) (.tmp 34) rfl w3.heap.size c5 rfl rfl 62 _ HV5.out hisz5 HCZ5.out h52 ?_; intro w6 hx6 hu6 hz6) | (refine wpList_load_row rfl 62 (.tmp 8) rfl w3.heap.size rfl _ c5 (0, 0) _ hx6 Tryz.underlying62 rfl hisz5 ?_))
      have HW6 : Hid (Below w.heap.size w w6) := Lib.hid (HW5.out.trans (hu6.own (by omega) HW5.out.size))
      have HRD6 := Lib.hid (rd_upd HRD5.out hu6 HAP.out)
      clear hx6 hu6 hz6
      refine (HTU.out _ HW6.out HRD6.out).mono ?_
      rintro e w7 ⟨rfl, hw7⟩
      have HW7 := Lib.hid (HW6.out.trans (hw7.mono HW6.out.size))
      clear hw7
      go_wp2
      go_returns
      exact writeOut_no HOR.out (by rfl) rfl HW7.out
    · have HOR := Lib.hid (res_ok HRU.out hlong)
      have t1 : decide ((T.size : Int) > 500) = false := decide_eq_false (by rw [HTZ.out]; omega)
      have t2 : ¬ (500 : Int) < (T.size : Int) := by rw [HTZ.out]; omega
      clear hlong
      go_wp2_with (first | (refine wpList_store_box rfl 62 (.tmp 8) (.tmp 34) rfl w3.heap.size c5 rfl rfl 62 _ HV5.out hisz5 HCZ5.out h52 ?_; intro w6 hx6 hu6 hz6) | (refine wpList_load_row rfl 62 (.tmp 8) rfl w3.heap.size rfl _ c5 (0, 0) _ hx6 Tryz.underlying62 rfl hisz5 ?_))
      have HW6 : Hid (Below w.heap.size w w6) := Lib.hid (HW5.out.trans (hu6.own (by omega) HW5.out.size))
      have HRD6 := Lib.hid (rd_upd HRD5.out hu6 HAP.out)
      clear hx6 hu6 hz6
      refine (HTU.out _ HW6.out HRD6.out).mono ?_
      rintro e w7 ⟨rfl, hw7⟩
      have HW7 := Lib.hid (HW6.out.trans (hw7.mono HW6.out.size))
      clear hw7
      go_wp2
      go_returns
      exact writeOut_ok HOR.out HTT.out rfl HW7.out
  | false =>
    cases htw : (Urly.twoOff ref).isSome with
    | true =>
      have HEQ := Lib.hid (resU_two HPP.out HLG.out hsc htw)
      rw [htw] at HHP
      have q1 := byt_size b.scheme
      have q2 := HSZ.out.1.scheme
      have hcat := HCT.out b.scheme
      have q3 : RR.size ≤ 500 := by rw [HZ.out]; have := HLG.out; omega
      obtain ⟨C, hC⟩ : ∃ C, byt b.scheme = C := ⟨_, rfl⟩
      rw [hC] at hcat q1 k0
      have q4 : C.size ≤ 500 := by omega
      obtain ⟨J, hJ⟩ : ∃ J, byt (b.scheme ++ 58 :: ref) = J := ⟨_, rfl⟩
      have HJP := Lib.hid (fun w1 h1 => HPT.out b.scheme J w1 hJ h1)
      rw [hJ] at hcat
      have HCAT := Lib.hid hcat
      clear hsc htw hC hJ hcat q1 q2
      go_wp2_with (fail)
      refine (HHP.out _).mono ?_
      rintro e wr ⟨rfl, rfl⟩
      go_wp2_with (fail)
      rw [HCAT.out]
      refine (HJP.out _ HW4.out).mono ?_
      rintro e w5 hfo
      rcases (found_parse hfo) with ⟨u, v5, hr, hs5, rfl, hrd5, hfar, hb5⟩ | ⟨n, hr, hn0, rfl, hb5⟩
      rotate_left
      · have HOR : Hid (Urly.resolve base ref = .error n) := Lib.hid (res_err (HEQ.out.trans hr))
        have HW5 : Hid (Below w.heap.size w w5) := Lib.hid (HW4.out.trans (hb5.mono HW4.out.size))
        have HV5 : Hid (Box w5 w3.heap.size 62 uzero) := Lib.hid (HV4.out.below hb5 HV4.out.lt)
        obtain ⟨m, hm⟩ : ∃ m : Int, (n : Int) = m := ⟨_, rfl⟩
        have hm0 : (m != 0) = true := by rw [bne, beq_no (by omega)]; rfl
        have HM := Lib.hid hm
        rw [hm]
        clear hm hn0 hr hb5 hfo
        go_wp2_with (refine wpList_store_box rfl 62 (.tmp 8) (.tmp 45) rfl w3.heap.size uzero rfl rfl 62 _ HV5.out info_url rfl uzero_one ?_; intro w6 hx6 hu6 hz6)
        have HW6 : Hid (Below w.heap.size w w6) := Lib.hid (HW5.out.trans (hu6.own (by omega) HW5.out.size))
        go_returns
        exact writeOut_no HOR.out HM.out rfl HW6.out
      have HRU := Lib.hid (HEQ.out.trans hr)
      have HW5 : Hid (Below w.heap.size w w5) := Lib.hid (HW4.out.trans (hb5.mono HW4.out.size))
      have HV5 : Hid (Box w5 w3.heap.size 62 uzero) := Lib.hid (HV4.out.below hb5 HV4.out.lt)
      obtain ⟨A5, cap5, rfl⟩ : ∃ A c, v5 = .slice A u.path.length c := by
        obtain ⟨A, c, e, _⟩ := hrd5
        exact ⟨A, c, e⟩
      have h52 := ucells_one u A5 u.path.length cap5
      have hisz5 : (Tryz.prog.info? 62).map (·.size) = some (ucells u (.slice A5 u.path.length cap5)).size := info_url
      have hcsz5 : uzero.size = (ucells u (.slice A5 u.path.length cap5)).size := rfl
      have HTU := Lib.hid (fun w1 h1 h2 => HT.out u (.slice A5 u.path.length cap5) w1 hs5 h1 h2)
      have HRD5 := Lib.hid hrd5
      have HAP : Hid ((Value.slice A5 u.path.length cap5).ownBlock ≠ some w3.heap.size) := Lib.hid (fun e => by
        rcases hfar _ e with h | h
        · have := HAB.out _ h; omega
        · have := HV4.out.lt; omega)
      unfold TextOut at HTU
      have htz := byt_size (Urly.text u)
      obtain ⟨T, hTT⟩ : ∃ T, byt (Urly.text u) = T := ⟨_, rfl⟩
      rw [hTT] at HTU htz
      have HTT := Lib.hid hTT
      have HTZ := Lib.hid htz
      obtain ⟨c5, hc5⟩ : ∃ c, ucells u (.slice A5 u.path.length cap5) = c := ⟨_, rfl⟩
      rw [hc5] at h52 hisz5 hcsz5 HTU ⊢
      have HCZ5 := Lib.hid hcsz5
      clear hr hs5 hrd5 hb5 hfar hfo hTT htz hcsz5 hc5 HT HB4 HV4 HRD4 HW4
      by_cases hlong : 500 < (Urly.text u).length
      · have HOR := Lib.hid (res_long HRU.out hlong)
        have t1 : decide ((T.size : Int) > 500) = true := decide_eq_true (by rw [HTZ.out]; omega)
        have t2 : (500 : Int) < (T.size : Int) := by rw [HTZ.out]; omega
        clear hlong
        go_wp2_with (first | (refine wpList_store_box rfl 62 (.tmp 8) (.tmp 45) rfl w3.heap.size c5 rfl rfl 62 _ HV5.out hisz5 HCZ5.out h52 ?_; intro w6 hx6 hu6 hz6) | (refine wpList_load_row rfl 62 (.tmp 8) rfl w3.heap.size rfl _ c5 (0, 0) _ hx6 Tryz.underlying62 rfl hisz5 ?_))
        have HW6 : Hid (Below w.heap.size w w6) := Lib.hid (HW5.out.trans (hu6.own (by omega) HW5.out.size))
        have HRD6 := Lib.hid (rd_upd HRD5.out hu6 HAP.out)
        clear hx6 hu6 hz6
        refine (HTU.out _ HW6.out HRD6.out).mono ?_
        rintro e w7 ⟨rfl, hw7⟩
        have HW7 := Lib.hid (HW6.out.trans (hw7.mono HW6.out.size))
        clear hw7
        go_wp2
        go_returns
        exact writeOut_no HOR.out (by rfl) rfl HW7.out
      · have HOR := Lib.hid (res_ok HRU.out hlong)
        have t1 : decide ((T.size : Int) > 500) = false := decide_eq_false (by rw [HTZ.out]; omega)
        have t2 : ¬ (500 : Int) < (T.size : Int) := by rw [HTZ.out]; omega
        clear hlong
        go_wp2_with (first | (refine wpList_store_box rfl 62 (.tmp 8) (.tmp 45) rfl w3.heap.size c5 rfl rfl 62 _ HV5.out hisz5 HCZ5.out h52 ?_; intro w6 hx6 hu6 hz6) | (refine wpList_load_row rfl 62 (.tmp 8) rfl w3.heap.size rfl _ c5 (0, 0) _ hx6 Tryz.underlying62 rfl hisz5 ?_))
        have HW6 : Hid (Below w.heap.size w w6) := Lib.hid (HW5.out.trans (hu6.own (by omega) HW5.out.size))
        have HRD6 := Lib.hid (rd_upd HRD5.out hu6 HAP.out)
        clear hx6 hu6 hz6
        refine (HTU.out _ HW6.out HRD6.out).mono ?_
        rintro e w7 ⟨rfl, hw7⟩
        have HW7 := Lib.hid (HW6.out.trans (hw7.mono HW6.out.size))
        clear hw7
        go_wp2
        go_returns
        exact writeOut_ok HOR.out HTT.out rfl HW7.out
    | false =>
      have HEQ := Lib.hid (resU_bes HPP.out HLG.out hsc htw)
      rw [htw] at HHP
      have HBB := Lib.hid (HBDB.out w4 HSZ.out.1 HGD.out.pth HSZ.out.2.1 (by have := HLG.out; omega) HW4.out HRD4.out)
      clear hsc htw
      go_wp2_with (fail)
      refine (HHP.out _).mono ?_
      rintro e wr ⟨rfl, rfl⟩
      go_wp2_with (refine wpList_load_row rfl 62 (.tmp 6) rfl w1.heap.size rfl _ cs (0, 0) _ HB4.out Tryz.underlying62 rfl hisz ?_)
      refine HBB.out.mono ?_
      rintro e w5 hfo
      rcases (found_beside HSZ.out.1 HSZ.out.2 (by have := HLG.out; omega) hfo) with ⟨u, v5, hr, hs5, rfl, hrd5, hfar, hb5⟩ | ⟨n, hr, hn0, rfl, hb5⟩
      rotate_left
      · have HOR : Hid (Urly.resolve base ref = .error n) := Lib.hid (res_err (HEQ.out.trans hr))
        have HW5 : Hid (Below w.heap.size w w5) := Lib.hid (HW4.out.trans (hb5.mono HW4.out.size))
        have HV5 : Hid (Box w5 w3.heap.size 62 uzero) := Lib.hid (HV4.out.below hb5 HV4.out.lt)
        obtain ⟨m, hm⟩ : ∃ m : Int, (n : Int) = m := ⟨_, rfl⟩
        have hm0 : (m != 0) = true := by rw [bne, beq_no (by omega)]; rfl
        have HM := Lib.hid hm
        rw [hm]
        clear hm hn0 hr hb5 hfo
        go_wp2_with (refine wpList_store_box rfl 62 (.tmp 8) (.tmp 51) rfl w3.heap.size uzero rfl rfl 62 _ HV5.out info_url rfl uzero_one ?_; intro w6 hx6 hu6 hz6)
        have HW6 : Hid (Below w.heap.size w w6) := Lib.hid (HW5.out.trans (hu6.own (by omega) HW5.out.size))
        go_returns
        exact writeOut_no HOR.out HM.out rfl HW6.out
      have HRU := Lib.hid (HEQ.out.trans hr)
      have HW5 : Hid (Below w.heap.size w w5) := Lib.hid (HW4.out.trans (hb5.mono HW4.out.size))
      have HV5 : Hid (Box w5 w3.heap.size 62 uzero) := Lib.hid (HV4.out.below hb5 HV4.out.lt)
      obtain ⟨A5, cap5, rfl⟩ : ∃ A c, v5 = .slice A u.path.length c := by
        obtain ⟨A, c, e, _⟩ := hrd5
        exact ⟨A, c, e⟩
      have h52 := ucells_one u A5 u.path.length cap5
      have hisz5 : (Tryz.prog.info? 62).map (·.size) = some (ucells u (.slice A5 u.path.length cap5)).size := info_url
      have hcsz5 : uzero.size = (ucells u (.slice A5 u.path.length cap5)).size := rfl
      have HTU := Lib.hid (fun w1 h1 h2 => HT.out u (.slice A5 u.path.length cap5) w1 hs5 h1 h2)
      have HRD5 := Lib.hid hrd5
      have HAP : Hid ((Value.slice A5 u.path.length cap5).ownBlock ≠ some w3.heap.size) := Lib.hid (fun e => by
        rcases hfar _ e with h | h
        · have := HAB.out _ h; omega
        · have := HV4.out.lt; omega)
      unfold TextOut at HTU
      have htz := byt_size (Urly.text u)
      obtain ⟨T, hTT⟩ : ∃ T, byt (Urly.text u) = T := ⟨_, rfl⟩
      rw [hTT] at HTU htz
      have HTT := Lib.hid hTT
      have HTZ := Lib.hid htz
      obtain ⟨c5, hc5⟩ : ∃ c, ucells u (.slice A5 u.path.length cap5) = c := ⟨_, rfl⟩
      rw [hc5] at h52 hisz5 hcsz5 HTU ⊢
      have HCZ5 := Lib.hid hcsz5
      clear hr hs5 hrd5 hb5 hfar hfo hTT htz hcsz5 hc5 HT HB4 HV4 HRD4 HW4
      by_cases hlong : 500 < (Urly.text u).length
      · have HOR := Lib.hid (res_long HRU.out hlong)
        have t1 : decide ((T.size : Int) > 500) = true := decide_eq_true (by rw [HTZ.out]; omega)
        have t2 : (500 : Int) < (T.size : Int) := by rw [HTZ.out]; omega
        clear hlong
        go_wp2_with (first | (refine wpList_store_box rfl 62 (.tmp 8) (.tmp 51) rfl w3.heap.size c5 rfl rfl 62 _ HV5.out hisz5 HCZ5.out h52 ?_; intro w6 hx6 hu6 hz6) | (refine wpList_load_row rfl 62 (.tmp 8) rfl w3.heap.size rfl _ c5 (0, 0) _ hx6 Tryz.underlying62 rfl hisz5 ?_))
        have HW6 : Hid (Below w.heap.size w w6) := Lib.hid (HW5.out.trans (hu6.own (by omega) HW5.out.size))
        have HRD6 := Lib.hid (rd_upd HRD5.out hu6 HAP.out)
        clear hx6 hu6 hz6
        refine (HTU.out _ HW6.out HRD6.out).mono ?_
        rintro e w7 ⟨rfl, hw7⟩
        have HW7 := Lib.hid (HW6.out.trans (hw7.mono HW6.out.size))
        clear hw7
        go_wp2
        go_returns
        exact writeOut_no HOR.out (by rfl) rfl HW7.out
      · have HOR := Lib.hid (res_ok HRU.out hlong)
        have t1 : decide ((T.size : Int) > 500) = false := decide_eq_false (by rw [HTZ.out]; omega)
        have t2 : ¬ (500 : Int) < (T.size : Int) := by rw [HTZ.out]; omega
        clear hlong
        go_wp2_with (first | (refine wpList_store_box rfl 62 (.tmp 8) (.tmp 51) rfl w3.heap.size c5 rfl rfl 62 _ HV5.out hisz5 HCZ5.out h52 ?_; intro w6 hx6 hu6 hz6) | (refine wpList_load_row rfl 62 (.tmp 8) rfl w3.heap.size rfl _ c5 (0, 0) _ hx6 Tryz.underlying62 rfl hisz5 ?_))
        have HW6 : Hid (Below w.heap.size w w6) := Lib.hid (HW5.out.trans (hu6.own (by omega) HW5.out.size))
        have HRD6 := Lib.hid (rd_upd HRD5.out hu6 HAP.out)
        clear hx6 hu6 hz6
        refine (HTU.out _ HW6.out HRD6.out).mono ?_
        rintro e w7 ⟨rfl, hw7⟩
        have HW7 := Lib.hid (HW6.out.trans (hw7.mono HW6.out.size))
        clear hw7
        go_wp2
        go_returns
        exact writeOut_ok HOR.out HTT.out rfl HW7.out
end Go.Proofs.YtdolmjeiakdfhaaGreatDoor
