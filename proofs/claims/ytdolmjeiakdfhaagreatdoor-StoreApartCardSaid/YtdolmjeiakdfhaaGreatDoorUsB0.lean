/-
  The origin of an address. Conditions: the library's variables hold what they hold.
-/
import Derived.Test.YtdolmjeiakdfhaaGreatDoorUrZ
import Derived.Test.YtdolmjeiakdfhaaGreatDoorGrd
import Derived.Test.YtdolmjeiakdfhaaGreatDoorUrM
namespace Go.Proofs.YtdolmjeiakdfhaaGreatDoor
set_option linter.unusedSimpArgs false
set_option linter.unusedVariables false
open Go.RowKit

theorem parse_no0 {s : List UInt8} {n : Nat} (h : Urly.parse s = .error n) : n ≠ 0 := by
  unfold Urly.parse at h
  split at h
  · injection h with h; omega
  · split at h
    · injection h with h; omega
    · split at h
      · injection h with h; omega
      · split at h
        · injection h with h; omega
        · simp only at h
          split at h
          · cases h
          · injection h with h; omega
/-- the cells of an address, each. -/
theorem cells8 {w : World} {b : Nat} {u : Urly.U} {v : Value} (h : Box w b 62 (ucells u v)) : w.cell? ⟨b, 0, none⟩ = some (.string (byt u.scheme)) ∧ w.cell? ⟨b, 1, none⟩ = some (.string (byt u.host)) ∧ w.cell? ⟨b, 2, none⟩ = some (.int .i64 (u.port : Int)) ∧ w.cell? ⟨b, 3, none⟩ = some v ∧ w.cell? ⟨b, 4, none⟩ = some (.string (byt u.query)) ∧ w.cell? ⟨b, 5, none⟩ = some (.bool u.asks) ∧ w.cell? ⟨b, 6, none⟩ = some (.string (byt u.fragment)) ∧ w.cell? ⟨b, 7, none⟩ = some (.bool u.points) := ⟨h.cell 0, h.cell 1, h.cell 2, h.cell 3, h.cell 4, h.cell 5, h.cell 6, h.cell 7⟩
def WriteOut (r : Except Nat (List UInt8)) (w : World) (e : Ending) (w' : World) : Prop :=
  e = .returned (.tuple (match r with
    | .ok s => #[.string (byt s), .int .i64 0]
    | .error n => #[.string (byt []), .int .i64 (n : Int)])) ∧ Below w.heap.size w w'
theorem writeOut_ok {r : Except Nat (List UInt8)} {s : List UInt8} {S : ByteArray} {w w' : World} {e : Ending} (h : r = .ok s) (hS : byt s = S) (he : e = .returned (.tuple #[.string S, .int .i64 0])) (hb : Below w.heap.size w w') : WriteOut r w e w' := by subst h; subst hS; exact ⟨he, hb⟩
theorem writeOut_no {r : Except Nat (List UInt8)} {n : Nat} {m : Int} {w w' : World} {e : Ending} (h : r = .error n) (hm : (n : Int) = m) (he : e = .returned (.tuple #[.string (byt []), .int .i64 m])) (hb : Below w.heap.size w w') : WriteOut r w e w' := by subst h; subst hm; exact ⟨he, hb⟩
set_option maxRecDepth 100000 in
set_option maxHeartbeats 8000000 in
theorem uorigin_any (s : List UInt8) (w : World) (he : Env w) :
    Calls Tryz.prog 9 #[.string (byt s)] w (WriteOut (Urly.originOf s) w) := by
  have HP : Hid (Calls Tryz.prog 22 #[.string (byt s)] w (ParseOut s w)) := Lib.hid (parse_any s w he)
  have HO : Hid (∀ (u : Urly.U) (v : Value) (w1 : World), Urly.Sz u → Below w.heap.size w w1 → Calls Tryz.prog 23 #[.agg (ucells u v)] w1 (TextOut (Urly.origin u) w1)) := Lib.hid (fun u v w1 hu h1 => origin_any u v w1 hu (he.below h1))
  obtain ⟨S, hS⟩ : ∃ S, byt s = S := ⟨_, rfl⟩
  rw [hS] at HP ⊢
  clear hS he
  go_enter Tryz.func9, Tryz.ntmps9
  go_wp2_with (fail)
  refine HP.out.mono ?_
  rintro e w1 (⟨u, v, hp, rfl, hown, hlen, hw1⟩ | ⟨n, hp, rfl, hw1⟩)
  · have HOR : Hid (Urly.originOf s = .ok (Urly.origin u)) := Lib.hid (Urly.origin_ok hp)
    have HSZ := Lib.hid (Urly.parse_size hp).1
    have HW1 := Lib.hid hw1
    obtain ⟨A, cap, rfl⟩ := own_slice hown
    have h12 := ucells_one u A u.path.length cap
    have hisz : (Tryz.prog.info? 62).map (·.size) = some (ucells u (.slice A u.path.length cap)).size := info_url
    have HOO := Lib.hid (HO.out u (.slice A u.path.length cap))
    have hcsz : (8 : Nat) = (ucells u (.slice A u.path.length cap)).size := rfl
    obtain ⟨cs, hcs⟩ : ∃ cs, ucells u (.slice A u.path.length cap) = cs := ⟨_, rfl⟩
    rw [hcs] at h12 hisz HOO hcsz ⊢
    have HCZ := Lib.hid hcsz
    clear hcsz hcs hp hw1 hown hlen HO HP
    go_wp2_with (first | (refine wpList_store_box rfl 62 (.tmp 4) (.tmp 9) rfl w1.heap.size cs rfl rfl 62 _ (Box.new w1 _ _) hisz (by rw [← HCZ.out]; rfl) h12 ?_; intro w3 hx3 hu3 hz3) | (refine wpList_load_row rfl 62 (.tmp 4) rfl w1.heap.size rfl _ cs (0, 0) _ hx3 Tryz.underlying62 rfl hisz ?_))
    have hb13 : Below w1.heap.size w1 w3 := (below1 w1 _).trans (hu3.own (Nat.le_refl _) (by simp))
    have HW3 : Hid (Below w.heap.size w w3) := Lib.hid (HW1.out.trans (hb13.mono HW1.out.size))
    clear hb13 hu3 hx3 hz3
    refine (HOO.out _ HSZ.out HW3.out).mono ?_
    rintro e w4 ⟨rfl, hw4⟩
    have HW4 := Lib.hid (HW3.out.trans (hw4.mono HW3.out.size))
    clear hw4
    go_wp2
    go_returns
    exact writeOut_ok HOR.out rfl rfl HW4.out
  · have HOR : Hid (Urly.originOf s = .error n) := Lib.hid (Urly.origin_fail hp)
    have HW1 := Lib.hid hw1
    have hn0 : n ≠ 0 := parse_no0 hp
    obtain ⟨m, hm⟩ : ∃ m : Int, (n : Int) = m := ⟨_, rfl⟩
    have hm0 : (m != 0) = true := by rw [bne, beq_no (by omega)]; rfl
    have HM := Lib.hid hm
    rw [hm]
    clear hm hn0 hp hw1 HO HP
    go_wp2_with (refine wpList_store_box rfl 62 (.tmp 4) (.tmp 9) rfl w1.heap.size uzero rfl rfl 62 _ (Box.new w1 _ _) info_url rfl uzero_one ?_; intro w3 hx3 hu3 hz3)
    have hb13 : Below w1.heap.size w1 w3 := (below1 w1 _).trans (hu3.own (Nat.le_refl _) (by simp))
    have HW3 : Hid (Below w.heap.size w w3) := Lib.hid (HW1.out.trans (hb13.mono HW1.out.size))
    go_returns
    exact writeOut_no HOR.out HM.out rfl HW3.out
end Go.Proofs.YtdolmjeiakdfhaaGreatDoor
