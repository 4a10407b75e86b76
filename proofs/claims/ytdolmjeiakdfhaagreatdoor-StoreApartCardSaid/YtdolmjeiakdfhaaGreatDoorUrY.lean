/-
  An address as text. Conditions: the library's variables hold what they hold; its parts are short; its path lies in memory.
-/
import Derived.Test.YtdolmjeiakdfhaaGreatDoorUrX
import Derived.Test.YtdolmjeiakdfhaaGreatDoorUrSz
import Derived.Lib.AppendIntMem
namespace Go.Proofs.YtdolmjeiakdfhaaGreatDoor
set_option linter.unusedSimpArgs false
set_option linter.unusedVariables false
open Go.RowKit

def ItoaC : Prop := ∀ (n : Nat) (w : World), n ≤ 65535 → Env w → Calls Tryz.prog 51 #[.int .i64 (n : Int)] w fun e w' => e = .returned (.string (byt (Urly.digits n))) ∧ Below w.heap.size w w'
theorem itoaC : ItoaC := fun n w hn he => (Tryz.strconv_Itoa (n : Int) (by omega) (by omega) w he.p).mono fun e w' ⟨h1, k, os, h2⟩ => ⟨by rw [h1]; unfold Urly.digits Lib.itoa byt; simp, by rw [h2]; exact Lib.below_grow _ w (Nat.le_refl _) k os⟩
theorem origin_port0 {u : Urly.U} (h : u.port = 0) : byt u.scheme ++ ⟨#[58, 47, 47]⟩ ++ byt u.host = byt (Urly.origin u) := by
  rw [show (⟨#[58, 47, 47]⟩ : ByteArray) = byt [58, 47, 47] from rfl, byt_append, byt_append]
  unfold Urly.origin
  rw [if_neg (by simpa using h)]
  simp
theorem origin_port {u : Urly.U} (h : u.port ≠ 0) : byt u.scheme ++ ⟨#[58, 47, 47]⟩ ++ byt u.host ++ (⟨#[58]⟩ ++ byt (Urly.digits u.port)) = byt (Urly.origin u) := by
  rw [show (⟨#[58, 47, 47]⟩ : ByteArray) = byt [58, 47, 47] from rfl, show (⟨#[58]⟩ : ByteArray) = byt [58] from rfl, byt_append, byt_append, byt_append, byt_append]
  unfold Urly.origin
  rw [if_pos h]
  simp
def TextOut (s : List UInt8) (w : World) (e : Ending) (w' : World) : Prop := e = .returned (.string (byt s)) ∧ Below w.heap.size w w'
theorem textOut_mk {s : List UInt8} {S : ByteArray} {w w' : World} {e : Ending} (h : S = byt s) (he : e = .returned (.string S)) (hb : Below w.heap.size w w') : TextOut s w e w' := by subst h; exact ⟨he, hb⟩
set_option maxRecDepth 100000 in
set_option maxHeartbeats 4000000 in
theorem origin_any (u : Urly.U) (v : Value) (w : World) (hu : Urly.Sz u) (he : Env w) :
    Calls Tryz.prog 23 #[.agg (ucells u v)] w (TextOut (Urly.origin u) w) := by
  have hp := hu.port
  have q1 := byt_size u.scheme
  have q2 := byt_size u.host
  have q3 := byt_size (Urly.digits u.port)
  have q4 : (Urly.digits u.port).length ≤ 5 := (Urly.dec_len u.port hp).2
  have q5 := hu.scheme
  have q6 := hu.host
  have hw : Below w.heap.size w (w.alloc (.cells (ucells u v) 62)) := below1 w _
  have HI : Hid (∀ w1, Below w.heap.size w w1 → Calls Tryz.prog 51 #[.int .i64 (u.port : Int)] w1 fun e w' => e = .returned (.string (byt (Urly.digits u.port))) ∧ Below w1.heap.size w1 w') := Lib.hid (fun w1 h1 => itoaC u.port w1 hp (he.below h1))
  have HB := Lib.hid (Box.new w 62 (ucells u v))
  have HW := Lib.hid hw
  have c0 : (w.alloc (.cells (ucells u v) 62)).cell? ⟨w.heap.size, 0, none⟩ = some (.string (byt u.scheme)) := HB.out.cell 0
  have c1 : (w.alloc (.cells (ucells u v) 62)).cell? ⟨w.heap.size, 1, none⟩ = some (.string (byt u.host)) := HB.out.cell 1
  have c2 : (w.alloc (.cells (ucells u v) 62)).cell? ⟨w.heap.size, 2, none⟩ = some (.int .i64 (u.port : Int)) := HB.out.cell 2
  have H0 := Lib.hid (origin_port0 (u := u))
  have H1 := Lib.hid (origin_port (u := u))
  by_cases hz : u.port = 0
  · have HO := Lib.hid (H0.out hz)
    have hb : ((u.port : Int) != 0) = false := by rw [hz]; rfl
    obtain ⟨P, hP⟩ : ∃ P : Int, (u.port : Int) = P := ⟨_, rfl⟩
    rw [hP] at c2 hb
    obtain ⟨A, hA⟩ : ∃ A, byt u.scheme = A := ⟨_, rfl⟩
    obtain ⟨H, hH⟩ : ∃ A, byt u.host = A := ⟨_, rfl⟩
    rw [hA] at c0 HO q1
    rw [hH] at c1 HO q2
    obtain ⟨w1, hw1⟩ : ∃ w1, w.alloc (.cells (ucells u v) 62) = w1 := ⟨_, rfl⟩
    have HW1 := Lib.hid hw1
    have q1b : A.size ≤ 500 := by omega
    have q2b : H.size ≤ 100 := by omega
    clear hw hA hH hP H0 H1 hz he hw1 q1 q2 q3 q4 q5 q6 hu hp
    go_enter Tryz.func23, Tryz.ntmps23
    go_wp2
    go_ret
    exact textOut_mk HO.out rfl HW.out
  · have HO := Lib.hid (H1.out hz)
    have hb : ((u.port : Int) != 0) = true := by rw [bne, beq_no (by omega)]; rfl
    have HII := Lib.hid (HI.out _ HW.out)
    obtain ⟨P, hP⟩ : ∃ P : Int, (u.port : Int) = P := ⟨_, rfl⟩
    rw [hP] at c2 hb HII
    obtain ⟨A, hA⟩ : ∃ A, byt u.scheme = A := ⟨_, rfl⟩
    obtain ⟨H, hH⟩ : ∃ A, byt u.host = A := ⟨_, rfl⟩
    obtain ⟨D, hD⟩ : ∃ A, byt (Urly.digits u.port) = A := ⟨_, rfl⟩
    rw [hA] at c0 HO q1
    rw [hH] at c1 HO q2
    rw [hD] at HO HII q3
    have q3b : D.size ≤ 5 := by omega
    have q1b : A.size ≤ 500 := by omega
    have q2b : H.size ≤ 100 := by omega
    clear hw hA hH hD hP H0 H1 hz he HI q1 q2 q3 q4 q5 q6 hu hp
    go_enter Tryz.func23, Tryz.ntmps23
    go_wp2_with (fail)
    refine HII.out.mono ?_
    rintro e w1 ⟨rfl, hw1⟩
    have HW1 := Lib.hid (HW.out.trans (hw1.mono HW.out.size))
    clear hw1
    go_wp2
    go_ret
    exact textOut_mk HO.out rfl HW1.out
end Go.Proofs.YtdolmjeiakdfhaaGreatDoor
