/-
  ValueRing's walk, for every three numbers. Conditions: the library's table lies where it lies.
-/
import Derived.Test.YtollnadeaffomaaDoorVaRing
import Derived.Test.YtollnadeaffomaaDoorVal3
namespace Go.Proofs.YtollnadeaffomaaDoor
open Go.RowKit

theorem short_cat {a b : Valu.Bs} {n m : Nat} (ha : a.length ≤ n) (hb : b.length ≤ m) : (a ++ b).length ≤ n + m := by rw [List.length_append]; omega
theorem fit {a b : Valu.Bs} (ha : a.length ≤ 1000) (hb : b.length ≤ 1000) : (9223372036854775807 < (byt a).size + (byt b).size) = False := by
  rw [byt_size, byt_size, eq_iff_iff, iff_false]; omega
theorem isE (l : Valu.Bs) : (byt l).toList.isEmpty = decide (l = []) := byt_empty l

/-- what Binary gives has a text of at most 2000 bytes. -/
theorem number_one (n : Int) : (Valu.number n).1.s.length ≤ 140737488355328 := by unfold Valu.number; split <;> simp [Valu.num, Valu.null]
theorem truth_one (b : Bool) : (Valu.truth b).s.length ≤ 140737488355328 := by simp [Valu.truth]
theorem null_one : Valu.null.s.length ≤ 140737488355328 := by simp [Valu.null]
theorem bin_one (g : Valu.Sg) (a b : Valu.V) : (Valu.bin g a b).1.s.length ≤ 140737488355328 := by
  unfold Valu.bin
  cases g
  · simp only [Valu.binR, Valu.addR]; repeat' split
    · exact number_one _
    · exact null_one
    · next h => simp only [Valu.txt]; omega
    · exact null_one
  · simp only [Valu.binR, Valu.mulR]; repeat' split
    · exact number_one _
    · exact null_one
  · simp only [Valu.binR, Valu.divR]; repeat' split
    · exact null_one
    · exact number_one _
    · exact null_one
  · simp only [Valu.binR, Valu.modR]; repeat' split
    · exact null_one
    · exact number_one _
    · exact null_one
  · simp only [Valu.binR, Valu.ordR]; repeat' split
    · exact truth_one _
    · exact truth_one _
    · exact null_one
  · simp only [Valu.binR, Valu.ordR]; repeat' split
    · exact truth_one _
    · exact truth_one _
    · exact null_one
  · simp only [Valu.binR, Valu.ordR]; repeat' split
    · exact truth_one _
    · exact truth_one _
    · exact null_one
  · exact truth_one _

theorem ring_walk (a b c : Int) (w : World) (he : Env w) (h4 : 4 ≤ w.heap.size) :
    Calls Tryd.prog 3 #[.int .i64 a, .int .i64 b, .int .i64 c] w fun e w' => e = .returned (.bool true) ∧ Below w.heap.size w w' := by
  cases hx : Valu.check (Valu.num a)
  · exact ring_no_x a b c w he h4 hx
  cases hy : Valu.check (Valu.num b)
  · exact ring_no_y a b c w he h4 hx hy
  cases hz : Valu.check (Valu.num c)
  · exact ring_no_z a b c w he h4 hx hy hz
  have wa : Valu.within a (-Valu.big) Valu.big = true := by rw [← Valu.check_num]; exact hx
  have wb : Valu.within b (-Valu.big) Valu.big = true := by rw [← Valu.check_num]; exact hy
  have wc : Valu.within c (-Valu.big) Valu.big = true := by rw [← Valu.check_num]; exact hz
  have hn : ∀ n : Int, (Valu.num n).s.length ≤ 140737488355328 := fun n => by simp [Valu.num]
  have as_add := Valu.assoc Valu.does_add Int.add_assoc wa wb wc
  have as_mul := Valu.assoc Valu.does_mul Int.mul_assoc wa wb wc
  have di := Valu.distr wa wb wc
  have k1 := Valu.comm Valu.does_add Int.add_comm wa wb
  have k2 := Valu.comm Valu.does_mul Int.mul_comm wa wb
  rcases q1 : Valu.bin .add (Valu.num a) (Valu.num b) with ⟨pA, eA⟩
  have oq1 : pA.s.length ≤ 140737488355328 := by have h := bin_one .add (Valu.num a) (Valu.num b); rw [q1] at h; exact h
  have sq1 : eA.length ≤ 50 := by have h := Valu.bin_short .add (Valu.num a) (Valu.num b); rw [q1] at h; exact h
  rcases q2 : Valu.bin .add pA (Valu.num c) with ⟨lA, gA⟩
  have oq2 : lA.s.length ≤ 140737488355328 := by have h := bin_one .add pA (Valu.num c); rw [q2] at h; exact h
  have sq2 : gA.length ≤ 50 := by have h := Valu.bin_short .add pA (Valu.num c); rw [q2] at h; exact h
  rcases q3 : Valu.bin .add (Valu.num b) (Valu.num c) with ⟨mA, hA⟩
  have oq3 : mA.s.length ≤ 140737488355328 := by have h := bin_one .add (Valu.num b) (Valu.num c); rw [q3] at h; exact h
  have sq3 : hA.length ≤ 50 := by have h := Valu.bin_short .add (Valu.num b) (Valu.num c); rw [q3] at h; exact h
  rcases q4 : Valu.bin .add (Valu.num a) mA with ⟨nA, iA⟩
  have oq4 : nA.s.length ≤ 140737488355328 := by have h := bin_one .add (Valu.num a) mA; rw [q4] at h; exact h
  have sq4 : iA.length ≤ 50 := by have h := Valu.bin_short .add (Valu.num a) mA; rw [q4] at h; exact h
  rcases q5 : Valu.bin .mul (Valu.num a) (Valu.num b) with ⟨pM, eM⟩
  have oq5 : pM.s.length ≤ 140737488355328 := by have h := bin_one .mul (Valu.num a) (Valu.num b); rw [q5] at h; exact h
  have sq5 : eM.length ≤ 50 := by have h := Valu.bin_short .mul (Valu.num a) (Valu.num b); rw [q5] at h; exact h
  rcases q6 : Valu.bin .mul pM (Valu.num c) with ⟨lM, gM⟩
  have oq6 : lM.s.length ≤ 140737488355328 := by have h := bin_one .mul pM (Valu.num c); rw [q6] at h; exact h
  have sq6 : gM.length ≤ 50 := by have h := Valu.bin_short .mul pM (Valu.num c); rw [q6] at h; exact h
  rcases q7 : Valu.bin .mul (Valu.num b) (Valu.num c) with ⟨mM, hM⟩
  have oq7 : mM.s.length ≤ 140737488355328 := by have h := bin_one .mul (Valu.num b) (Valu.num c); rw [q7] at h; exact h
  have sq7 : hM.length ≤ 50 := by have h := Valu.bin_short .mul (Valu.num b) (Valu.num c); rw [q7] at h; exact h
  rcases q8 : Valu.bin .mul (Valu.num a) mM with ⟨nM, iM⟩
  have oq8 : nM.s.length ≤ 140737488355328 := by have h := bin_one .mul (Valu.num a) mM; rw [q8] at h; exact h
  have sq8 : iM.length ≤ 50 := by have h := Valu.bin_short .mul (Valu.num a) mM; rw [q8] at h; exact h
  rcases q9 : Valu.bin .mul (Valu.num a) mA with ⟨pF, fF⟩
  have oq9 : pF.s.length ≤ 140737488355328 := by have h := bin_one .mul (Valu.num a) mA; rw [q9] at h; exact h
  have sq9 : fF.length ≤ 50 := by have h := Valu.bin_short .mul (Valu.num a) mA; rw [q9] at h; exact h
  rcases q10 : Valu.bin .mul (Valu.num a) (Valu.num c) with ⟨rF, hF⟩
  have oq10 : rF.s.length ≤ 140737488355328 := by have h := bin_one .mul (Valu.num a) (Valu.num c); rw [q10] at h; exact h
  have sq10 : hF.length ≤ 50 := by have h := Valu.bin_short .mul (Valu.num a) (Valu.num c); rw [q10] at h; exact h
  rcases q11 : Valu.bin .add pM rF with ⟨tF, iF⟩
  have oq11 : tF.s.length ≤ 140737488355328 := by have h := bin_one .add pM rF; rw [q11] at h; exact h
  have sq11 : iF.length ≤ 50 := by have h := Valu.bin_short .add pM rF; rw [q11] at h; exact h
  simp only [q1, q2, q3, q4] at as_add
  simp only [q5, q6, q7, q8] at as_mul
  simp only [q3, q5, q9, q10, q11] at di
  rw [q1] at k1
  rw [q5] at k2
  refine ring_yes_at a b c w he h4 hx hy hz
    pA lA mA nA eA gA hA iA _ _ _ (bin_is (is_add (Valu.num a) (Valu.num b) (hn _) (hn _)) q1) (bin_is (is_add _ _ (hn b) (hn a)) k1) (bin_is (is_add pA (Valu.num c) oq1 (hn _)) q2) (bin_is (is_add (Valu.num b) (Valu.num c) (hn _) (hn _)) q3) (bin_is (is_add (Valu.num a) mA (hn _) oq3) q4) (byt_append _ _) (byt_append _ _) (byt_append _ _) ?_ ?_ ?_ _ _ (isE _) (neq_val _ _) ?c1
    pM lM mM nM eM gM hM iM _ _ _ (bin_is (is_mul (Valu.num a) (Valu.num b) (hn _) (hn _)) q5) (bin_is (is_mul _ _ (hn b) (hn a)) k2) (bin_is (is_mul pM (Valu.num c) oq5 (hn _)) q6) (bin_is (is_mul (Valu.num b) (Valu.num c) (hn _) (hn _)) q7) (bin_is (is_mul (Valu.num a) mM (hn _) oq7) q8) (byt_append _ _) (byt_append _ _) (byt_append _ _) ?_ ?_ ?_ _ _ (isE _) (neq_val _ _) ?c2
    mA pF pM rF tF hA fF eM hF iF _ _ _ _ (bin_is (is_add (Valu.num b) (Valu.num c) (hn _) (hn _)) q3) (bin_is (is_mul (Valu.num a) mA (hn _) oq3) q9) (bin_is (is_mul (Valu.num a) (Valu.num b) (hn _) (hn _)) q5) (bin_is (is_mul (Valu.num a) (Valu.num c) (hn _) (hn _)) q10) (bin_is (is_add pM rF oq5 oq10) q11) (byt_append _ _) (byt_append _ _) (byt_append _ _) (byt_append _ _) ?_ ?_ ?_ ?_ _ _ (isE _) (eql_val _ _) ?c3
  case c1 =>
    rw [Bool.and_eq_false_iff]
    by_cases h : eA ++ gA ++ hA ++ iA = []
    · obtain ⟨h1, h2, h3, h4⟩ := Valu.four_nil h
      exact .inr (by simp [as_add h1 h2 h3 h4])
    · exact .inl (decide_eq_false h)
  case c2 =>
    rw [Bool.and_eq_false_iff]
    by_cases h : eM ++ gM ++ hM ++ iM = []
    · obtain ⟨h1, h2, h3, h4⟩ := Valu.four_nil h
      exact .inr (by simp [as_mul h1 h2 h3 h4])
    · exact .inl (decide_eq_false h)
  case c3 =>
    rw [Bool.or_eq_true]
    by_cases h : hA ++ fF ++ eM ++ hF ++ iF = []
    · obtain ⟨h0, h5⟩ := List.append_eq_nil_iff.1 h
      obtain ⟨h1, h2, h3, h4⟩ := Valu.four_nil h0
      exact .inr (by simp [di h1 h2 h3 h4 h5])
    · exact .inl (by rw [decide_eq_false h]; rfl)
  all_goals
    refine fit ?_ ?_ <;> ((try simp only [List.length_append]); omega)
end Go.Proofs.YtollnadeaffomaaDoor
