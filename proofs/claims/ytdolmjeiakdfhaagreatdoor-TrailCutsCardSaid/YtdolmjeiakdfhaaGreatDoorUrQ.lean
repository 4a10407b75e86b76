/-
  What the library's variables hold; a text in small letters; a text split; a scheme; a host. Conditions: the text is no longer than 1048576 bytes.
-/
import Derived.Test.YtdolmjeiakdfhaaGreatDoorCut
import Derived.Test.YtdolmjeiakdfhaaGreatDoorSlc
import Derived.Test.YtdolmjeiakdfhaaGreatDoorUrP
import Derived.Test.YtdolmjeiakdfhaaGreatDoorUrH
import Derived.Shelf.Strings.SlTrimAscii
import Derived.Lib.SplitLaws
import Derived.Lib.IndexBytes
namespace Go.Proofs.YtdolmjeiakdfhaaGreatDoor
set_option linter.unusedSimpArgs false
set_option linter.unusedVariables false
open Go.RowKit

/-- the library's tables lie where they lie. -/
structure Env (w : World) : Prop where
  u : Lib.Utf8Tabs 4 5 w
  p : Lib.TabIs Tryz.prog w "internal/strconv.uint64pow10" .u64 Lib.pow10Tab
  m : ∃ m : Int, w.cell? ⟨0, 0, none⟩ = some (.int .i64 m)
  z : 6 ≤ w.heap.size
theorem gPow : Tryz.prog.globalNamed "internal/strconv.uint64pow10" = some 3 := by kernel_rfl
theorem Env.keep {w w' : World} (h : Env w) (hb : Below 6 w w') : Env w' :=
  ⟨⟨fun c hc => by rw [hb.cell (p := ⟨4, c, none⟩) (by simp)]; exact h.u.1 c hc, fun i hi => ⟨by rw [hb.cell (p := ⟨5, 2 * i, none⟩) (by simp)]; exact (h.u.2 i hi).1, by rw [hb.cell (p := ⟨5, 2 * i + 1, none⟩) (by simp)]; exact (h.u.2 i hi).2⟩⟩,
    var?_below hb gPow (by decide) h.p, by
    obtain ⟨m, h1⟩ := h.m
    exact ⟨m, by rw [hb.cell (p := ⟨0, 0, none⟩) (by show 0 < 6; decide)]; exact h1⟩, by have := hb.size; have := h.z; omega⟩
theorem Env.below {w w' : World} (h : Env w) (hb : Below w.heap.size w w') : Env w' := h.keep (hb.mono h.z)
theorem Env.upd {w w' : World} {b : Nat} (h : Env w) (hu : Upd w w' b) (hb : 6 ≤ b) : Env w' := h.keep (hu.own hb h.z)
def SmallOut (s : List UInt8) (w : World) (e : Ending) (w' : World) : Prop := e = .returned (.string (byt (Lib.mapD lowR s))) ∧ Below w.heap.size w w'
theorem small_env (s : List UInt8) (w : World) (hs : s.length ≤ 1048576) (he : Env w) :
    Calls Tryz.prog 59 #[.string (byt s)] w (SmallOut s w) := small_any s w (by omega) he.u
/-! ### split -/
theorem splitK_on (c : UInt8) : ∀ (k : Nat) (s : List UInt8), s.count c = k → Lib.splitK [c] 0 k s = Urly.splitOn c s
  | 0, s, h => by
    have hc : c ∉ s := List.count_eq_zero.1 h
    rw [Urly.splitOn_one s hc]; rfl
  | k + 1, s, h => by
    have hc : c ∈ s := by
      rw [← List.count_pos_iff]; omega
    obtain ⟨a, b, rfl, ha⟩ := List.eq_append_cons_of_mem hc
    have hi : Lib.index (a ++ c :: b) [c] = a.length := by rw [Lib.index_one, ib_yes ha]
    have hk : b.count c = k := by
      rw [List.count_append, List.count_cons_self, List.count_eq_zero.2 ha] at h
      omega
    have hne : ¬ ((Lib.index (a ++ c :: b) [c] == -1) = true) := by rw [hi]; simp
    have e1 : (a ++ c :: b).take (a.length + 0) = a := by simp
    have e2 : (a ++ c :: b).drop (a.length + 1) = b := by rw [List.drop_append]; simp
    rw [Urly.splitOn_cons b a ha, Lib.splitK, if_neg hne, hi]
    simp only [Int.toNat_natCast, List.length_cons, List.length_nil, Nat.zero_add]
    rw [e1, e2, splitK_on c k b hk]
theorem split_text (s : List UInt8) (c : UInt8) : Lib.splitB ⟨#[c]⟩ 0 (Lib.countB (byt s) ⟨#[c]⟩) (byt s) = (Urly.splitOn c s).map byt := by
  have hd := Lib.splitB_data ⟨#[c]⟩ 0 (Lib.countB (byt s) ⟨#[c]⟩) (byt s)
  have hcount : Lib.countB (byt s) ⟨#[c]⟩ = s.count c := Lib.count_one c s
  rw [hcount] at hd ⊢
  rw [show (⟨#[c]⟩ : ByteArray).data.toList = [c] from rfl, byt_data, splitK_on c _ s rfl] at hd
  rw [← hd, List.map_map]
  conv => lhs; rw [← List.map_id (Lib.splitB _ _ _ _)]
  refine List.map_congr_left fun x _ => ?_
  cases x; simp [byt]
theorem split_len (s : List UInt8) (c : UInt8) : Lib.countB (byt s) ⟨#[c]⟩ + 1 = (Urly.splitOn c s).length := by
  have := congrArg List.length (split_text s c)
  rw [Lib.splitB_all ⟨#[c]⟩ (Nat.le_refl 1) 0 _ _ rfl] at this
  simpa using this
/-- a row of texts. -/
def txts (l : List (List UInt8)) : List Value := l.map fun s => .string (byt s)
def SplitOut (c : UInt8) (s : List UInt8) (w : World) (e : Ending) (w' : World) : Prop :=
  e = .returned (.slice (some ⟨w.heap.size, 0, none⟩) (Urly.splitOn c s).length (Urly.splitOn c s).length) ∧ w' = w.alloc (.cells (txts (Urly.splitOn c s)).toArray 9)
theorem split_any (s : List UInt8) (c : UInt8) (w : World) (hs : s.length ≤ 1048576) (he : Env w) :
    Calls Tryz.prog 72 #[.string (byt s), .string ⟨#[c]⟩] w (SplitOut c s w) := by
  obtain ⟨m, hm⟩ := he.m
  have h := Tryz.strings_Split (byt s) ⟨#[c]⟩ m w (by rw [byt_size]; omega) hm (Nat.le_refl 1)
  rw [split_text, split_len, List.map_map] at h
  exact h
theorem splitOn_le (c : UInt8) : ∀ s, (Urly.splitOn c s).length ≤ s.length + 1 ∧ ∀ p ∈ Urly.splitOn c s, p.length ≤ s.length
  | [] => by simp [Urly.splitOn]
  | x :: r => by
    obtain ⟨h1, h2⟩ := splitOn_le c r
    by_cases e : x = c
    · subst e
      rw [Urly.splitOn_here]
      refine ⟨by simp; omega, fun p hp => ?_⟩
      rcases List.mem_cons.1 hp with rfl | hp
      · simp
      · have := h2 p hp; simp; omega
    · obtain ⟨p, l, e1, e2⟩ := Urly.splitOn_there r e
      rw [e2]
      rw [e1] at h1 h2
      refine ⟨by simpa using Nat.le_succ_of_le h1, fun q hq => ?_⟩
      rcases List.mem_cons.1 hq with rfl | hq
      · have := h2 p (by simp); simp; omega
      · have := h2 q (by simp [hq]); simp; omega
/-! ### trim -/
theorem drop_all (p : UInt8 → Bool) : ∀ l : List UInt8, (l.dropWhile p = []) ↔ l.all p = true
  | [] => by simp
  | a :: l => by
    have := drop_all p l
    cases h : p a <;> simp [List.dropWhile, h, this]
theorem drop_head (p : UInt8 → Bool) : ∀ (l : List UInt8) (x : UInt8) (t : List UInt8), l.dropWhile p = x :: t → p x = false
  | [], _, _, h => by simp at h
  | a :: l, x, t, h => by
    cases ha : p a
    · simp [List.dropWhile, ha] at h; rw [← h.1]; exact ha
    · simp [List.dropWhile, ha] at h; exact drop_head p l x t h
theorem trim_all (s cs : List UInt8) : (Lib.trimS s cs).isEmpty = s.all cs.contains := by
  have h1 : (Lib.trimS s cs = []) ↔ s.all cs.contains = true := by
    unfold Lib.trimS Lib.trimLeftS Lib.trimRightS
    rw [drop_all]
    cases hd : s.reverse.dropWhile cs.contains with
    | nil =>
      have := (drop_all cs.contains s.reverse).1 hd
      simp only [List.reverse_nil, List.all_nil, true_iff]
      simpa using this
    | cons x t =>
      have h0 := drop_head _ _ _ _ hd
      constructor
      · intro h
        have : x ∈ (x :: t).reverse := by simp
        have := List.all_eq_true.1 h x this
        rw [h0] at this; cases this
      · intro h
        have h2 : s.reverse.all cs.contains = true := by simpa using h
        have := (drop_all cs.contains s.reverse).2 h2
        rw [hd] at this; cases this
  rw [Bool.eq_iff_iff, List.isEmpty_iff]
  exact h1
theorem set_info : (Tryz.prog.info? 110).map (fun i => (i.zero, i.size)) = some (some (.agg (Array.replicate 256 (.bool false))), 256) := by kernel_rfl
/-- whether a text has bytes of a set alone, as its trimmed text is told. -/
def TrimOut (s cs : List UInt8) (w : World) (e : Ending) (w' : World) : Prop := ∃ T : ByteArray, e = .returned (.string T) ∧ T.toList.isEmpty = s.all cs.contains ∧ Below w.heap.size w w'
set_option maxRecDepth 100000 in
theorem trim_any (s cs : List UInt8) (hcs : (cs.all fun b => decide (b.toNat < 128)) = true) (hl : cs.length < 4294967281) (w : World) (hs : s.length ≤ 9223372036854775807) :
    Calls Tryz.prog 68 #[.string (byt s), .string (byt cs)] w (TrimOut s cs w) := by
  have h := Any.strings_Trim_laid Tryz.lays160 set_info (byt s) (byt cs) w (by rw [byt_size]; exact hs) (by rw [byt_size]; exact hl) (ascii_of_all (by rw [byt_data]; exact hcs))
  refine h.mono fun e w' h => ⟨_, h.1, ?_, h.2⟩
  rw [← trim_all]
  show (byt (Lib.trimS s cs)).toList.isEmpty = _
  rw [byt_list]
end Go.Proofs.YtdolmjeiakdfhaaGreatDoor
