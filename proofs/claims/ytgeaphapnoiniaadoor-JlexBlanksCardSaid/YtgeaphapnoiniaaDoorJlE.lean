/-
  A name or a word is read. Conditions: the reader lies in a block of its own, the library's table lies where it lies.
-/
import Derived.Test.YtgeaphapnoiniaaDoorJlD
namespace Go.Proofs.YtgeaphapnoiniaaDoor
open Go.RowKit

/-- a token as a value. -/
def tokV (t : Lexy.Tk) (lo hi : Nat) : Value := .agg #[.int .i64 (t.kind : Int), .int .i64 (lo : Int), .int .i64 (hi : Int), .string (bytes t.text), .int .i64 (t.num : Int)]

theorem h1size {w w1 : World} {o : Obj} {b : Nat} (h : Upd (w.alloc o) w1 b) : w.heap.size < w1.heap.size := by have := h.size; simp at this; omega
theorem info_tok5 : (Tryd.prog.info? 28).map (·.size) = some 5 := by kernel_rfl
theorem tok_one (a b c d : Int) (x : ByteArray) : (#[.int .i64 a, .int .i64 b, .int .i64 c, .string x, .int .i64 d] : Array Value).all (·.oneCell') = true := by simp [Value.oneCell']

set_option maxRecDepth 100000 in
set_option maxHeartbeats 1000000 in
theorem name_any (b : Nat) (s : ByteArray) (k : Nat) (o : Value) (w : World) (h : Rd w b s k o) (he : Env w) (hb : 4 ≤ b) (hk : k ≤ s.size) (hm : s.size ≤ 1000000) :
    Calls Tryd.prog 23 #[.pointer (some ⟨b, 0, none⟩)] w fun e w' =>
      e = .returned (tokV ⟨if (s.data.toList.drop k).take (Lexy.nameLen (s.data.toList.drop k)) ∈ Lexy.kws then 5 else 1, (s.data.toList.drop k).take (Lexy.nameLen (s.data.toList.drop k)), 0⟩ 0 0) ∧
      Rd w' b s (k + Lexy.nameLen (s.data.toList.drop k)) o ∧ Upd w w' b := by
  have hlt := Box.lt h
  obtain ⟨n, hn⟩ : ∃ n, Lexy.nameLen (s.data.toList.drop k) = n := ⟨_, rfl⟩
  have hrun := Lib.hid (fun w (h : Rd w b s k o) => run_name b s k o w h hk hm)
  have hn' : ((s.data.toList.drop k).takeWhile Lexy.isNameB).length = n := hn
  rw [hn'] at hrun
  rw [hn]
  obtain ⟨x, hx⟩ : ∃ x, s.extract k (k + n) = x := ⟨_, rfl⟩
  have hxl : (s.data.toList.drop k).take n = x.data.toList := by
    rw [← hx]; simp
  rw [hx] at hrun
  rw [hxl]
  have hbx : bytes x.data.toList = x := by cases x; simp [bytes]
  have HBX := Lib.hid hbx
  clear hn hn' hx hxl hbx
  have HC : Hid (∀ (w : World) (g : Nat), Box w g 9 (wordCells Lexy.kws) → Calls Tryd.prog 33 #[.slice (some ⟨g, 0, none⟩) 17 17, .string x] w fun e w' => e = .returned (.bool (decide (x.data.toList ∈ Lexy.kws))) ∧ w = w') :=
    fun w g hc => contains_words Lexy.kws 17 rfl (by omega) x g w hc
  by_cases hk2 : x.data.toList ∈ Lexy.kws
  all_goals
    first
    | (have hd : decide (x.data.toList ∈ Lexy.kws) = true := by simpa using hk2
       rw [if_pos hk2]
       rw [hd] at HC
       clear hd)
    | (have hd : decide (x.data.toList ∈ Lexy.kws) = false := by simpa using hk2
       rw [if_neg hk2]
       rw [hd] at HC
       clear hd)
    clear hk2
    go_enter Tryd.func23, Tryd.ntmps23
    go_wp2_with (fail)
    refine (hrun.out _ (Box.alloc h _)).mono ?_
    rintro e w1 ⟨rfl, hr1, hu1⟩
    go_wp2_with (fail)
    have hsz := h1size hu1
    have he1 : Env w1 := (he.alloc (by omega) _).upd hu1 hb (by simp; omega)
    have hx1 : Box w1 w.heap.size 28 #[.int .i64 0, .int .i64 0, .int .i64 0, .string ⟨#[]⟩, .int .i64 0] := Box.grown (Box.new w _ _) hu1 (by simp; omega)
    refine (fields_kw _ he1).mono ?_
    rintro e w2 ⟨rfl, rfl⟩
    go_wp2_with (fail)
    refine (HC.out _ _ (Box.new w1 _ _)).mono ?_
    rintro e w3 ⟨rfl, rfl⟩
    have hx2 := Box.alloc hx1 (.cells (wordCells Lexy.kws) 9)
    go_wp2_with (refine wpList_store_box rfl 28 (.tmp 2) (.tmp 12) rfl w.heap.size #[.int .i64 _, .int .i64 0, .int .i64 0, .string x, .int .i64 0] rfl rfl 28 _ hx2 info_tok5 rfl (tok_one _ _ _ _ _) ?_; intro w3 hx3 hu3 hz3)
    refine bodyPost_ret (results_box rfl _ _ w.heap.size 28 _ _ rfl hx3 Tryd.underlying28 rfl info_tok5) rfl ?_
    refine ⟨by unfold tokV; rw [HBX.out]; rfl, Box.grown (Box.alloc hr1 _) hu3 (by simp; omega), ?_⟩
    exact ((((Upd.refl w b).alloc _).trans hu1).alloc _).far hu3 (Nat.le_refl _)
end Go.Proofs.YtgeaphapnoiniaaDoor
