/-
  A sign is read. Conditions: as in the texts before.
-/
import Derived.Test.YtgeaphapnoiniaaDoorJlF
namespace Go.Proofs.YtgeaphapnoiniaaDoor
open Go.RowKit

/-- what a reader's step answers. -/
def Out (w : World) (b : Nat) (s : ByteArray) (k : Nat) (o : Value) (r : Lexy.Res (Lexy.Tk × Nat)) (e : Ending) (w' : World) : Prop :=
  match r with
  | .ok (t, n) => e = .returned (.tuple #[tokV t 0 0, .int .i64 0]) ∧ Rd w' b s (k + n) o ∧ Upd w w' b
  | .err n => e = .returned (.tuple #[tokV ⟨0, [], 0⟩ 0 0, .int .i64 (n : Int)]) ∧ Upd w w' b

/-- the words, wherever they are laid. -/
theorem words_sg (w : World) (g : Nat) (hg : w.heap.size = g) (he : Env w) :
    Calls Tryd.prog 34 #[.string (bytes sgText)] w fun e w' => e = .returned (.slice (some ⟨g, 0, none⟩) 26 26) ∧ Box w' g 9 (wordCells Lexy.signs) ∧ Below g w w' := by
  subst hg
  refine (fields_sg w he).mono fun e w' ⟨h1, h2⟩ => ?_
  subst h2
  exact ⟨h1, Box.new _ _ _, (Below.refl _ _).alloc (Nat.le_refl _) _⟩

theorem Rd.below {w w1 : World} {b k : Nat} {s : ByteArray} {o : Value} (h : Rd w b s k o) {B : Nat} (hb : Below B w w1) (hB : b < B) : Rd w1 b s k o := Box.below h hb hB
theorem Rd.alloc {w : World} {b k : Nat} {s : ByteArray} {o : Value} (h : Rd w b s k o) (x : Obj) : Rd (w.alloc x) b s k o := Box.alloc h x

theorem i2a : ∀ w, (Instr.index 65 (.agg #[.int .i64 2, .int .i64 1]) (.int .i64 0)).run Tryd.prog w = .ok (.int .i64 2) w := fun _ => by kernel_rfl
theorem i2b : ∀ w, (Instr.index 65 (.agg #[.int .i64 2, .int .i64 1]) (.int .i64 1)).run Tryd.prog w = .ok (.int .i64 1) w := fun _ => by kernel_rfl

def tok0 : Obj := .cells #[.int .i64 0, .int .i64 0, .int .i64 0, .string ⟨#[]⟩, .int .i64 0] 28

set_option maxRecDepth 100000 in
set_option maxHeartbeats 1000000 in
theorem sign_two (b : Nat) (s : ByteArray) (k : Nat) (o : Value) (w : World) (h : Rd w b s k o) (he : Env w) (hb : 4 ≤ b) (hm : s.size ≤ 1000000)
    (h2 : k + 2 ≤ s.size) (hw : (s.data.toList.drop k).take 2 ∈ Lexy.signs) :
    Calls Tryd.prog 27 #[.pointer (some ⟨b, 0, none⟩)] w fun e w' => Out w b s k o (.ok (⟨4, (s.data.toList.drop k).take 2, 0⟩, 2)) e w' := by
  obtain ⟨x, hx⟩ : ∃ x, s.extract k (k + 2) = x := ⟨_, rfl⟩
  have hxl : (s.data.toList.drop k).take 2 = x.data.toList := by rw [← hx]; simp
  rw [hxl] at hw ⊢
  have hbx : bytes x.data.toList = x := by cases x; simp [bytes]
  have HBX := Lib.hid hbx
  have HC : Hid (∀ (w : World) (g : Nat), Box w g 9 (wordCells Lexy.signs) → Calls Tryd.prog 33 #[.slice (some ⟨g, 0, none⟩) 26 26, .string x] w fun e w' => e = .returned (.bool true) ∧ w = w') := by
    intro w g hc
    have := contains_words Lexy.signs 26 rfl (by omega) x g w hc
    rwa [show decide (x.data.toList ∈ Lexy.signs) = true by simpa using hw] at this
  have hi0 := i2a
  have hsl : ∀ w, (Instr.slice 9 (.string s) (some (.int .i64 (k : Int))) (some (.int .i64 ((k : Int) + 2))) none).run Tryd.prog w = .ok (.string x) w := by
    intro w
    have := run_slice_string (P := Tryd.prog) w 9 s .i64 .i64 (k : Int) ((k : Int) + 2) Tryd.underlying9 (by omega) (by omega) (by omega)
    rw [show ((k : Int) + 2).toNat = k + 2 by omega, Int.toNat_natCast, hx] at this
    exact this
  have ht1 : decide ((s.size : Int) < (k : Int) + 2) = false := by simp; omega
  have hs0 := h.text; have hp0 := h.place; have hlt := Box.lt h
  clear hw hx hxl hbx
  go_enter Tryd.func27, Tryd.ntmps27
  go_wp2
  refine wp_loop_rounds 3 ?_
  rw [rounds_succ]
  go_wp2
  go_quiet (fail)
  go_wp2
  go_quiet (fail)
  go_wp2_with (fail)
  refine (words_sg _ (w.heap.size + 1) (by simp) ((he.alloc (by omega) _).drewN _)).mono ?_
  rintro e w2 ⟨rfl, hbx2, hbl2⟩
  go_wp2_with (fail)
  refine (HC.out _ _ hbx2).mono ?_
  rintro e w3 ⟨rfl, rfl⟩
  have hr2 : Rd w2 b s k o := Rd.below ((h.alloc _).drewN _) hbl2 (by omega)
  have htk : Box w2 w.heap.size 28 #[.int .i64 0, .int .i64 0, .int .i64 0, .string ⟨#[]⟩, .int .i64 0] := Box.below ((Box.new w _ _).drewN _) hbl2 (by omega)
  have hu2 : Upd w w2 b := Upd.below (((Below.refl _ w).alloc (Nat.le_refl _) _).trans ((below_drewN (Below.refl _ _) _).trans (hbl2.mono (by omega)))) b
  have hsz2 : w.heap.size < w2.heap.size := htk.lt
  clear hs0 hp0
  have hp2 := hr2.place; have hf2 := hr2.free 1
  go_wp2_with (refine wpList_store_box rfl 28 (.tmp 2) (.tmp 50) rfl w.heap.size #[.int .i64 _, .int .i64 0, .int .i64 0, .string x, .int .i64 0] rfl rfl 28 _ (htk.far (by simp; omega) _) info_tok5 rfl (tok_one _ _ _ _ _) ?_; intro w4 hx4 hu4 hz4)
  refine bodyPost_ret (results_box_tmp rfl _ _ w.heap.size 28 _ _ rfl hx4 Tryd.underlying28 rfl info_tok5) rfl ?_
  refine ⟨?_, ?_, ?_⟩
  · unfold tokV; rw [HBX.out]; rfl
  · exact Box.grown (hr2.moveI _ (k + 2) (by omega)) hu4 (by simp; omega)
  · exact (hu2.set (.inl rfl) _).far hu4 (Nat.le_refl _)

set_option maxRecDepth 100000 in
set_option maxHeartbeats 1000000 in
theorem sign_one2 (b : Nat) (s : ByteArray) (k : Nat) (o : Value) (w : World) (h : Rd w b s k o) (he : Env w) (hb : 4 ≤ b) (hm : s.size ≤ 1000000)
    (h2 : k + 2 ≤ s.size) (hw : ¬ (s.data.toList.drop k).take 2 ∈ Lexy.signs) (hv : (s.data.toList.drop k).take 1 ∈ Lexy.signs) :
    Calls Tryd.prog 27 #[.pointer (some ⟨b, 0, none⟩)] w fun e w' => Out w b s k o (.ok (⟨4, (s.data.toList.drop k).take 1, 0⟩, 1)) e w' := by
  obtain ⟨x, hx⟩ : ∃ x, s.extract k (k + 2) = x := ⟨_, rfl⟩
  have hxl : (s.data.toList.drop k).take 2 = x.data.toList := by rw [← hx]; simp
  rw [hxl] at hw
  have HC2 : Hid (∀ (w : World) (g : Nat), Box w g 9 (wordCells Lexy.signs) → Calls Tryd.prog 33 #[.slice (some ⟨g, 0, none⟩) 26 26, .string x] w fun e w' => e = .returned (.bool false) ∧ w = w') := by
    intro w g hc
    have := contains_words Lexy.signs 26 rfl (by omega) x g w hc
    rwa [show decide (x.data.toList ∈ Lexy.signs) = false by simpa using hw] at this
  have hsl : ∀ w, (Instr.slice 9 (.string s) (some (.int .i64 (k : Int))) (some (.int .i64 ((k : Int) + 2))) none).run Tryd.prog w = .ok (.string x) w := by
    intro w
    have := run_slice_string (P := Tryd.prog) w 9 s .i64 .i64 (k : Int) ((k : Int) + 2) Tryd.underlying9 (by omega) (by omega) (by omega)
    rw [show ((k : Int) + 2).toNat = k + 2 by omega, Int.toNat_natCast, hx] at this
    exact this
  have ht1 : decide ((s.size : Int) < (k : Int) + 2) = false := by simp; omega
  clear hw hx hxl
  have ht2 : decide ((s.size : Int) < (k : Int) + 1) = false := by simp; omega
  obtain ⟨y, hy⟩ : ∃ y, s.extract k (k + 1) = y := ⟨_, rfl⟩
  have hyl : (s.data.toList.drop k).take 1 = y.data.toList := by rw [← hy]; simp
  rw [hyl] at hv ⊢
  have hbx : bytes y.data.toList = y := by cases y; simp [bytes]
  have HBX := Lib.hid hbx
  have HC1 : Hid (∀ (w : World) (g : Nat), Box w g 9 (wordCells Lexy.signs) → Calls Tryd.prog 33 #[.slice (some ⟨g, 0, none⟩) 26 26, .string y] w fun e w' => e = .returned (.bool true) ∧ w = w') := by
    intro w g hc
    have := contains_words Lexy.signs 26 rfl (by omega) y g w hc
    rwa [show decide (y.data.toList ∈ Lexy.signs) = true by simpa using hv] at this
  have hi0 := i2a
  have hi1 := i2b
  have hsl1 : ∀ w, (Instr.slice 9 (.string s) (some (.int .i64 (k : Int))) (some (.int .i64 ((k : Int) + 1))) none).run Tryd.prog w = .ok (.string y) w := by
    intro w
    have := run_slice_string (P := Tryd.prog) w 9 s .i64 .i64 (k : Int) ((k : Int) + 1) Tryd.underlying9 (by omega) (by omega) (by omega)
    rw [show ((k : Int) + 1).toNat = k + 1 by omega, Int.toNat_natCast, hy] at this
    exact this
  have hs0 := h.text; have hp0 := h.place; have hlt := Box.lt h
  clear hv hy hyl hbx
  go_enter Tryd.func27, Tryd.ntmps27
  go_wp2
  refine wp_loop_rounds 3 ?_
  rw [rounds_succ]
  go_wp2
  go_quiet (fail)
  go_wp2
  go_quiet (fail)
  go_wp2_with (fail)
  refine (words_sg _ (w.heap.size + 1) (by simp) ((he.alloc (by omega) _).drewN _)).mono ?_
  rintro e w2 ⟨rfl, hbx2, hbl2⟩
  go_wp2_with (fail)
  refine (HC2.out _ _ hbx2).mono ?_
  rintro e w3 ⟨rfl, rfl⟩
  have he2 : Env w2 := ((he.alloc (by omega) _).drewN _).below hbl2 (by omega)
  have hr2 : Rd w2 b s k o := Rd.below ((h.alloc _).drewN _) hbl2 (by omega)
  have htk2 : Box w2 w.heap.size 28 #[.int .i64 0, .int .i64 0, .int .i64 0, .string ⟨#[]⟩, .int .i64 0] := Box.below ((Box.new w _ _).drewN _) hbl2 (by omega)
  have hu2 : Upd w w2 b := Upd.below (((Below.refl _ w).alloc (Nat.le_refl _) _).trans ((below_drewN (Below.refl _ _) _).trans (hbl2.mono (by omega)))) b
  have hsz2 : w.heap.size < w2.heap.size := htk2.lt
  have hlt2 : b < w2.heap.size := by omega
  clear hs0 hp0
  have hp2 := hr2.place; have hs2 := hr2.text
  go_wp2
  rw [rounds_succ]
  go_wp2
  go_quiet (fail)
  go_wp2
  go_quiet (fail)
  go_wp2_with (fail)
  refine (words_sg _ w2.heap.size (by simp) (he2.drewN _)).mono ?_
  rintro e w4 ⟨rfl, hbx4, hbl4⟩
  have hr4 : Rd w4 b s k o := Rd.below (hr2.drewN _) hbl4 (by omega)
  have htk4 : Box w4 w.heap.size 28 #[.int .i64 0, .int .i64 0, .int .i64 0, .string ⟨#[]⟩, .int .i64 0] := Box.below (htk2.drewN _) hbl4 (by omega)
  have hu4 : Upd w w4 b := hu2.trans (Upd.below ((below_drewN (Below.refl _ _) _).trans hbl4) b)
  clear hs2 hp2
  have hsz4 : w.heap.size < w4.heap.size := htk4.lt
  go_wp2_with (fail)
  refine (HC1.out _ _ hbx4).mono ?_
  rintro e w5 ⟨rfl, rfl⟩
  have hp4 := hr4.place; have hf4 := hr4.free 1
  go_wp2_with (refine wpList_store_box rfl 28 (.tmp 2) (.tmp 50) rfl w.heap.size #[.int .i64 _, .int .i64 0, .int .i64 0, .string y, .int .i64 0] rfl rfl 28 _ (htk4.far (by simp; omega) _) info_tok5 rfl (tok_one _ _ _ _ _) ?_; intro w6 hx6 hu6 hz6)
  refine bodyPost_ret (results_box_tmp rfl _ _ w.heap.size 28 _ _ rfl hx6 Tryd.underlying28 rfl info_tok5) rfl ?_
  refine ⟨?_, ?_, ?_⟩
  · unfold tokV; rw [HBX.out]; rfl
  · exact Box.grown (hr4.moveI _ (k + 1) (by omega)) hu6 (by simp; omega)
  · exact (hu4.set (.inl rfl) _).far hu6 (Nat.le_refl _)

set_option maxRecDepth 100000 in
set_option maxHeartbeats 1000000 in
theorem sign_one1 (b : Nat) (s : ByteArray) (k : Nat) (o : Value) (w : World) (h : Rd w b s k o) (he : Env w) (hb : 4 ≤ b) (hm : s.size ≤ 1000000)
    (h1 : k + 1 = s.size) (hv : (s.data.toList.drop k).take 1 ∈ Lexy.signs) :
    Calls Tryd.prog 27 #[.pointer (some ⟨b, 0, none⟩)] w fun e w' => Out w b s k o (.ok (⟨4, (s.data.toList.drop k).take 1, 0⟩, 1)) e w' := by
  have ht1 : decide ((s.size : Int) < (k : Int) + 2) = true := by simp; omega
  have ht2 : decide ((s.size : Int) < (k : Int) + 1) = false := by simp; omega
  obtain ⟨y, hy⟩ : ∃ y, s.extract k (k + 1) = y := ⟨_, rfl⟩
  have hyl : (s.data.toList.drop k).take 1 = y.data.toList := by rw [← hy]; simp
  rw [hyl] at hv ⊢
  have hbx : bytes y.data.toList = y := by cases y; simp [bytes]
  have HBX := Lib.hid hbx
  have HC1 : Hid (∀ (w : World) (g : Nat), Box w g 9 (wordCells Lexy.signs) → Calls Tryd.prog 33 #[.slice (some ⟨g, 0, none⟩) 26 26, .string y] w fun e w' => e = .returned (.bool true) ∧ w = w') := by
    intro w g hc
    have := contains_words Lexy.signs 26 rfl (by omega) y g w hc
    rwa [show decide (y.data.toList ∈ Lexy.signs) = true by simpa using hv] at this
  have hi0 := i2a
  have hi1 := i2b
  have hsl1 : ∀ w, (Instr.slice 9 (.string s) (some (.int .i64 (k : Int))) (some (.int .i64 ((k : Int) + 1))) none).run Tryd.prog w = .ok (.string y) w := by
    intro w
    have := run_slice_string (P := Tryd.prog) w 9 s .i64 .i64 (k : Int) ((k : Int) + 1) Tryd.underlying9 (by omega) (by omega) (by omega)
    rw [show ((k : Int) + 1).toNat = k + 1 by omega, Int.toNat_natCast, hy] at this
    exact this
  have hs0 := h.text; have hp0 := h.place; have hlt := Box.lt h
  clear hv hy hyl hbx
  go_enter Tryd.func27, Tryd.ntmps27
  go_wp2
  refine wp_loop_rounds 3 ?_
  rw [rounds_succ]
  go_wp2
  go_quiet (fail)
  go_wp2
  rw [rounds_succ]
  go_wp2
  go_quiet (fail)
  go_wp2
  go_quiet (fail)
  go_wp2_with (fail)
  refine (words_sg _ (w.heap.size + 1) (by simp) ((he.alloc (by omega) _).drewN _)).mono ?_
  rintro e w4 ⟨rfl, hbx4, hbl4⟩
  have hr4 : Rd w4 b s k o := Rd.below ((h.alloc _).drewN _) hbl4 (by omega)
  have htk4 : Box w4 w.heap.size 28 #[.int .i64 0, .int .i64 0, .int .i64 0, .string ⟨#[]⟩, .int .i64 0] := Box.below ((Box.new w _ _).drewN _) hbl4 (by omega)
  have hu4 : Upd w w4 b := Upd.below (((Below.refl _ w).alloc (Nat.le_refl _) _).trans ((below_drewN (Below.refl _ _) _).trans (hbl4.mono (by omega)))) b
  clear hs0 hp0
  have hsz4 : w.heap.size < w4.heap.size := htk4.lt
  go_wp2_with (fail)
  refine (HC1.out _ _ hbx4).mono ?_
  rintro e w5 ⟨rfl, rfl⟩
  have hp4 := hr4.place; have hf4 := hr4.free 1
  go_wp2_with (refine wpList_store_box rfl 28 (.tmp 2) (.tmp 50) rfl w.heap.size #[.int .i64 _, .int .i64 0, .int .i64 0, .string y, .int .i64 0] rfl rfl 28 _ (htk4.far (by simp; omega) _) info_tok5 rfl (tok_one _ _ _ _ _) ?_; intro w6 hx6 hu6 hz6)
  refine bodyPost_ret (results_box_tmp rfl _ _ w.heap.size 28 _ _ rfl hx6 Tryd.underlying28 rfl info_tok5) rfl ?_
  refine ⟨?_, ?_, ?_⟩
  · unfold tokV; rw [HBX.out]; rfl
  · exact Box.grown (hr4.moveI _ (k + 1) (by omega)) hu6 (by simp; omega)
  · exact (hu4.set (.inl rfl) _).far hu6 (Nat.le_refl _)

set_option maxRecDepth 100000 in
set_option maxHeartbeats 1000000 in
theorem sign_no2 (b : Nat) (s : ByteArray) (k : Nat) (o : Value) (w : World) (h : Rd w b s k o) (he : Env w) (hb : 4 ≤ b) (hm : s.size ≤ 1000000)
    (h2 : k + 2 ≤ s.size) (hw : ¬ (s.data.toList.drop k).take 2 ∈ Lexy.signs) (hv : ¬ (s.data.toList.drop k).take 1 ∈ Lexy.signs) :
    Calls Tryd.prog 27 #[.pointer (some ⟨b, 0, none⟩)] w fun e w' => Out w b s k o (.err 4) e w' := by
  obtain ⟨x, hx⟩ : ∃ x, s.extract k (k + 2) = x := ⟨_, rfl⟩
  have hxl : (s.data.toList.drop k).take 2 = x.data.toList := by rw [← hx]; simp
  rw [hxl] at hw
  have HC2 : Hid (∀ (w : World) (g : Nat), Box w g 9 (wordCells Lexy.signs) → Calls Tryd.prog 33 #[.slice (some ⟨g, 0, none⟩) 26 26, .string x] w fun e w' => e = .returned (.bool false) ∧ w = w') := by
    intro w g hc
    have := contains_words Lexy.signs 26 rfl (by omega) x g w hc
    rwa [show decide (x.data.toList ∈ Lexy.signs) = false by simpa using hw] at this
  have hsl : ∀ w, (Instr.slice 9 (.string s) (some (.int .i64 (k : Int))) (some (.int .i64 ((k : Int) + 2))) none).run Tryd.prog w = .ok (.string x) w := by
    intro w
    have := run_slice_string (P := Tryd.prog) w 9 s .i64 .i64 (k : Int) ((k : Int) + 2) Tryd.underlying9 (by omega) (by omega) (by omega)
    rw [show ((k : Int) + 2).toNat = k + 2 by omega, Int.toNat_natCast, hx] at this
    exact this
  have ht1 : decide ((s.size : Int) < (k : Int) + 2) = false := by simp; omega
  clear hw hx hxl
  have ht2 : decide ((s.size : Int) < (k : Int) + 1) = false := by simp; omega
  obtain ⟨y, hy⟩ : ∃ y, s.extract k (k + 1) = y := ⟨_, rfl⟩
  have hyl : (s.data.toList.drop k).take 1 = y.data.toList := by rw [← hy]; simp
  rw [hyl] at hv
  have HC1 : Hid (∀ (w : World) (g : Nat), Box w g 9 (wordCells Lexy.signs) → Calls Tryd.prog 33 #[.slice (some ⟨g, 0, none⟩) 26 26, .string y] w fun e w' => e = .returned (.bool false) ∧ w = w') := by
    intro w g hc
    have := contains_words Lexy.signs 26 rfl (by omega) y g w hc
    rwa [show decide (y.data.toList ∈ Lexy.signs) = false by simpa using hv] at this
  have hi0 := i2a
  have hi1 := i2b
  have hsl1 : ∀ w, (Instr.slice 9 (.string s) (some (.int .i64 (k : Int))) (some (.int .i64 ((k : Int) + 1))) none).run Tryd.prog w = .ok (.string y) w := by
    intro w
    have := run_slice_string (P := Tryd.prog) w 9 s .i64 .i64 (k : Int) ((k : Int) + 1) Tryd.underlying9 (by omega) (by omega) (by omega)
    rw [show ((k : Int) + 1).toNat = k + 1 by omega, Int.toNat_natCast, hy] at this
    exact this
  have hs0 := h.text; have hp0 := h.place; have hlt := Box.lt h
  clear hv hy hyl
  go_enter Tryd.func27, Tryd.ntmps27
  go_wp2
  refine wp_loop_rounds 3 ?_
  rw [rounds_succ]
  go_wp2
  go_quiet (fail)
  go_wp2
  go_quiet (fail)
  go_wp2_with (fail)
  refine (words_sg _ (w.heap.size + 1) (by simp) ((he.alloc (by omega) _).drewN _)).mono ?_
  rintro e w2 ⟨rfl, hbx2, hbl2⟩
  go_wp2_with (fail)
  refine (HC2.out _ _ hbx2).mono ?_
  rintro e w3 ⟨rfl, rfl⟩
  have he2 : Env w2 := ((he.alloc (by omega) _).drewN _).below hbl2 (by omega)
  have hr2 : Rd w2 b s k o := Rd.below ((h.alloc _).drewN _) hbl2 (by omega)
  have htk2 : Box w2 w.heap.size 28 #[.int .i64 0, .int .i64 0, .int .i64 0, .string ⟨#[]⟩, .int .i64 0] := Box.below ((Box.new w _ _).drewN _) hbl2 (by omega)
  have hu2 : Upd w w2 b := Upd.below (((Below.refl _ w).alloc (Nat.le_refl _) _).trans ((below_drewN (Below.refl _ _) _).trans (hbl2.mono (by omega)))) b
  have hsz2 : w.heap.size < w2.heap.size := htk2.lt
  have hlt2 : b < w2.heap.size := by omega
  clear hs0 hp0
  have hp2 := hr2.place; have hs2 := hr2.text
  go_wp2
  rw [rounds_succ]
  go_wp2
  go_quiet (fail)
  go_wp2
  go_quiet (fail)
  go_wp2_with (fail)
  refine (words_sg _ w2.heap.size (by simp) (he2.drewN _)).mono ?_
  rintro e w4 ⟨rfl, hbx4, hbl4⟩
  have hr4 : Rd w4 b s k o := Rd.below (hr2.drewN _) hbl4 (by omega)
  have htk4 : Box w4 w.heap.size 28 #[.int .i64 0, .int .i64 0, .int .i64 0, .string ⟨#[]⟩, .int .i64 0] := Box.below (htk2.drewN _) hbl4 (by omega)
  have hu4 : Upd w w4 b := hu2.trans (Upd.below ((below_drewN (Below.refl _ _) _).trans hbl4) b)
  clear hs2 hp2
  have hsz4 : w.heap.size < w4.heap.size := htk4.lt
  go_wp2_with (fail)
  refine (HC1.out _ _ hbx4).mono ?_
  rintro e w5 ⟨rfl, rfl⟩
  have hp4 := hr4.place; have hf4 := hr4.free 1
  go_wp2
  rw [rounds_succ]
  go_wp2_with (refine wpList_store_box rfl 28 (.tmp 2) (.tmp 52) rfl w.heap.size #[.int .i64 0, .int .i64 0, .int .i64 0, .string ⟨#[]⟩, .int .i64 0] rfl rfl 28 _ htk4 info_tok5 rfl (tok_one _ _ _ _ _) ?_; intro w6 hx6 hu6 hz6)
  refine bodyPost_ret (results_box_tmp rfl _ _ w.heap.size 28 _ _ rfl hx6 Tryd.underlying28 rfl info_tok5) rfl ?_
  exact ⟨rfl, hu4.far hu6 (Nat.le_refl _)⟩

set_option maxRecDepth 100000 in
set_option maxHeartbeats 1000000 in
theorem sign_no1 (b : Nat) (s : ByteArray) (k : Nat) (o : Value) (w : World) (h : Rd w b s k o) (he : Env w) (hb : 4 ≤ b) (hm : s.size ≤ 1000000)
    (h1 : k + 1 = s.size) (hv : ¬ (s.data.toList.drop k).take 1 ∈ Lexy.signs) :
    Calls Tryd.prog 27 #[.pointer (some ⟨b, 0, none⟩)] w fun e w' => Out w b s k o (.err 4) e w' := by
  have ht1 : decide ((s.size : Int) < (k : Int) + 2) = true := by simp; omega
  have ht2 : decide ((s.size : Int) < (k : Int) + 1) = false := by simp; omega
  obtain ⟨y, hy⟩ : ∃ y, s.extract k (k + 1) = y := ⟨_, rfl⟩
  have hyl : (s.data.toList.drop k).take 1 = y.data.toList := by rw [← hy]; simp
  rw [hyl] at hv
  have HC1 : Hid (∀ (w : World) (g : Nat), Box w g 9 (wordCells Lexy.signs) → Calls Tryd.prog 33 #[.slice (some ⟨g, 0, none⟩) 26 26, .string y] w fun e w' => e = .returned (.bool false) ∧ w = w') := by
    intro w g hc
    have := contains_words Lexy.signs 26 rfl (by omega) y g w hc
    rwa [show decide (y.data.toList ∈ Lexy.signs) = false by simpa using hv] at this
  have hi0 := i2a
  have hi1 := i2b
  have hsl1 : ∀ w, (Instr.slice 9 (.string s) (some (.int .i64 (k : Int))) (some (.int .i64 ((k : Int) + 1))) none).run Tryd.prog w = .ok (.string y) w := by
    intro w
    have := run_slice_string (P := Tryd.prog) w 9 s .i64 .i64 (k : Int) ((k : Int) + 1) Tryd.underlying9 (by omega) (by omega) (by omega)
    rw [show ((k : Int) + 1).toNat = k + 1 by omega, Int.toNat_natCast, hy] at this
    exact this
  have hs0 := h.text; have hp0 := h.place; have hlt := Box.lt h
  clear hv hy hyl
  go_enter Tryd.func27, Tryd.ntmps27
  go_wp2
  refine wp_loop_rounds 3 ?_
  rw [rounds_succ]
  go_wp2
  go_quiet (fail)
  go_wp2
  rw [rounds_succ]
  go_wp2
  go_quiet (fail)
  go_wp2
  go_quiet (fail)
  go_wp2_with (fail)
  refine (words_sg _ (w.heap.size + 1) (by simp) ((he.alloc (by omega) _).drewN _)).mono ?_
  rintro e w4 ⟨rfl, hbx4, hbl4⟩
  have hr4 : Rd w4 b s k o := Rd.below ((h.alloc _).drewN _) hbl4 (by omega)
  have htk4 : Box w4 w.heap.size 28 #[.int .i64 0, .int .i64 0, .int .i64 0, .string ⟨#[]⟩, .int .i64 0] := Box.below ((Box.new w _ _).drewN _) hbl4 (by omega)
  have hu4 : Upd w w4 b := Upd.below (((Below.refl _ w).alloc (Nat.le_refl _) _).trans ((below_drewN (Below.refl _ _) _).trans (hbl4.mono (by omega)))) b
  clear hs0 hp0
  have hsz4 : w.heap.size < w4.heap.size := htk4.lt
  go_wp2_with (fail)
  refine (HC1.out _ _ hbx4).mono ?_
  rintro e w5 ⟨rfl, rfl⟩
  have hp4 := hr4.place; have hf4 := hr4.free 1
  go_wp2
  rw [rounds_succ]
  go_wp2_with (refine wpList_store_box rfl 28 (.tmp 2) (.tmp 52) rfl w.heap.size #[.int .i64 0, .int .i64 0, .int .i64 0, .string ⟨#[]⟩, .int .i64 0] rfl rfl 28 _ htk4 info_tok5 rfl (tok_one _ _ _ _ _) ?_; intro w6 hx6 hu6 hz6)
  refine bodyPost_ret (results_box_tmp rfl _ _ w.heap.size 28 _ _ rfl hx6 Tryd.underlying28 rfl info_tok5) rfl ?_
  exact ⟨rfl, hu4.far hu6 (Nat.le_refl _)⟩

theorem sign_any (b : Nat) (s : ByteArray) (k : Nat) (o : Value) (w : World) (h : Rd w b s k o) (he : Env w) (hb : 4 ≤ b) (hm : s.size ≤ 1000000) (hk : k < s.size) :
    Calls Tryd.prog 27 #[.pointer (some ⟨b, 0, none⟩)] w fun e w' => Out w b s k o (Lexy.sign (s.data.toList.drop k)) e w' := by
  have hl : (s.data.toList.drop k).length = s.size - k := by simp
  unfold Lexy.sign
  rw [hl]
  by_cases h2 : k + 2 ≤ s.size
  · by_cases hw : (s.data.toList.drop k).take 2 ∈ Lexy.signs
    · rw [if_pos ⟨by omega, hw⟩]
      exact sign_two b s k o w h he hb hm h2 hw
    · rw [if_neg (fun h => hw h.2)]
      by_cases hv : (s.data.toList.drop k).take 1 ∈ Lexy.signs
      · rw [if_pos ⟨by omega, hv⟩]
        exact sign_one2 b s k o w h he hb hm h2 hw hv
      · rw [if_neg (fun h => hv h.2)]
        exact sign_no2 b s k o w h he hb hm h2 hw hv
  · rw [if_neg (fun h => by omega)]
    by_cases hv : (s.data.toList.drop k).take 1 ∈ Lexy.signs
    · rw [if_pos ⟨by omega, hv⟩]
      exact sign_one1 b s k o w h he hb hm (by omega) hv
    · rw [if_neg (fun h => hv h.2)]
      exact sign_no1 b s k o w h he hb hm (by omega) hv
end Go.Proofs.YtgeaphapnoiniaaDoor
