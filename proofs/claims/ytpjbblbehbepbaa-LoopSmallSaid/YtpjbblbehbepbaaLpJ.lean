/-
  The numbers of all that waits. Conditions: as each says.
-/
import Derived.Test.YtpjbblbehbepbaaLpI
namespace Go.Proofs.Ytpjbblbehbepbaa
set_option linter.unusedSimpArgs false
set_option linter.unusedVariables false
open Go.RowKit

/-- a loop, as a value: its clock, its next number, and three rows. -/
abbrev lag (q : Loopy.Loop) (T S R : Value) : Array Value := #[.int .i64 q.now, .int .i64 q.next, T, S, R]
/-- it reads as that. -/
structure LRd (w : World) (q : Loopy.Loop) (T S R : Value) : Prop where
  t : JRd w q.tasks T
  s : JRd w q.smalls S
  r : TRd w q.timers R
theorem LRd.below {w w1 : World} {q : Loopy.Loop} {T S R : Value} (h : LRd w q T S R) (hb : Below w.heap.size w w1) : LRd w1 q T S R := ⟨h.t.below hb, h.s.below hb, h.r.below hb⟩
theorem parts_int : (Try.prog.info? 3).map (fun i => (i.zero, i.size, i.bytes)) = some (some (.int .i64 0), 1, 8) := by kernel_rfl
def ints (l : List Int) : List Value := l.map (Value.int .i64)
theorem arr0 (T S : Value) (w : World) : (Instr.index 80 (.agg #[T, S]) (.int .i64 0)).run Try.prog w = .ok T w := by kernel_rfl
theorem arr1 (T S : Value) (w : World) : (Instr.index 80 (.agg #[T, S]) (.int .i64 1)).run Try.prog w = .ok S w := by kernel_rfl

set_option maxRecDepth 100000 in
set_option maxHeartbeats 8000000 in
theorem numbers_any (q : Loopy.Loop) (T S R : Value) (w : World) (hq : LRd w q T S R) (l1 : q.tasks.length ≤ 1000) (l2 : q.smalls.length ≤ 1000) (l3 : q.timers.length ≤ 1000) :
    Calls Try.prog 29 #[.agg (lag q T S R)] w fun e w' => OwnOut w 3 1 (Loopy.ids q).length (ints (Loopy.ids q)) e w' := by
  obtain ⟨i0, hi0, hz0, hz1, hz2⟩ := info_parts parts_int
  obtain ⟨⟨AT, cT, rfl, hT1, hT2, hT3⟩, ⟨AS, cS, rfl, hS1, hS2, hS3⟩, ⟨AR, cR, rfl, hR1, hR2, hR3⟩⟩ := hq
  have HT := Lib.hid hT3
  have HS := Lib.hid hS3
  have HR := Lib.hid hR3
  have ha0 := arr0 (.slice AT q.tasks.length cT) (.slice AS q.smalls.length cS)
  have ha1 := arr1 (.slice AT q.tasks.length cT) (.slice AS q.smalls.length cS)
  clear hT3 hS3 hR3
  go_enter Try.func29, Try.ntmps29
  go_wp2_with (fail)
  have hb0 := below1 w (.cells (lag q (.slice AT q.tasks.length cT) (.slice AS q.smalls.length cS) (.slice AR q.timers.length cR)) 26)
  have hqb : Box (w.alloc (.cells (lag q (.slice AT q.tasks.length cT) (.slice AS q.smalls.length cS) (.slice AR q.timers.length cR)) 26)) w.heap.size 26 (lag q (.slice AT q.tasks.length cT) (.slice AS q.smalls.length cS) (.slice AR q.timers.length cR)) := Box.new w _ _
  generalize (w.alloc (.cells (lag q (.slice AT q.tasks.length cT) (.slice AS q.smalls.length cS) (.slice AR q.timers.length cR)) 26)) = W at *
  refine wp_loop_rounds 3 ?_
  rw [rounds_succ]
  go_wp2_with (fail)
  go_loopg [3, 7, 20] q.tasks.length (fun gg o _ c wr => ∃ (k : Nat) (A : Option Addr) (cap : Nat), k ≤ q.tasks.length ∧ q.tasks.length - k ≤ gg ∧ c = .int .i64 (k : Int) ∧ o = .slice A (([] : List Int) ++ (q.tasks.take k).map Loopy.Job.id).length cap ∧ Hid (Below W.heap.size W wr) ∧ Hid (wr.ownsRow W.heap.size 3 1 (.slice A (([] : List Int) ++ (q.tasks.take k).map Loopy.Job.id).length cap) (([] : List Int) ++ (q.tasks.take k).map Loopy.Job.id).length (ints (([] : List Int) ++ (q.tasks.take k).map Loopy.Job.id))))
  case atStart => exact ⟨0, none, 0, Nat.zero_le _, by omega, rfl, rfl, Below.refl _ _, World.ownsRow_nil _ _ _ _⟩
  case round =>
    obtain ⟨k, A1, cap1, hk, hg, rfl, rfl, BW1, own1⟩ := hrel
    by_cases hlt : k < q.tasks.length
    · have hlt2 : decide ((k : Int) < (q.tasks.length : Int)) = true := by simp; omega
      obtain ⟨x, hx⟩ : ∃ x, q.tasks[k]? = some x := ⟨_, List.getElem?_eq_getElem hlt⟩
      obtain ⟨g0, o, rfl, hg0, hrg⟩ := HT.out (by omega)
      have hgW : g0 < W.heap.size := by have := hb0.size; omega
      have hrange : Hid (wr.rangeAt g0 (o + k * 7) (jc x).toList) := fun i u hu => by
        rw [BW1.out.cell (p := ⟨g0, o + k * 7 + i, none⟩) hgW, hb0.cell (p := ⟨g0, o + k * 7 + i, none⟩) hg0]
        exact RdL.elem (f := jc) (fun _ => rfl) hrg hx i u hu
      obtain ⟨acc, hacc⟩ : ∃ acc, ([] : List Int) ++ (q.tasks.take k).map Loopy.Job.id = acc := ⟨_, rfl⟩
      have hacc2 : ([] : List Int) ++ (q.tasks.take (k + 1)).map Loopy.Job.id = acc ++ [x.id] := by rw [← hacc, List.take_add_one, hx]; simp
      have hal : acc.length ≤ 10000 := by rw [← hacc]; simp <;> omega
      rw [hacc] at own1 ⊢
      have HA := Lib.hid hacc2
      have hown := own1.out
      have hlts := Lib.hid hown.lt
      have HO := Lib.hid hown
      have hzW := BW1.out.size
      have hln : (ints acc).length = acc.length := by simp [ints]
      have HLN := Lib.hid hln
      clear hx hrg hacc hacc2 hown own1 hln
      go_wp2_with (first | (refine wpList_load_mid rfl 39 (.tmp 22) rfl g0 (o + k * 7) rfl (jc x).toList _ hrange.out Try.underlying39 rfl info_job ?_) | (refine wpList_store_box rfl 39 (.tmp 7) (.tmp 23) rfl wr.heap.size (jc x) rfl rfl 39 _ (Box.new wr _ _) info_job rfl (jc_one x) ?_; intro w4 hx4 hu4 hz4; have q0 := hx4.cell 0; simp at q0; have hz5 := hx4.lt; have hown4 := Lib.hid (own_grown (HO.out.alloc _) hu4 (by rcases hv : (Value.slice A1 acc.length cap1).ownBlock with _ | b; exact .inl rfl; exact .inr (fun h => by have := (hlts.out b hv).2; injection h with h; omega))); clear hz4) | (at_builtin; (refine wpList_append_lies _ rfl (.tmp 24) (.tmp 27) 66 rfl W.heap.size 3 i0 _ 1 8 Try.underlying66 hi0 hz0 hz1 hz2 rfl (by decide) _ acc.length (ints acc) rfl (hown4.out.alloc _) ⟨w4.heap.size, 0, none⟩ 1 1 [.int .i64 x.id] rfl rfl (World.news_of_block (Box.new w4 _ _)) (by simp [Value.oneCell']) (by omega) (by unfold maxLen; omega) (by omega) (by simp; omega) (w4.heap.size + 1) (by simp) ?_); intro g7 cap7 w7 hown7 hgr7 hor7 hlt7))
      have hb4 : Below W.heap.size W w4 := (BW1.out.alloc hzW _).trans (hu4.own hzW (by simp; omega))
      have hb7 : Below W.heap.size W w7 := (hb4.alloc hb4.size _).trans (below_grown hgr7 (by simp; have := hb4.size; omega) (fun j hj => (hlts.out j hj).1))
      go_roundg (q.tasks.length - (k + 1))
      case measure => omega
      case rel =>
        refine ⟨k + 1, some ⟨g7, 0, none⟩, cap7, by omega, by omega, by go_num, ?_, hb7, ?_⟩
        · rw [HA.out]; simp
        · show World.ownsRow _ _ _ _ _ _ _
          rw [HA.out]; simpa [ints] using hown7
    · have hlt2 : decide ((k : Int) < (q.tasks.length : Int)) = false := by simp; omega
      obtain rfl : k = q.tasks.length := by omega
      rw [List.take_length] at own1 ⊢
      have hqb1 : Box wr w.heap.size 26 (lag q (.slice AT q.tasks.length cT) (.slice AS q.smalls.length cS) (.slice AR q.timers.length cR)) := hqb.below BW1.out hqb.lt
      obtain ⟨wo1, rfl⟩ : ∃ wo : World, wo = wr := ⟨_, rfl⟩
      go_wp2_with (fail)
      rw [rounds_succ]
      go_wp2_with (fail)
      go_loopg [3, 7, 20] q.smalls.length (fun gg o _ c wr => ∃ (k : Nat) (A : Option Addr) (cap : Nat), k ≤ q.smalls.length ∧ q.smalls.length - k ≤ gg ∧ c = .int .i64 (k : Int) ∧ o = .slice A (([] ++ q.tasks.map Loopy.Job.id) ++ (q.smalls.take k).map Loopy.Job.id).length cap ∧ Hid (Below W.heap.size W wr) ∧ Hid (wr.ownsRow W.heap.size 3 1 (.slice A (([] ++ q.tasks.map Loopy.Job.id) ++ (q.smalls.take k).map Loopy.Job.id).length cap) (([] ++ q.tasks.map Loopy.Job.id) ++ (q.smalls.take k).map Loopy.Job.id).length (ints (([] ++ q.tasks.map Loopy.Job.id) ++ (q.smalls.take k).map Loopy.Job.id))))
      case atStart => exact ⟨0, A1, cap1, Nat.zero_le _, by omega, rfl, by simp, BW1.out, by simpa [Hid] using own1.out⟩
      case round =>
        obtain ⟨k, A2, cap2, hk, hg, rfl, rfl, BW2, own2⟩ := hrel
        by_cases hlt : k < q.smalls.length
        · have hlt2 : decide ((k : Int) < (q.smalls.length : Int)) = true := by simp; omega
          obtain ⟨x, hx⟩ : ∃ x, q.smalls[k]? = some x := ⟨_, List.getElem?_eq_getElem hlt⟩
          obtain ⟨g0, o, rfl, hg0, hrg⟩ := HS.out (by omega)
          have hgW : g0 < W.heap.size := by have := hb0.size; omega
          have hrange : Hid (wr.rangeAt g0 (o + k * 7) (jc x).toList) := fun i u hu => by
            rw [BW2.out.cell (p := ⟨g0, o + k * 7 + i, none⟩) hgW, hb0.cell (p := ⟨g0, o + k * 7 + i, none⟩) hg0]
            exact RdL.elem (f := jc) (fun _ => rfl) hrg hx i u hu
          obtain ⟨acc, hacc⟩ : ∃ acc, ([] ++ q.tasks.map Loopy.Job.id) ++ (q.smalls.take k).map Loopy.Job.id = acc := ⟨_, rfl⟩
          have hacc2 : ([] ++ q.tasks.map Loopy.Job.id) ++ (q.smalls.take (k + 1)).map Loopy.Job.id = acc ++ [x.id] := by rw [← hacc, List.take_add_one, hx]; simp
          have hal : acc.length ≤ 10000 := by rw [← hacc]; simp <;> omega
          rw [hacc] at own2 ⊢
          have HA := Lib.hid hacc2
          have hown := own2.out
          have hlts := Lib.hid hown.lt
          have HO := Lib.hid hown
          have hzW := BW2.out.size
          have hln : (ints acc).length = acc.length := by simp [ints]
          have HLN := Lib.hid hln
          clear hx hrg hacc hacc2 hown own2 hln
          go_wp2_with (first | (refine wpList_load_mid rfl 39 (.tmp 22) rfl g0 (o + k * 7) rfl (jc x).toList _ hrange.out Try.underlying39 rfl info_job ?_) | (refine wpList_store_box rfl 39 (.tmp 7) (.tmp 23) rfl wr.heap.size (jc x) rfl rfl 39 _ (Box.new wr _ _) info_job rfl (jc_one x) ?_; intro w4 hx4 hu4 hz4; have q0 := hx4.cell 0; simp at q0; have hz5 := hx4.lt; have hown4 := Lib.hid (own_grown (HO.out.alloc _) hu4 (by rcases hv : (Value.slice A2 acc.length cap2).ownBlock with _ | b; exact .inl rfl; exact .inr (fun h => by have := (hlts.out b hv).2; injection h with h; omega))); clear hz4) | (at_builtin; (refine wpList_append_lies _ rfl (.tmp 24) (.tmp 27) 66 rfl W.heap.size 3 i0 _ 1 8 Try.underlying66 hi0 hz0 hz1 hz2 rfl (by decide) _ acc.length (ints acc) rfl (hown4.out.alloc _) ⟨w4.heap.size, 0, none⟩ 1 1 [.int .i64 x.id] rfl rfl (World.news_of_block (Box.new w4 _ _)) (by simp [Value.oneCell']) (by omega) (by unfold maxLen; omega) (by omega) (by simp; omega) (w4.heap.size + 1) (by simp) ?_); intro g7 cap7 w7 hown7 hgr7 hor7 hlt7))
          have hb4 : Below W.heap.size W w4 := (BW2.out.alloc hzW _).trans (hu4.own hzW (by simp; omega))
          have hb7 : Below W.heap.size W w7 := (hb4.alloc hb4.size _).trans (below_grown hgr7 (by simp; have := hb4.size; omega) (fun j hj => (hlts.out j hj).1))
          go_roundg (q.smalls.length - (k + 1))
          case measure => omega
          case rel =>
            refine ⟨k + 1, some ⟨g7, 0, none⟩, cap7, by omega, by omega, by go_num, ?_, hb7, ?_⟩
            · rw [HA.out]; simp
            · show World.ownsRow _ _ _ _ _ _ _
              rw [HA.out]; simpa [ints] using hown7
        · have hlt2 : decide ((k : Int) < (q.smalls.length : Int)) = false := by simp; omega
          obtain rfl : k = q.smalls.length := by omega
          rw [List.take_length] at own2 ⊢
          have hqb2 : Box wr w.heap.size 26 (lag q (.slice AT q.tasks.length cT) (.slice AS q.smalls.length cS) (.slice AR q.timers.length cR)) := hqb.below BW2.out hqb.lt
          obtain ⟨wo2, rfl⟩ : ∃ wo : World, wo = wr := ⟨_, rfl⟩
          go_wp2_with (fail)
          rw [rounds_succ]
          have c4 := hqb2.cell 4
          simp at c4
          go_wp2_with (fail)
          go_loopg [3, 9, 34] q.timers.length (fun gg o _ c wr => ∃ (k : Nat) (A : Option Addr) (cap : Nat), k ≤ q.timers.length ∧ q.timers.length - k ≤ gg ∧ c = .int .i64 (k : Int) ∧ o = .slice A (([] ++ q.tasks.map Loopy.Job.id ++ q.smalls.map Loopy.Job.id) ++ (q.timers.take k).map Loopy.Timer.id).length cap ∧ Hid (Below W.heap.size W wr) ∧ Hid (wr.ownsRow W.heap.size 3 1 (.slice A (([] ++ q.tasks.map Loopy.Job.id ++ q.smalls.map Loopy.Job.id) ++ (q.timers.take k).map Loopy.Timer.id).length cap) (([] ++ q.tasks.map Loopy.Job.id ++ q.smalls.map Loopy.Job.id) ++ (q.timers.take k).map Loopy.Timer.id).length (ints (([] ++ q.tasks.map Loopy.Job.id ++ q.smalls.map Loopy.Job.id) ++ (q.timers.take k).map Loopy.Timer.id))))
          case atStart => exact ⟨0, A2, cap2, Nat.zero_le _, by omega, rfl, by simp, BW2.out, by simpa [Hid] using own2.out⟩
          case round =>
            obtain ⟨k, A3, cap3, hk, hg, rfl, rfl, BW3, own3⟩ := hrel
            by_cases hlt : k < q.timers.length
            · have hlt2 : decide ((k : Int) < (q.timers.length : Int)) = true := by simp; omega
              obtain ⟨x, hx⟩ : ∃ x, q.timers[k]? = some x := ⟨_, List.getElem?_eq_getElem hlt⟩
              obtain ⟨g0, o, rfl, hg0, hrg⟩ := HR.out (by omega)
              have hgW : g0 < W.heap.size := by have := hb0.size; omega
              have hrange : Hid (wr.rangeAt g0 (o + k * 5) (tc x).toList) := fun i u hu => by
                rw [BW3.out.cell (p := ⟨g0, o + k * 5 + i, none⟩) hgW, hb0.cell (p := ⟨g0, o + k * 5 + i, none⟩) hg0]
                exact RdL.elem (f := tc) (fun _ => rfl) hrg hx i u hu
              obtain ⟨acc, hacc⟩ : ∃ acc, ([] ++ q.tasks.map Loopy.Job.id ++ q.smalls.map Loopy.Job.id) ++ (q.timers.take k).map Loopy.Timer.id = acc := ⟨_, rfl⟩
              have hacc2 : ([] ++ q.tasks.map Loopy.Job.id ++ q.smalls.map Loopy.Job.id) ++ (q.timers.take (k + 1)).map Loopy.Timer.id = acc ++ [x.id] := by rw [← hacc, List.take_add_one, hx]; simp
              have hal : acc.length ≤ 10000 := by rw [← hacc]; simp <;> omega
              rw [hacc] at own3 ⊢
              have HA := Lib.hid hacc2
              have hown := own3.out
              have hlts := Lib.hid hown.lt
              have HO := Lib.hid hown
              have hzW := BW3.out.size
              have hln : (ints acc).length = acc.length := by simp [ints]
              have HLN := Lib.hid hln
              clear hx hrg hacc hacc2 hown own3 hln
              go_wp2_with (first | (refine wpList_load_mid rfl 49 (.tmp 36) rfl g0 (o + k * 5) rfl (tc x).toList _ hrange.out Try.underlying49 rfl info_timer ?_) | (refine wpList_store_box rfl 49 (.tmp 9) (.tmp 37) rfl wr.heap.size (tc x) rfl rfl 49 _ (Box.new wr _ _) info_timer rfl (tc_one x) ?_; intro w4 hx4 hu4 hz4; have q0 := hx4.cell 0; simp at q0; have hz5 := hx4.lt; have hown4 := Lib.hid (own_grown (HO.out.alloc _) hu4 (by rcases hv : (Value.slice A3 acc.length cap3).ownBlock with _ | b; exact .inl rfl; exact .inr (fun h => by have := (hlts.out b hv).2; injection h with h; omega))); clear hz4) | (at_builtin; (refine wpList_append_lies _ rfl (.tmp 38) (.tmp 41) 66 rfl W.heap.size 3 i0 _ 1 8 Try.underlying66 hi0 hz0 hz1 hz2 rfl (by decide) _ acc.length (ints acc) rfl (hown4.out.alloc _) ⟨w4.heap.size, 0, none⟩ 1 1 [.int .i64 x.id] rfl rfl (World.news_of_block (Box.new w4 _ _)) (by simp [Value.oneCell']) (by omega) (by unfold maxLen; omega) (by omega) (by simp; omega) (w4.heap.size + 1) (by simp) ?_); intro g7 cap7 w7 hown7 hgr7 hor7 hlt7))
              have hb4 : Below W.heap.size W w4 := (BW3.out.alloc hzW _).trans (hu4.own hzW (by simp; omega))
              have hb7 : Below W.heap.size W w7 := (hb4.alloc hb4.size _).trans (below_grown hgr7 (by simp; have := hb4.size; omega) (fun j hj => (hlts.out j hj).1))
              go_roundg (q.timers.length - (k + 1))
              case measure => omega
              case rel =>
                refine ⟨k + 1, some ⟨g7, 0, none⟩, cap7, by omega, by omega, by go_num, ?_, hb7, ?_⟩
                · rw [HA.out]; simp
                · show World.ownsRow _ _ _ _ _ _ _
                  rw [HA.out]; simpa [ints] using hown7
            · have hlt2 : decide ((k : Int) < (q.timers.length : Int)) = false := by simp; omega
              obtain rfl : k = q.timers.length := by omega
              rw [List.take_length] at own3 ⊢
              have hqb3 : Box wr w.heap.size 26 (lag q (.slice AT q.tasks.length cT) (.slice AS q.smalls.length cS) (.slice AR q.timers.length cR)) := hqb.below BW3.out hqb.lt
              obtain ⟨wo3, rfl⟩ : ∃ wo : World, wo = wr := ⟨_, rfl⟩
              go_wp2
              go_ret
              refine ⟨_, rfl, ?_, hb0.trans (BW3.out.mono hb0.size)⟩
              have e : ([] ++ q.tasks.map Loopy.Job.id ++ q.smalls.map Loopy.Job.id ++ q.timers.map Loopy.Timer.id) = Loopy.ids q := by simp [Loopy.ids]
              have := own3.out
              rw [e] at this
              rw [e]
              exact own_base this hb0.size
end Go.Proofs.Ytpjbblbehbepbaa
