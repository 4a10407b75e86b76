/-
  Check of a loop. Conditions: its rows read as lists.
-/
import Derived.Test.YtpjbblbehbepbaaLpK
import Derived.Shelf.Abstract
namespace Go.Proofs.Ytpjbblbehbepbaa
set_option linter.unusedSimpArgs false
set_option linter.unusedVariables false
open Go.RowKit Go.Maps

theorem ret_intq {a b : Int} (h : a = b) : Ending.returned (.int .i64 a) = .returned (.int .i64 b) := by rw [h]
set_option maxHeartbeats 1000000 in
theorem check_large (q : Loopy.Loop) (T S R : Value) (w : World) (hq : LRd w q T S R) (h : Loopy.large q = true) :
    Calls Try.prog 15 #[.agg (lag q T S R)] w fun e w' => e = .returned (.int .i64 2) ∧ Below w.heap.size w w' := by
  obtain ⟨⟨AT, cT, rfl, hT1, hT2, hT3⟩, ⟨AS, cS, rfl, hS1, hS2, hS3⟩, ⟨AR, cR, rfl, hR1, hR2, hR3⟩⟩ := hq
  have hm : (100 : Int) < max (max (q.tasks.length : Int) (q.smalls.length : Int)) (q.timers.length : Int) := by
    simp only [Loopy.large, Bool.or_eq_true, decide_eq_true_iff] at h
    omega
  obtain ⟨M, hM⟩ : ∃ M, max (max (q.tasks.length : Int) (q.smalls.length : Int)) (q.timers.length : Int) = M := ⟨_, rfl⟩
  rw [hM] at hm
  have HM := Lib.hid hM
  clear hM
  clear hT3 hS3 hR3 h
  go_enter Try.func15, Try.ntmps15
  go_wp2_with (refine wpList_max3 rfl (.tmp 10) (.tmp 13) (.tmp 16) _ rfl _ _ _ M rfl rfl rfl HM.out ?_)
  go_ret
  exact ⟨rfl, below1 _ _⟩
theorem large_no {q : Loopy.Loop} (h : Loopy.large q = false) : ¬ (100 : Int) < max (max (q.tasks.length : Int) (q.smalls.length : Int)) (q.timers.length : Int) := by
  simp only [Loopy.large, Bool.or_eq_false_iff, decide_eq_false_iff_not] at h
  omega
set_option maxHeartbeats 1000000 in
theorem check_now (q : Loopy.Loop) (T S R : Value) (w : World) (hq : LRd w q T S R) (h : Loopy.large q = false) (h1 : Valu.within q.now 0 1000000000 = false) :
    Calls Try.prog 15 #[.agg (lag q T S R)] w fun e w' => e = .returned (.int .i64 3) ∧ Below w.heap.size w w' := by
  obtain ⟨⟨AT, cT, rfl, hT1, hT2, hT3⟩, ⟨AS, cS, rfl, hS1, hS2, hS3⟩, ⟨AR, cR, rfl, hR1, hR2, hR3⟩⟩ := hq
  have hm := large_no h
  obtain ⟨M, hM⟩ : ∃ M, max (max (q.tasks.length : Int) (q.smalls.length : Int)) (q.timers.length : Int) = M := ⟨_, rfl⟩
  rw [hM] at hm
  have HM := Lib.hid hM
  clear hM
  have H1 := Lib.hid (fun w => within_is _ _ _ _ h1 w)
  clear hT3 hS3 hR3 h h1
  go_enter Try.func15, Try.ntmps15
  go_wp2_with (refine wpList_max3 rfl (.tmp 10) (.tmp 13) (.tmp 16) _ rfl _ _ _ M rfl rfl rfl HM.out ?_)
  refine (H1.out _).mono ?_
  rintro e w1 ⟨rfl, rfl⟩
  go_wp2
  go_ret
  exact ⟨rfl, below1 _ _⟩
set_option maxHeartbeats 1000000 in
theorem check_next (q : Loopy.Loop) (T S R : Value) (w : World) (hq : LRd w q T S R) (h : Loopy.large q = false) (h1 : Valu.within q.now 0 1000000000 = true) (h2 : Valu.within q.next 0 1000000000 = false) :
    Calls Try.prog 15 #[.agg (lag q T S R)] w fun e w' => e = .returned (.int .i64 3) ∧ Below w.heap.size w w' := by
  obtain ⟨⟨AT, cT, rfl, hT1, hT2, hT3⟩, ⟨AS, cS, rfl, hS1, hS2, hS3⟩, ⟨AR, cR, rfl, hR1, hR2, hR3⟩⟩ := hq
  have hm := large_no h
  obtain ⟨M, hM⟩ : ∃ M, max (max (q.tasks.length : Int) (q.smalls.length : Int)) (q.timers.length : Int) = M := ⟨_, rfl⟩
  rw [hM] at hm
  have HM := Lib.hid hM
  clear hM
  have H1 := Lib.hid (fun w => within_is _ _ _ _ h1 w)
  have H2 := Lib.hid (fun w => within_is _ _ _ _ h2 w)
  clear hT3 hS3 hR3 h h1 h2
  go_enter Try.func15, Try.ntmps15
  go_wp2_with (refine wpList_max3 rfl (.tmp 10) (.tmp 13) (.tmp 16) _ rfl _ _ _ M rfl rfl rfl HM.out ?_)
  refine (H1.out _).mono ?_
  rintro e w1 ⟨rfl, rfl⟩
  go_wp2_with (fail)
  refine (H2.out _).mono ?_
  rintro e w1 ⟨rfl, rfl⟩
  go_wp2
  go_ret
  exact ⟨rfl, below1 _ _⟩
theorem eg1 : ∀ args w, (callFunc 31 args).run Try.prog w = .ok (.enter 31 args) w := Go.Proofs.enters_of Try.func31 (by kernel_rfl) rfl
theorem eg2 : ∀ args w, (callFunc 32 args).run Try.prog w = .ok (.enter 32 args) w := Go.Proofs.enters_of Try.func32 (by kernel_rfl) rfl
theorem tasks_any (q : Loopy.Loop) (v : Value) (b : Bool) (hb : (q.tasks.any fun j => !Loopy.taskOk j) = b) (w : World) (hR : JRd w q.tasks v) (hl : q.tasks.length ≤ 1000000) :
    Calls Try.prog 30 #[v, .func (.func 31) #[] #[]] w fun e w' => e = .returned (.bool b) ∧ Below w.heap.size w w' := by
  rw [← hb]
  exact contains_job q.tasks (fun j => !Loopy.taskOk j) _ #[] v w eg1 (fun x _ w1 _ => by rw [show (#[Value.agg (jc x)] ++ #[] : Array Value) = #[jag x] from by simp]; exact task_any x w1) hR hl
theorem smalls_any (q : Loopy.Loop) (v : Value) (b : Bool) (hb : (q.smalls.any fun j => !Loopy.smallOk j) = b) (w : World) (hR : JRd w q.smalls v) (hl : q.smalls.length ≤ 1000000) :
    Calls Try.prog 30 #[v, .func (.func 32) #[] #[]] w fun e w' => e = .returned (.bool b) ∧ Below w.heap.size w w' := by
  rw [← hb]
  exact contains_job q.smalls (fun j => !Loopy.smallOk j) _ #[] v w eg2 (fun x _ w1 _ => by rw [show (#[Value.agg (jc x)] ++ #[] : Array Value) = #[jag x] from by simp]; exact small_any x w1) hR hl
theorem any_all {α : Type} (p : α → Bool) (l : List α) : l.all p = !(l.any fun x => !p x) := by
  induction l with
  | nil => rfl
  | cons x l ih => simp only [List.all_cons, List.any_cons, ih]; cases p x <;> simp
/-- an element, a box, and a loop's clock and timers; nothing below has turned. -/
def ElQ (W : World) (g o n b : Nat) (x t : Loopy.Timer) (now : Int) (R : Value) (w' : World) : Prop :=
  Below W.heap.size W w' ∧ (w'.cell? ⟨g, o, none⟩ = some (.int .i64 x.id) ∧ w'.cell? ⟨g, o + 1, none⟩ = some (.int .i64 x.due) ∧ w'.cell? ⟨g, o + 2, none⟩ = some (.int .i64 x.every) ∧ w'.cell? ⟨g, o + 3, none⟩ = some (.int .i64 x.turn) ∧ w'.cell? ⟨g, o + 4, none⟩ = some (.string (byt x.call))) ∧
    (w'.cell? ⟨n, 0, none⟩ = some (.int .i64 t.id) ∧ w'.cell? ⟨n, 1, none⟩ = some (.int .i64 t.due) ∧ w'.cell? ⟨n, 2, none⟩ = some (.int .i64 t.every) ∧ w'.cell? ⟨n, 3, none⟩ = some (.int .i64 t.turn) ∧ w'.cell? ⟨n, 4, none⟩ = some (.string (byt t.call))) ∧
    (w'.cell? ⟨b, 0, none⟩ = some (.int .i64 now) ∧ w'.cell? ⟨b, 4, none⟩ = some R)
theorem elQ {W w1 : World} {g o n b : Nat} {x t : Loopy.Timer} {q : Loopy.Loop} {A B R : Value} (hg : g < W.heap.size) (hx : W.rangeAt g o (tc x).toList) (ht : Box W n 49 (tc t)) (hq : Box W b 26 (lag q A B R)) (hb : Below W.heap.size W w1) : ElQ W g o n b x t q.now R w1 := by
  have c := fun j u (hu : (tc x).toList[j]? = some u) => (hb.cell (p := ⟨g, o + j, none⟩) hg).trans (hx j u hu)
  have d := Box.below ht hb ht.lt
  have e := Box.below hq hb hq.lt
  exact ⟨hb, ⟨c 0 _ rfl, c 1 _ rfl, c 2 _ rfl, c 3 _ rfl, c 4 _ rfl⟩, ⟨by simpa using d.cell 0, by simpa using d.cell 1, by simpa using d.cell 2, by simpa using d.cell 3, by simpa using d.cell 4⟩, by simpa using e.cell 0, by simpa using e.cell 4⟩
theorem intKey : Keyed Try.prog 3 := int_keyed Try.underlying3
theorem zero_int (w : World) : (zeroValue 3).run Try.prog w = .ok (.int .i64 0) w := by kernel_rfl
theorem wf64 {n : Int} (h0 : 0 ≤ n) (h1 : n ≤ 1000000000) : (Lit.int .i64 n).wf = true := WalkArith.wf_i64 (by omega)

set_option maxRecDepth 100000 in
set_option maxHeartbeats 8000000 in
theorem check_rest (q : Loopy.Loop) (T S R : Value) (w : World) (hq : LRd w q T S R) (h : Loopy.large q = false) (h1 : Valu.within q.now 0 1000000000 = true) (h2 : Valu.within q.next 0 1000000000 = true) :
    Calls Try.prog 15 #[.agg (lag q T S R)] w fun e w' => e = .returned (.int .i64 (Loopy.check q : Int)) ∧ Below w.heap.size w w' := by
  have HL := Lib.hid h
  have HQ := Lib.hid hq
  have h2' := Valu.within_iff.1 h2
  have l1 : q.tasks.length ≤ 100 ∧ q.smalls.length ≤ 100 ∧ q.timers.length ≤ 100 := by
    simp only [Loopy.large, Bool.or_eq_false_iff, decide_eq_false_iff_not] at h
    omega
  have hck : Loopy.check q = if (Loopy.fresh q.next [] (Loopy.ids q) && q.tasks.all Loopy.taskOk && q.smalls.all Loopy.smallOk && Loopy.rising q.now none q.timers) = true then 0 else 3 := by
    unfold Loopy.check
    rw [if_neg (by rw [h]; decide)]
    have : Loopy.right q = (Loopy.fresh q.next [] (Loopy.ids q) && q.tasks.all Loopy.taskOk && q.smalls.all Loopy.smallOk && Loopy.rising q.now none q.timers) := by
      unfold Loopy.right
      rw [show Valu.within q.now 0 Loopy.most = true from h1, show Valu.within q.next 0 Loopy.most = true from h2]
      simp
    rw [this]
  have HCK := Lib.hid hck
  clear hck
  obtain ⟨⟨AT, cT, rfl, hT1, hT2, hT3⟩, ⟨AS, cS, rfl, hS1, hS2, hS3⟩, ⟨AR, cR, rfl, hR1, hR2, hR3⟩⟩ := hq
  have hm := large_no h
  obtain ⟨M, hM⟩ : ∃ M, max (max (q.tasks.length : Int) (q.smalls.length : Int)) (q.timers.length : Int) = M := ⟨_, rfl⟩
  rw [hM] at hm
  have HM := Lib.hid hM
  clear hM
  have H1 := Lib.hid (fun w => within_is _ _ _ _ h1 w)
  have H2 := Lib.hid (fun w => within_is _ _ _ _ h2 w)
  have HR := Lib.hid hR3
  have hmm := @run_makeMap Try.prog
  clear hT3 hS3 hR3 h h1 h2
  go_enter Try.func15, Try.ntmps15
  go_wp2_with (refine wpList_max3 rfl (.tmp 10) (.tmp 13) (.tmp 16) _ rfl _ _ _ M rfl rfl rfl HM.out ?_)
  refine (H1.out _).mono ?_
  rintro e w1 ⟨rfl, rfl⟩
  go_wp2_with (fail)
  refine (H2.out _).mono ?_
  rintro e w1 ⟨rfl, rfl⟩
  have hb0 := (below1 w (.cells (lag q (.slice AT q.tasks.length cT) (.slice AS q.smalls.length cS) (.slice AR q.timers.length cR)) 26)).alloc (by simp) (.map #[] 0)
  have hqb : Box ((w.alloc (.cells (lag q (.slice AT q.tasks.length cT) (.slice AS q.smalls.length cS) (.slice AR q.timers.length cR)) 26)).alloc (.map #[] 0)) w.heap.size 26 (lag q (.slice AT q.tasks.length cT) (.slice AS q.smalls.length cS) (.slice AR q.timers.length cR)) := (Box.new w _ _).alloc _
  have hmo := World.ownsMap_made (H := Unit) (w.alloc (.cells (lag q (.slice AT q.tasks.length cT) (.slice AS q.smalls.length cS) (.slice AR q.timers.length cR)) 26)) Try.prog 3 (plainElem Try.prog 3)
  go_wp2_with (refine wpList_load_row rfl 26 _ rfl w.heap.size rfl _ (lag q (.slice AT q.tasks.length cT) (.slice AS q.smalls.length cS) (.slice AR q.timers.length cR)) (0, 0) _ hqb Try.underlying26 rfl info_loop ?_)
  refine (numbers_any q _ _ _ _ (HQ.out.below hb0) (by omega) (by omega) (by omega)).mono ?_
  rintro e W ⟨v, rfl, hown, hbW⟩
  have hqW : Box W w.heap.size 26 (lag q (.slice AT q.tasks.length cT) (.slice AS q.smalls.length cS) (.slice AR q.timers.length cR)) := hqb.below hbW hqb.lt
  have hmW : W.ownsMap Try.prog 3 (plainElem (H := Unit) Try.prog 3) (w.heap.size + 1) 0 (Loopy.seen []) := by
    have := hmo.kept (w' := W) (row := none) ⟨hbW.os, hbW.tape, hbW.output, hbW.size, fun i hi _ => hbW.block i hi⟩ (by simp)
    simpa [Loopy.seen, setOf] using this
  have hb0W : Below w.heap.size w W := hb0.trans (hbW.mono hb0.size)
  have HQW := Lib.hid (HQ.out.below hb0W)
  have hzW : w.heap.size + 1 < W.heap.size := by have := hbW.size; simp at this; omega
  clear hb0 hqb hmo hbW
  obtain ⟨A, cap, rfl, hc1, hc2, hrow⟩ := Rd.own hown
  have hidl : (Loopy.ids q).length ≤ 1000 := by simp [Loopy.ids]; omega
  obtain ⟨ids, hids⟩ : ∃ ids, Loopy.ids q = ids := ⟨_, rfl⟩
  rw [hids] at hown hrow hidl hc1 HCK ⊢
  have HI := Lib.hid hids
  have HRW := Lib.hid hrow
  clear hids hown hrow
  go_wp2_with (fail)
  go_loopg [5, 33] ids.length (fun gg _ c wr => ∃ k : Nat, k ≤ ids.length ∧ ids.length - k ≤ gg ∧ c = .int .i64 (k : Int) ∧ Hid (Upd W wr (w.heap.size + 1)) ∧ Hid (wr.ownsMap Try.prog 3 (plainElem (H := Unit) Try.prog 3) (w.heap.size + 1) k (Loopy.seen (ids.take k))) ∧
    Hid (Loopy.fresh q.next [] ids = Loopy.fresh q.next (ids.take k).reverse (ids.drop k)))
  case atStart => exact ⟨0, Nat.zero_le _, by omega, rfl, Upd.refl _ _, hmW, rfl⟩
  case round =>
    obtain ⟨k, hk, hg, rfl, BW, OM, FR⟩ := hrel
    have hqr : Box wr w.heap.size 26 (lag q (.slice AT q.tasks.length cT) (.slice AS q.smalls.length cS) (.slice AR q.timers.length cR)) := hqW.grown BW.out (by simp)
    have hwr : Hid (Below w.heap.size w wr) := hb0W.trans (Upd.own (B := w.heap.size) BW.out (by omega) (by omega))
    have hzr : w.heap.size + 1 < wr.heap.size := by have := BW.out.size; omega
    by_cases hlt : k < ids.length
    · have hlt2 : decide ((k : Int) < (ids.length : Int)) = true := by simp; omega
      obtain ⟨n, hn⟩ : ∃ n, ids[k]? = some n := ⟨_, List.getElem?_eq_getElem hlt⟩
      obtain ⟨g0, o, rfl, hg0, hrg⟩ := HRW.out (by omega)
      have hst := Loopy.fresh_step q.next ids k n hn
      have hgne : g0 ≠ w.heap.size + 1 := by
        rintro rfl
        have h1 := hrg k (.int .i64 n) (by simp [ints, hn])
        obtain ⟨es, ck, hm, _⟩ := hmW
        simp [World.cell?, hm] at h1
      have hcell : wr.cell? ⟨g0, o + k, none⟩ = some (.int .i64 n) := by
        rw [World.cell?_of_block (BW.out.block g0 hg0 (by simpa using hgne))]
        exact hrg k _ (by simp [ints, hn])
      have htk : ids.take (k + 1) = ids.take k ++ [n] := by rw [List.take_add_one, hn]; rfl
      have hctn : (ids.take k).reverse.contains n = (ids.take k).reverse.contains n := rfl
      obtain ⟨b1, hb1⟩ : ∃ b1, Valu.within n 0 (q.next - 1) = b1 := ⟨_, rfl⟩
      obtain ⟨b2, hb2⟩ : ∃ b2, (ids.take k).reverse.contains n = b2 := ⟨_, rfl⟩
      have H3 := Lib.hid (fun w => within_is n 0 (q.next - 1) b1 hb1 w)
      rw [hb1, hb2] at hst
      have c1 := hqr.cell 1
      simp at c1
      have HST := Lib.hid hst
      have HTK := Lib.hid htk
      cases b1
      · clear hn hst htk hctn hb1 hb2 hrg hgne
        go_wp2_with (fail)
        refine (H3.out _).mono ?_
        rintro e w1 ⟨rfl, rfl⟩
        go_wp2
        go_ret
        refine ⟨ret_intq ?_, hwr.out⟩
        rw [HCK.out, FR.out, HST.out]
        simp
      · have hnb := Valu.within_iff.1 hb1
        have hwf : (Lit.int .i64 n).wf = true := wf64 hnb.1 (by omega)
        have hkey := keyOf_int_mk (P := Try.prog) Try.underlying3 hwf
        obtain ⟨c, hrun, hat, _⟩ := OM.out.lookup_int (t := 37) intKey Try.underlying37 Try.underlying3 (zero_int _) hkey
        rw [show ids.take k = (ids.take k).reverse.reverse by simp] at hat
        have hc1 := Loopy.seen_num hat
        rw [hb2] at hc1
        have HKEY := Lib.hid hkey
        clear hn hst htk hctn hb1 hb2 hrg hgne hat hkey hwf
        cases b2
        · go_wp2_with (fail)
          refine (H3.out _).mono ?_
          rintro e w1 ⟨rfl, rfl⟩
          go_wp2_with (at_mapUpdate; refine wpList_mapUpdate_own _ rfl _ _ _ 37 rfl 3 3 intKey Try.underlying37 _ (w.heap.size + 1) k _ rfl OM.out (by unfold maxLen; omega) _ _ _ rfl rfl HKEY.out _ [] (plainElem_int Try.underlying3 (by decide)) ?_; intro w1 hown1 hgrow1)
          go_roundg (ids.length - (k + 1))
          case measure => omega
          case rel =>
            refine ⟨k + 1, by omega, by omega, by go_num, BW.out.trans hgrow1, ?_, ?_⟩
            · show World.ownsMap _ _ _ _ _ _ _
              rw [HTK.out, Loopy.seen_snoc]; exact hown1
            · show _ = _
              rw [FR.out, HST.out]; simp
        · go_wp2_with (fail)
          refine (H3.out _).mono ?_
          rintro e w1 ⟨rfl, rfl⟩
          go_wp2
          go_ret
          refine ⟨ret_intq ?_, hwr.out⟩
          rw [HCK.out, FR.out, HST.out]
          simp
    · have hlt2 : decide ((k : Int) < (ids.length : Int)) = false := by simp; omega
      have hfr : Loopy.fresh q.next [] ids = true := by rw [FR.out, List.drop_eq_nil_of_le (by omega)]; rfl
      have HFR := Lib.hid hfr
      clear hfr
      obtain ⟨wo, rfl⟩ : ∃ wo : World, wo = wr := ⟨_, rfl⟩
      have HQo := Lib.hid (HQ.out.below hwr.out)
      have d2 := hqr.cell 2
      have d3 := hqr.cell 3
      have d4 := hqr.cell 4
      simp at d2 d3 d4
      go_wp2_with (fail)
      obtain ⟨b1, hb1⟩ : ∃ b, (q.tasks.any fun j => !Loopy.taskOk j) = b := ⟨_, rfl⟩
      obtain ⟨b2, hb2⟩ : ∃ b, (q.smalls.any fun j => !Loopy.smallOk j) = b := ⟨_, rfl⟩
      have HB1 := Lib.hid hb1
      have HB2 := Lib.hid hb2
      refine (tasks_any q _ b1 hb1 _ HQo.out.t (by omega)).mono ?_
      rintro e w2 ⟨rfl, hb2'⟩
      have hq2 : Box w2 w.heap.size 26 (lag q (.slice AT q.tasks.length cT) (.slice AS q.smalls.length cS) (.slice AR q.timers.length cR)) := hqr.below hb2' hqr.lt
      have HQ2 := Lib.hid (HQo.out.below hb2')
      have hw2 : Hid (Below w.heap.size w w2) := hwr.out.trans (hb2'.mono hwr.out.size)
      have hz2 : w.heap.size + 1 < w2.heap.size := by have := hb2'.size; omega
      clear hb1 d2 d3 d4 hb2'
      cases b1
      case true =>
        clear hb2
        go_wp2
        go_ret
        refine ⟨ret_intq ?_, hw2.out⟩
        rw [HCK.out, any_all, HB1.out]
        simp
      case false =>
        have d2 := hq2.cell 2
        have d3 := hq2.cell 3
        have d4 := hq2.cell 4
        simp at d2 d3 d4
        go_wp2_with (fail)
        refine (smalls_any q _ b2 hb2 _ HQ2.out.s (by omega)).mono ?_
        rintro e w3 ⟨rfl, hb3'⟩
        have hq3 : Box w3 w.heap.size 26 (lag q (.slice AT q.tasks.length cT) (.slice AS q.smalls.length cS) (.slice AR q.timers.length cR)) := hq2.below hb3' hq2.lt
        have HQ3 := Lib.hid (HQ2.out.below hb3')
        have hw3 : Hid (Below w.heap.size w w3) := hw2.out.trans (hb3'.mono hw2.out.size)
        have hz3 : w.heap.size + 1 < w3.heap.size := by have := hb3'.size; omega
        clear hb2 d2 d3 d4 hb3'
        cases b2
        case true =>
          go_wp2
          go_ret
          refine ⟨ret_intq ?_, hw3.out⟩
          rw [HCK.out, any_all (p := Loopy.smallOk), HB2.out]
          simp
        case false =>
          have d2 := hq3.cell 2
          have d3 := hq3.cell 3
          have d4 := hq3.cell 4
          simp at d2 d3 d4
          go_wp2_with (fail)
          go_loopg [6, 7, 61] q.timers.length (fun gg _ _ c wr => ∃ k : Nat, k ≤ q.timers.length ∧ q.timers.length - k ≤ gg ∧ c = .int .i64 (k : Int) ∧ Hid (Below w3.heap.size w3 wr) ∧ Hid (Loopy.rising q.now none q.timers = Loopy.rising q.now (Loopy.ahead q.timers k) (q.timers.drop k)))
          case atStart => exact ⟨0, Nat.zero_le _, by omega, rfl, Below.refl _ _, rfl⟩
          case round =>
            obtain ⟨k, hk, hg, rfl, BR, RI⟩ := hrel
            have hqr4 : Box wr w.heap.size 26 (lag q (.slice AT q.tasks.length cT) (.slice AS q.smalls.length cS) (.slice AR q.timers.length cR)) := hq3.below BR.out hq3.lt
            have hwr4 : Hid (Below w.heap.size w wr) := hw3.out.trans (BR.out.mono hw3.out.size)
            have hqne : w.heap.size ≠ wr.heap.size := by have := hqr4.lt; omega
            by_cases hlt : k < q.timers.length
            · have hlt2 : decide ((k : Int) < (q.timers.length : Int)) = true := by simp; omega
              obtain ⟨x, hx⟩ : ∃ x, q.timers[k]? = some x := ⟨_, List.getElem?_eq_getElem hlt⟩
              obtain ⟨_, _, hx1, hx2, hx3, hx4⟩ := HQ3.out.r
              injection hx1 with hx1 _ hx5
              subst hx1
              subst hx5
              obtain ⟨g0, o, rfl, hg0, hrg⟩ := hx4 (by omega)
              have hrange : Hid (wr.rangeAt g0 (o + k * 5) (tc x).toList) := fun i u hu => by
                rw [BR.out.cell (p := ⟨g0, o + k * 5 + i, none⟩) hg0]
                exact RdL.elem (f := tc) (fun _ => rfl) hrg hx i u hu
              have HRG := Lib.hid hrg
              obtain ⟨d1, hd1⟩ : ∃ d, Valu.within x.due q.now 1000000000 = d := ⟨_, rfl⟩
              obtain ⟨d2, hd2⟩ : ∃ d, Valu.within x.every 0 1000000000 = d := ⟨_, rfl⟩
              obtain ⟨d3, hd3⟩ : ∃ d, Valu.within x.turn 0 1000000000 = d := ⟨_, rfl⟩
              have htok : Hid (Loopy.timerOk q.now x = (d1 && d2 && d3)) := by rw [← hd1, ← hd2, ← hd3]; rfl
              have K1 := Lib.hid (fun w => within_q _ _ _ _ hd1 w)
              have K2 := Lib.hid (fun w => within_q _ _ _ _ hd2 w)
              have K3 := Lib.hid (fun w => within_q _ _ _ _ hd3 w)
              have HX := Lib.hid hx
              have hnot : Hid ((d1 && d2 && d3) = false → Loopy.rising q.now none q.timers = false) := by
                intro hf
                rw [RI.out]
                cases k with
                | zero => rw [Loopy.rising_zero _ _ x HX.out, htok.out, hf]; rfl
                | succ j => rw [Loopy.rising_step _ _ j (q.timers[j]'(by omega)) x (List.getElem?_eq_getElem (by omega)) HX.out, htok.out, hf]; rfl
              clear hx hrg hd1 hd2 hd3
              cases d1
              case false =>
                go_wp2_with (first | (refine wpList_load_mid rfl 49 (.tmp 64) rfl g0 (o + k * 5) rfl (tc x).toList _ hrange.out Try.underlying49 rfl info_timer ?_) | (refine wpList_store_box rfl 49 (.tmp 7) (.tmp 65) rfl wr.heap.size (tc x) rfl rfl 49 _ (Box.new wr _ _) info_timer rfl (tc_one x) ?_; intro w4 hx4 hu4 hz4; have q0 := hx4.cell 0; have q1 := hx4.cell 1; have q2 := hx4.cell 2; have q3 := hx4.cell 3; have q4 := hx4.cell 4; simp at q0 q1 q2 q3 q4; have hq4 := (hqr4.alloc (.cells #[.int .i64 0, .int .i64 0, .int .i64 0, .int .i64 0, .string ⟨#[]⟩] 49)).grown hu4 (by simpa using hqne); have e0 := hq4.cell 0; have e4 := hq4.cell 4; simp at e0 e4; have hz5 := hx4.lt; clear hz4))
                go_quiet ((go_at_call 24; first | (with_reducible exact Calls.quiet_of_same (K1.out _)) | (with_reducible exact Calls.quiet_of_same (K2.out _)) | (with_reducible exact Calls.quiet_of_same (K3.out _)) | (with_reducible exact quiet_more_same (K1.out _)) | (with_reducible exact quiet_more_same (K2.out _)) | (with_reducible exact quiet_more_same (K3.out _))))
                go_wp2
                go_ret
                have hb4 : Below w.heap.size w w4 := (hwr4.out.alloc hwr4.out.size _).trans (hu4.own hwr4.out.size (by simp; have := hwr4.out.size; omega))
                refine ⟨ret_intq ?_, below_drewN hb4 _⟩
                rw [HCK.out, hnot.out rfl]
                simp
              case true =>
                cases d2
                case false =>
                  go_wp2_with (first | (refine wpList_load_mid rfl 49 (.tmp 64) rfl g0 (o + k * 5) rfl (tc x).toList _ hrange.out Try.underlying49 rfl info_timer ?_) | (refine wpList_store_box rfl 49 (.tmp 7) (.tmp 65) rfl wr.heap.size (tc x) rfl rfl 49 _ (Box.new wr _ _) info_timer rfl (tc_one x) ?_; intro w4 hx4 hu4 hz4; have q0 := hx4.cell 0; have q1 := hx4.cell 1; have q2 := hx4.cell 2; have q3 := hx4.cell 3; have q4 := hx4.cell 4; simp at q0 q1 q2 q3 q4; have hq4 := (hqr4.alloc (.cells #[.int .i64 0, .int .i64 0, .int .i64 0, .int .i64 0, .string ⟨#[]⟩] 49)).grown hu4 (by simpa using hqne); have e0 := hq4.cell 0; have e4 := hq4.cell 4; simp at e0 e4; have hz5 := hx4.lt; clear hz4))
                  go_quiet ((go_at_call 24; first | (with_reducible exact Calls.quiet_of_same (K1.out _)) | (with_reducible exact Calls.quiet_of_same (K2.out _)) | (with_reducible exact Calls.quiet_of_same (K3.out _)) | (with_reducible exact quiet_more_same (K1.out _)) | (with_reducible exact quiet_more_same (K2.out _)) | (with_reducible exact quiet_more_same (K3.out _))))
                  go_wp2
                  go_ret
                  have hb4 : Below w.heap.size w w4 := (hwr4.out.alloc hwr4.out.size _).trans (hu4.own hwr4.out.size (by simp; have := hwr4.out.size; omega))
                  refine ⟨ret_intq ?_, below_drewN hb4 _⟩
                  rw [HCK.out, hnot.out rfl]
                  simp
                case true =>
                  cases d3
                  case false =>
                    go_wp2_with (first | (refine wpList_load_mid rfl 49 (.tmp 64) rfl g0 (o + k * 5) rfl (tc x).toList _ hrange.out Try.underlying49 rfl info_timer ?_) | (refine wpList_store_box rfl 49 (.tmp 7) (.tmp 65) rfl wr.heap.size (tc x) rfl rfl 49 _ (Box.new wr _ _) info_timer rfl (tc_one x) ?_; intro w4 hx4 hu4 hz4; have q0 := hx4.cell 0; have q1 := hx4.cell 1; have q2 := hx4.cell 2; have q3 := hx4.cell 3; have q4 := hx4.cell 4; simp at q0 q1 q2 q3 q4; have hq4 := (hqr4.alloc (.cells #[.int .i64 0, .int .i64 0, .int .i64 0, .int .i64 0, .string ⟨#[]⟩] 49)).grown hu4 (by simpa using hqne); have e0 := hq4.cell 0; have e4 := hq4.cell 4; simp at e0 e4; have hz5 := hx4.lt; clear hz4))
                    go_quiet ((go_at_call 24; first | (with_reducible exact Calls.quiet_of_same (K1.out _)) | (with_reducible exact Calls.quiet_of_same (K2.out _)) | (with_reducible exact Calls.quiet_of_same (K3.out _)) | (with_reducible exact quiet_more_same (K1.out _)) | (with_reducible exact quiet_more_same (K2.out _)) | (with_reducible exact quiet_more_same (K3.out _))))
                    go_wp2
                    go_ret
                    have hb4 : Below w.heap.size w w4 := (hwr4.out.alloc hwr4.out.size _).trans (hu4.own hwr4.out.size (by simp; have := hwr4.out.size; omega))
                    refine ⟨ret_intq ?_, below_drewN hb4 _⟩
                    rw [HCK.out, hnot.out rfl]
                    simp
                  case true =>
                    cases k with
                    | zero =>
                      have hk0 : decide (0 < (0 : Nat)) = false := rfl
                      go_wp2_with (first | (refine wpList_load_mid rfl 49 (.tmp 64) rfl g0 (o + 0 * 5) rfl (tc x).toList _ hrange.out Try.underlying49 rfl info_timer ?_) | (refine wpList_store_box rfl 49 (.tmp 7) (.tmp 65) rfl wr.heap.size (tc x) rfl rfl 49 _ (Box.new wr _ _) info_timer rfl (tc_one x) ?_; intro w4 hx4 hu4 hz4; have q0 := hx4.cell 0; have q1 := hx4.cell 1; have q2 := hx4.cell 2; have q3 := hx4.cell 3; have q4 := hx4.cell 4; simp at q0 q1 q2 q3 q4; have hq4 := (hqr4.alloc (.cells #[.int .i64 0, .int .i64 0, .int .i64 0, .int .i64 0, .string ⟨#[]⟩] 49)).grown hu4 (by simpa using hqne); have e0 := hq4.cell 0; have e4 := hq4.cell 4; simp at e0 e4; have hz5 := hx4.lt; clear hz4))
                      go_quiet ((go_at_call 24; first | (with_reducible exact Calls.quiet_of_same (K1.out _)) | (with_reducible exact Calls.quiet_of_same (K2.out _)) | (with_reducible exact Calls.quiet_of_same (K3.out _)) | (with_reducible exact quiet_more_same (K1.out _)) | (with_reducible exact quiet_more_same (K2.out _)) | (with_reducible exact quiet_more_same (K3.out _))))
                      go_wp2
                      have hb4 : Below w3.heap.size w3 w4 := (BR.out.alloc BR.out.size _).trans (hu4.own BR.out.size (by simp; have := BR.out.size; omega))
                      go_roundg (q.timers.length - 1)
                      case measure => omega
                      case rel =>
                        refine ⟨1, by omega, by omega, rfl, below_drewN hb4 _, ?_⟩
                        show _ = _
                        rw [RI.out, Loopy.rising_zero _ _ x HX.out, htok.out]
                        simp
                    | succ j =>
                      obtain ⟨y, hy⟩ : ∃ y, q.timers[j]? = some y := ⟨_, List.getElem?_eq_getElem (by omega)⟩
                      have hrangey : Hid (wr.rangeAt g0 (o + j * 5) (tc y).toList) := fun i u hu => by
                        rw [BR.out.cell (p := ⟨g0, o + j * 5 + i, none⟩) hg0]
                        exact RdL.elem (f := tc) (fun _ => rfl) HRG.out hy i u hu
                      obtain ⟨d, hd⟩ : ∃ d, Loopy.before y x = d := ⟨_, rfl⟩
                      have HBx : Hid (∀ w, Calls Try.prog 33 #[tag y, tag x] w fun e w' => e = .returned (.int .i64 d) ∧ Below w.heap.size w w') := by
                        rw [← hd]; exact fun w => before_any y x w
                      have hri : Hid (Loopy.rising q.now none q.timers = (decide (d < 0) && Loopy.rising q.now (Loopy.ahead q.timers (j + 2)) (q.timers.drop (j + 2)))) := by
                        show _ = _
                        rw [RI.out, Loopy.rising_step _ _ j y x hy HX.out, htok.out, hd]; simp
                      have hk1 : decide (0 < j + 1) = true := by simp
                      have hk2 : (0 : Int) < (j : Int) + 1 := by omega
                      have hk3 : (j : Int) < (q.timers.length : Int) := by omega
                      have hg0r : g0 < wr.heap.size := by have := BR.out.size; omega
                      clear hy hd
                      have hlt3 : decide ((j : Int) + 1 < (q.timers.length : Int)) = true := by simp; omega
                      rw [show ((j + 1 : Nat) : Int) = (j : Int) + 1 from rfl]
                      go_wp2_with (first | (refine wpList_load_mid rfl 49 (.tmp 64) rfl g0 (o + (j + 1) * 5) rfl (tc x).toList _ hrange.out Try.underlying49 rfl info_timer ?_) | (refine wpList_store_box rfl 49 (.tmp 7) (.tmp 65) rfl wr.heap.size (tc x) rfl rfl 49 _ (Box.new wr _ _) info_timer rfl (tc_one x) ?_; intro w4 hx4 hu4 hz4; have q0 := hx4.cell 0; have q1 := hx4.cell 1; have q2 := hx4.cell 2; have q3 := hx4.cell 3; have q4 := hx4.cell 4; simp at q0 q1 q2 q3 q4; have hq4 := (hqr4.alloc (.cells #[.int .i64 0, .int .i64 0, .int .i64 0, .int .i64 0, .string ⟨#[]⟩] 49)).grown hu4 (by simpa using hqne); have e0 := hq4.cell 0; have e4 := hq4.cell 4; simp at e0 e4; have hz5 := hx4.lt; clear hz4))
                      have hg04 : g0 < w4.heap.size := by omega
                      have hry4 : Hid (w4.rangeAt g0 (o + j * 5) (tc y).toList) := fun i u hu => by
                        rw [World.cell?_of_block (w := wr.alloc (.cells #[.int .i64 0, .int .i64 0, .int .i64 0, .int .i64 0, .string ⟨#[]⟩] 49)) (hu4.block g0 (by simp; omega) (by simp; omega)), World.cell?_alloc_lt _ _ _ hg0r]
                        exact hrangey.out i u hu
                      have hb4 : Below w3.heap.size w3 w4 := (BR.out.alloc BR.out.size _).trans (hu4.own BR.out.size (by simp; have := BR.out.size; omega))
                      have hs1 : IntKind.i64.wrap ((j : Int) + 1 - 1) = (j : Int) := by rw [IntKind.wrap_i64]; omega
                      have hs2 : IntKind.i64.wrap (j : Int) = (j : Int) := by rw [IntKind.wrap_i64]; omega
                      have hs3 : (0 : Int) ≤ (j : Int) := by omega
                      clear q0 q1 q2 q3 q4 e0 e4
                      go_region_held3 (fun w' => Below w4.heap.size w4 w' ∧ (w'.cell? ⟨g0, o + j * 5, none⟩ = some (.int .i64 y.id) ∧ w'.cell? ⟨g0, o + j * 5 + 1, none⟩ = some (.int .i64 y.due) ∧ w'.cell? ⟨g0, o + j * 5 + 2, none⟩ = some (.int .i64 y.every) ∧ w'.cell? ⟨g0, o + j * 5 + 3, none⟩ = some (.int .i64 y.turn) ∧ w'.cell? ⟨g0, o + j * 5 + 4, none⟩ = some (.string (byt y.call))) ∧ (w'.cell? ⟨wr.heap.size, 0, none⟩ = some (.int .i64 x.id) ∧ w'.cell? ⟨wr.heap.size, 1, none⟩ = some (.int .i64 x.due) ∧ w'.cell? ⟨wr.heap.size, 2, none⟩ = some (.int .i64 x.every) ∧ w'.cell? ⟨wr.heap.size, 3, none⟩ = some (.int .i64 x.turn) ∧ w'.cell? ⟨wr.heap.size, 4, none⟩ = some (.string (byt x.call))) ∧ (w'.cell? ⟨w.heap.size, 0, none⟩ = some (.int .i64 q.now) ∧ w'.cell? ⟨w.heap.size, 4, none⟩ = some (.slice (some ⟨g0, o, none⟩) q.timers.length cR)))
                        (first | exact elQ hg04 hry4.out hx4 hq4 (Below.drew (Below.refl _ w4)) | (go_split_ands; exact elQ hg04 hry4.out hx4 hq4 ((Below.drew (Below.refl _ w4)).trans hb1)) | assumption)
                        (first | (go_at_call 24; first | ((with_reducible refine (K1.out _).mono ?_); rintro e w1 ⟨rfl, rfl⟩) | ((with_reducible refine (K2.out _).mono ?_); rintro e w1 ⟨rfl, rfl⟩) | ((with_reducible refine (K3.out _).mono ?_); rintro e w1 ⟨rfl, rfl⟩)) | (go_at_call 33; ((with_reducible refine (HBx.out _).mono ?_); rintro e w1 ⟨rfl, hb1⟩)))
                      rename_i hH
                      have hbz := hH.1
                      clear hH
                      by_cases hneg : d < 0
                      · have hneg2 : decide (0 ≤ d) = false := by simp; omega
                        go_wp2
                        go_roundg (q.timers.length - (j + 2))
                        case measure => omega
                        case rel =>
                          refine ⟨j + 2, by omega, by omega, by go_num, hb4.trans (hbz.mono hb4.size), ?_⟩
                          show _ = _
                          rw [hri.out]
                          simp [hneg]
                      · have hneg2 : decide (0 ≤ d) = true := by simp; omega
                        go_wp2
                        go_ret
                        refine ⟨ret_intq ?_, hw3.out.trans ((hb4.trans (hbz.mono hb4.size)).mono hw3.out.size)⟩
                        have hn : decide (d < 0) = false := by simp; omega
                        rw [HCK.out, hri.out, hn]
                        simp
            · have hlt2 : decide ((k : Int) < (q.timers.length : Int)) = false := by simp; omega
              go_wp2
              go_ret
              refine ⟨ret_intq ?_, hwr4.out⟩
              rw [HCK.out, HFR.out, any_all (p := Loopy.taskOk), HB1.out, any_all (p := Loopy.smallOk), HB2.out, RI.out, List.drop_eq_nil_of_le (by omega)]
              simp [Loopy.rising]
theorem check_any (q : Loopy.Loop) (T S R : Value) (w : World) (hq : LRd w q T S R) :
    Calls Try.prog 15 #[.agg (lag q T S R)] w fun e w' => e = .returned (.int .i64 (Loopy.check q : Int)) ∧ Below w.heap.size w w' := by
  cases h : Loopy.large q
  · cases h1 : Valu.within q.now 0 1000000000
    · have e : Loopy.check q = 3 := by
        unfold Loopy.check
        rw [if_neg (by rw [h]; decide), if_neg (by unfold Loopy.right; rw [show Valu.within q.now 0 Loopy.most = false from h1]; simp)]
      rw [e]; exact check_now q T S R w hq h h1
    · cases h2 : Valu.within q.next 0 1000000000
      · have e : Loopy.check q = 3 := by
          unfold Loopy.check
          rw [if_neg (by rw [h]; decide), if_neg (by unfold Loopy.right; rw [show Valu.within q.next 0 Loopy.most = false from h2]; simp)]
        rw [e]; exact check_next q T S R w hq h h1 h2
      · exact check_rest q T S R w hq h h1 h2
  · have e : Loopy.check q = 2 := by unfold Loopy.check; rw [if_pos h]
    rw [e]; exact check_large q T S R w hq h
end Go.Proofs.Ytpjbblbehbepbaa
