/-
  A run of ops; answers compared; stores live. Conditions: as each says.
-/
import Derived.Test.YtdolmjeiakdfhaaGreatDoorStY
import Derived.Test.YtdolmjeiakdfhaaGreatDoorUsB0
import Derived.Test.YtdolmjeiakdfhaaGreatDoorMid
import Derived.Carry
import Derived.Test.YtdolmjeiakdfhaaGreatDoorUsA0
namespace Go.Proofs.YtdolmjeiakdfhaaGreatDoor
set_option linter.unusedSimpArgs false
set_option linter.unusedVariables false
open Go.RowKit

theorem ori_no0 {s : List UInt8} {n : Nat} (h : Urly.originOf s = .error n) : n ≠ 0 := by
  unfold Urly.originOf at h
  cases hp : Urly.parse s with
  | error k => rw [hp] at h; injection h with h; subst h; exact parse_no0 hp
  | ok b => rw [hp] at h; cases h
theorem ans_info : (Tryz.prog.info? 35).map (fun i => (i.zero, i.size, i.bytes)) = some (some (.agg #[.int .i64 0, .string ⟨#[]⟩, .bool false, .slice none 0 0]), 4, 56) := by kernel_rfl
theorem info_op : (Tryz.prog.info? 32).map (·.size) = some 4 := by kernel_rfl
theorem op_one (o : Story.Op) : (ocells o).all (·.oneCell') = true := by simp [ocells, Value.oneCell']
theorem under_all : Tryz.prog.underlying 55 = some (.map 9 56) := Tryz.underlying55
theorem zero_ptr (w : World) : (zeroValue 56).run Tryz.prog w = .ok (ptrRdr.val none) w := by kernel_rfl
theorem arr_new (w : World) (cs : Array Value) (t : TypeId) (g : Nat) (hg : w.heap.size = g) : ∀ (j : Nat) (u : Value), cs.toList[j]? = some u → (w.alloc (.cells cs t)).cell? ((⟨g, 0, none⟩ : Addr).add j) = some u := by
  subst hg
  intro j u hj
  have e : Addr.add ⟨w.heap.size, 0, none⟩ j = ⟨w.heap.size, j, none⟩ := by
    unfold Addr.add
    by_cases h0 : j = 0
    · subst h0; simp
    · simp [h0]
  rw [e, (Box.new w t cs).cell j]
  simpa using hj
theorem ac_one (a : Story.Ans) (g : Option Addr) (n c : Nat) : ∀ u ∈ (acells a (.slice g n c)).toList, u.oneCell' = true := by
  intro u hu
  simp [acells] at hu
  rcases hu with rfl | rfl | rfl | rfl <;> rfl
theorem runs_err {S : Story.St} {o : Story.Op} {l : List Story.Op} {e : Nat} (h : Urly.originOf o.loc = .error e) : Story.runs S (o :: l) = ⟨e, [], false, []⟩ :: Story.runs S l := by
  have : Story.step S o = (⟨e, [], false, []⟩, S) := by unfold Story.step; rw [h]
  rw [Story.runs, this]
theorem runs_ok {S : Story.St} {o : Story.Op} {l : List Story.Op} {x : List UInt8} {d : Story.D} (h : Urly.originOf o.loc = .ok x) (hd : (S x).getD Story.d0 = d) : Story.runs S (o :: l) = (Story.doOp d o).1 :: Story.runs (Story.setS S x (Story.doOp d o).2) l := by
  have : Story.step S o = ((Story.doOp d o).1, Story.setS S x (Story.doOp d o).2) := by unfold Story.step; rw [h, ← hd]
  rw [Story.runs, this]
theorem setS_setS (S : Story.St) (x : List UInt8) (a b : Story.D) : Story.setS (Story.setS S x a) x b = Story.setS S x b := by
  funext y; unfold Story.setS; by_cases e : y = x <;> simp [e]
def RunAt (ops : List Story.Op) (k : Nat) (L : List Og) (A : List (Story.Ans × Value)) : Prop := Story.runs (fun _ => none) ops = A.map (·.1) ++ Story.runs (stOf L) (ops.drop k) ∧ A.length = k
theorem RunAt.more {ops : List Story.Op} {k : Nat} {L L' : List Og} {A : List (Story.Ans × Value)} {o : Story.Op} {a : Story.Ans} {kv : Value} (h : RunAt ops k L A) (ho : ops[k]? = some o) (hs : Story.runs (stOf L) (o :: ops.drop (k + 1)) = a :: Story.runs (stOf L') (ops.drop (k + 1))) : RunAt ops (k + 1) L' (A ++ [(a, kv)]) := by
  refine ⟨?_, by simp [h.2]⟩
  rw [h.1, drop_at ho, hs]
  simp
def RunOut (ops : List Story.Op) (w : World) (e : Ending) (w' : World) : Prop :=
  (100 < ops.length ∧ e = .returned (.tuple #[.slice none 0 0, .int .i64 2]) ∧ Below w.heap.size w w') ∨
  (¬ 100 < ops.length ∧ ∃ (A : List (Story.Ans × Value)) (v : Value), A.map (·.1) = Story.runs (fun _ => none) ops ∧ A.length = ops.length ∧ e = .returned (.tuple #[v, .int .i64 0]) ∧ w'.ownsRow w.heap.size 35 4 v A.length (flat ac A) ∧ (∀ a ∈ A, w'.ownsRow w.heap.size 9 1 a.2 a.1.keys.length (txts a.1.keys)) ∧ Below w.heap.size w w')
def OriginC (s : List UInt8) (w : World) : Prop := Calls Tryz.prog 9 #[.string (byt s)] w (WriteOut (Urly.originOf s) w)
set_option maxRecDepth 100000 in
set_option maxHeartbeats 16000000 in
theorem run_any (ops : List Story.Op) (v : Value) (w : World) (he : Env w) (hv : Rd w 4 (flat ocells ops) ops.length v) (hsz : ∀ o ∈ ops, o.key.length ≤ 140737488355328 ∧ o.value.length ≤ 140737488355328) :
    Calls Tryz.prog 8 #[v] w (RunOut ops w) := by
  obtain ⟨i0, hi0, hi1, hi2, hi3⟩ := info_parts ans_info
  obtain ⟨A0, cap0, rfl, hc1, hc2, hcells⟩ := hv
  have HCE := Lib.hid hcells
  have HSZ := Lib.hid hsz
  have h6 := he.z
  have HOR : Hid (∀ s w1, Below w.heap.size w w1 → OriginC s w1) := Lib.hid (fun s w1 h1 => uorigin_any s w1 (he.below h1))
  obtain ⟨N, hN⟩ : ∃ N, ops.length = N := ⟨_, rfl⟩
  have HN := Lib.hid hN
  rw [hN] at hc1 ⊢
  clear hcells hsz hN he
  by_cases hlarge : 100 < N
  · have d1 : decide ((N : Int) > 100) = true := decide_eq_true (by omega)
    have d2 : (100 : Int) < (N : Int) := by omega
    have HL : Hid (100 < ops.length) := Lib.hid (by rw [HN.out]; exact hlarge)
    clear hlarge
    go_enter Tryz.func8, Tryz.ntmps8
    go_wp2
    go_returns
    exact .inl ⟨HL.out, rfl, Below.refl _ _⟩
  have d1 : decide ((N : Int) > 100) = false := decide_eq_false (by omega)
  have d2 : ¬ (100 : Int) < (N : Int) := by omega
  have HL : Hid (¬ 100 < ops.length) := Lib.hid (by rw [HN.out]; exact hlarge)
  have hmm := @run_makeMap Tryz.prog
  go_enter Tryz.func8, Tryz.ntmps8
  go_upto_region 6 with (fail)
  obtain ⟨w0, hw0⟩ : ∃ w0, w.alloc (.map #[] 0) = w0 := ⟨_, rfl⟩
  rw [hw0]
  have HM0 : Hid (MapF ptrRdr w0 w.heap.size 0 (look [])) := Lib.hid (by rw [← hw0]; exact MapF.made ptrRdr w)
  have HB0 : Hid (Below w.heap.size w w0) := Lib.hid (by rw [← hw0]; exact below1 w _)
  clear hw0
  go_loopg [5, 7, 8, 9, 10, 17] (N - 0) (fun g ov _ _ _ _ v wr => ∃ (k : Nat) (L : List Og) (A : List (Story.Ans × Value)), k ≤ N ∧ g = N - k ∧ v = .int .i64 (k : Int) ∧ Sta wr w.heap.size w.heap.size (2 * k) L A ov ∧ RunAt ops k L A ∧ Below w.heap.size w wr)
  case atStart => exact ⟨0, [], [], by omega, rfl, rfl, ⟨HM0.out, Nat.le_refl _, by simp, List.Pairwise.nil, by simp, ⟨rfl, .inl ⟨rfl, rfl⟩⟩, by simp, by simp⟩, ⟨rfl, rfl⟩, HB0.out⟩
  case round =>
    obtain ⟨k, L, A, hk, hg, rfl, hst, hra, hbw⟩ := hrel
    have HG := Lib.hid hg
    have HST := Lib.hid hst
    have HRA := Lib.hid hra
    have HBW := Lib.hid hbw
    have hzr := hbw.size
    obtain ⟨Ao, capo, rfl⟩ := own_slice hst.out
    have HAL := Lib.hid hra.2
    have hAb : A.length ≤ 100 := by have := HAL.out; omega
    clear hg hst hra hbw
    by_cases hlt : k < N
    · obtain ⟨op, hop⟩ : ∃ op, ops[k]? = some op := ⟨_, List.getElem?_eq_getElem (by rw [HN.out]; exact hlt)⟩
      have hl1 : decide ((k : Int) < (N : Int)) = true := decide_eq_true (by omega)
      have hl2 : (k : Int) < (N : Int) := by omega
      obtain ⟨g0, o0, rfl, hg0, hrg⟩ := HCE.out (by rw [HN.out]; omega)
      have hrange : Hid (wr.rangeAt g0 (o0 + k * 4) (ocells op).toList) := fun i u hu => by
        rw [HBW.out.cell (p := ⟨g0, o0 + k * 4 + i, none⟩) hg0]
        exact RdL.elem (f := ocells) (fun _ => rfl) hrg hop i u hu
      have HOP := Lib.hid hop
      have HOS := Lib.hid (HSZ.out op (List.mem_of_getElem? hop))
      have hone := op_one op
      have hoi : (Tryz.prog.info? 32).map (·.size) = some (ocells op).size := info_op
      have hois : (4 : Nat) = (ocells op).size := rfl
      have k1 : (ocells op)[1]? = some (.string (byt op.loc)) := rfl
      obtain ⟨oc, hoc⟩ : ∃ oc, ocells op = oc := ⟨_, rfl⟩
      rw [hoc] at hrange hone hoi hois k1
      have HOC := Lib.hid hoc
      have HOI := Lib.hid hoi
      have HOZ := Lib.hid hois
      have HK1 := Lib.hid k1
      have hoil : (Tryz.prog.info? 32).map (·.size) = some oc.toList.length := by rw [Array.length_toList]; exact hoi
      clear hop hrg hoc hois k1
      go_upto_region 8 with (first | (refine wpList_load_mid rfl 32 (.tmp 19) rfl g0 (o0 + k * 4) rfl oc.toList _ hrange.out Tryz.underlying32 rfl hoil ?_) | (refine wpList_store_box rfl 32 (.tmp 7) (.tmp 20) rfl wr.heap.size oc rfl rfl 32 _ (Box.new wr _ _) hoi (by rw [← HOZ.out]; rfl) hone ?_; intro w7 hx7 hu7 hz7; have HZ7 := Lib.hid hz7; clear hz7))
      have hb7 : Below wr.heap.size wr w7 := ((Below.refl _ wr).alloc (Nat.le_refl _) _).trans (hu7.own (Nat.le_refl _) (by simp))
      have HX7 := Lib.hid hx7
      have HB7 : Hid (Below w.heap.size w w7) := Lib.hid (HBW.out.trans (hb7.mono hzr))
      have HS7 := Lib.hid (HST.out.below hb7)
      have c1 : w7.cell? ⟨wr.heap.size, 1, none⟩ = some (.string (byt op.loc)) := (hx7.cell 1).trans HK1.out
      have HOO := Lib.hid (HOR.out op.loc w7 HB7.out)
      obtain ⟨LO, hLO⟩ : ∃ S, byt op.loc = S := ⟨_, rfl⟩
      unfold OriginC at HOO
      rw [hLO] at c1 HOO
      clear hb7 hu7 hx7 hrange hLO hoil HZ7 HST
      go_wp2_with (fail)
      refine HOO.out.mono ?_
      rintro e w8 ⟨rfl, hw8⟩
      have HX8 := Lib.hid (HX7.out.below hw8 HX7.out.lt)
      have HB8 : Hid (Below w.heap.size w w8) := Lib.hid (HB7.out.trans (hw8.mono HB7.out.size))
      have HS8 := Lib.hid (HS7.out.below hw8)
      clear hw8 HX7 HB7 HS7 HOO c1
      cases hor : Urly.originOf op.loc with
      | error en =>
        have HORG := Lib.hid hor
        have hn0 := ori_no0 hor
        obtain ⟨m, hm⟩ : ∃ m : Int, (en : Int) = m := ⟨_, rfl⟩
        have hm0 : (m != 0) = true := by rw [bne, beq_no (by omega)]; rfl
        have HM := Lib.hid hm
        have hacs : (#[.int .i64 m, .string ⟨#[]⟩, .bool false, .slice none 0 0] : Array Value).toList.length = 1 * 4 := rfl
        have haco : ∀ u ∈ (#[.int .i64 m, .string ⟨#[]⟩, .bool false, .slice none 0 0] : Array Value).toList, u.oneCell' = true := by
          intro u hu
          simp at hu
          rcases hu with rfl | rfl | rfl | rfl <;> rfl
        dsimp only
        rw [hm]
        clear hor hn0 hm
        go_wp2_with (at_builtin; refine wpList_append_own _ rfl (.tmp 29) (.tmp 32) 23 rfl w.heap.size 35 i0 (.agg #[.int .i64 0, .string ⟨#[]⟩, .bool false, .slice none 0 0]) 4 56 Tryz.underlying23 hi0 hi1 hi2 hi3 rfl (by decide) (.slice Ao A.length capo) A.length (flat ac A) rfl (HS8.out.out.alloc _) ⟨w8.heap.size, 0, none⟩ 1 1 (#[.int .i64 m, .string ⟨#[]⟩, .bool false, .slice none 0 0] : Array Value).toList rfl hacs (arr_new _ _ _ _ rfl) haco (by unfold maxLen; omega) (by omega) (by have := HB8.out.size; simp; omega) ?_)
        intro v' w12 hown' hgrow _
        have HOW := Lib.hid hown'
        have HGR := Lib.hid hgrow
        clear hown' hgrow
        go_wp2
        go_roundg (N - (k + 1))
        case measure => rw [HG.out]; omega
        case rel =>
          have hpush : Sta w12 w.heap.size w.heap.size (2 * k) L (A ++ [(⟨en, [], false, []⟩, .slice none 0 0)]) v' := (HS8.out.below (below1 w8 _)).push (a := (⟨en, [], false, []⟩, .slice none 0 0)) (by rw [show ac (⟨en, [], false, []⟩, .slice none 0 0) = #[.int .i64 m, .string ⟨#[]⟩, .bool false, .slice none 0 0] by rw [← HM.out]; rfl]; exact HOW.out) HGR.out (nil_own _ _ _) (fun p _ => Apart.nil _ _ _)
          refine ⟨k + 1, L, A ++ [(⟨en, [], false, []⟩, .slice none 0 0)], by omega, rfl, by go_num, hpush.mono (by omega), HRA.out.more HOP.out (runs_err HORG.out), ?_⟩
          exact (HB8.out.alloc (by have := HB8.out.size; omega) _).grown HGR.out (by have := HB8.out.size; simp; omega) (fun g hg => (HS8.out.out.lt g hg).1)
      | ok x =>
        have HORG := Lib.hid hor
        have hxl : x.length ≤ 9223372036854775807 := by
          unfold Urly.originOf at hor
          cases hp : Urly.parse op.loc with
          | error k => rw [hp] at hor; cases hor
          | ok b =>
            rw [hp] at hor; injection hor with hor; subst hor
            have := (Urly.text_size (Urly.parse_size hp).1).1
            omega
        have hlk := HS8.out.map.look under_all (zero_ptr w8) x (by unfold maxLen; exact hxl)
        have HXL := Lib.hid hxl
        clear hor hxl
        cases hq : (look L x).getD none with
        | some g =>
          obtain ⟨rr, hin, rfl, hst2⟩ := look_some hq
          have HIN := Lib.hid hin
          have HSX : Hid ((stOf L x).getD Story.d0 = rr.d) := Lib.hid (by rw [hst2]; rfl)
          rw [hq] at hlk
          have hlk2 : (Instr.lookup 55 (.map (some w.heap.size)) (.string (byt x)) false).run Tryz.prog w8 = .ok (.pointer (some ⟨rr.g, 0, none⟩)) w8 := hlk
          obtain ⟨X, hX⟩ : ∃ X, byt x = X := ⟨_, rfl⟩
          rw [hX] at hlk2
          dsimp only
          rw [hX]
          have HXO := Lib.hid (HX8.out)
          clear hlk hq hin hst2 hX
          have HDO : Hid (Calls Tryz.prog 21 #[.pointer (some ⟨rr.g, 0, none⟩), .agg oc] w8 (OpOut w.heap.size rr (Story.doOp rr.d op) w8)) := Lib.hid (by
            obtain ⟨q1, q2, q3, q4⟩ := HS8.out.dr _ HIN.out
            rw [← HOC.out]
            exact do_any w.heap.size rr op w8 q1 q2 HOS.out.1 HOS.out.2 (by simp only at q3; omega) (by simp only at q4; omega) HB8.out.size)
          go_wp2_with (refine wpList_load_row rfl 32 (.tmp 7) rfl wr.heap.size rfl _ oc (0, 0) _ HXO.out Tryz.underlying32 rfl HOI.out ?_)
          refine HDO.out.mono ?_
          rintro e w11 hout
          obtain ⟨r', kv, rfl, hsta, hsto, hkv, hkap, hbel⟩ := HS8.out.op HIN.out op HB8.out.size hout
          obtain ⟨Ak, capk, rfl⟩ := own_slice hkv
          have HS11 := Lib.hid hsta
          have HSO := Lib.hid hsto
          have HKV := Lib.hid (own_base hkv HB8.out.size)
          have HKA := Lib.hid hkap
          have HB11 : Hid (Below w.heap.size w w11) := Lib.hid (HB8.out.trans hbel)
          obtain ⟨an, han⟩ : ∃ an, (Story.doOp rr.d op).1 = an := ⟨_, rfl⟩
          rw [han] at HKV HKA ⊢
          have HAN := Lib.hid han
          obtain ⟨nk, hnk⟩ : ∃ nk, an.keys.length = nk := ⟨_, rfl⟩
          rw [hnk] at HKV HKA ⊢
          have HNK := Lib.hid hnk
          obtain ⟨E9, hE9⟩ : ∃ E : Int, (an.err : Int) = E := ⟨_, rfl⟩
          obtain ⟨T9, hT9⟩ : ∃ T, byt an.text = T := ⟨_, rfl⟩
          obtain ⟨I9, hI9⟩ : ∃ b, an.is = b := ⟨_, rfl⟩
          have HAC : Hid (acells an (.slice Ak nk capk) = #[.int .i64 E9, .string T9, .bool I9, .slice Ak nk capk]) := Lib.hid (by unfold acells; rw [hE9, hT9, hI9])
          rw [HAC.out]
          have hacs : (#[.int .i64 E9, .string T9, .bool I9, .slice Ak nk capk] : Array Value).toList.length = 1 * 4 := rfl
          have haco : ∀ u ∈ (#[.int .i64 E9, .string T9, .bool I9, .slice Ak nk capk] : Array Value).toList, u.oneCell' = true := by
            intro u hu
            simp at hu
            rcases hu with rfl | rfl | rfl | rfl <;> rfl
          clear hout hsta hsto hkv hkap hbel han hnk hE9 hT9 hI9 HDO
          go_wp2_with (at_builtin; refine wpList_append_own _ rfl (.tmp 45) (.tmp 49) 23 rfl w.heap.size 35 i0 (.agg #[.int .i64 0, .string ⟨#[]⟩, .bool false, .slice none 0 0]) 4 56 Tryz.underlying23 hi0 hi1 hi2 hi3 rfl (by decide) (.slice Ao A.length capo) A.length (flat ac A) rfl (HS11.out.out.alloc _) ⟨w11.heap.size, 0, none⟩ 1 1 (#[.int .i64 E9, .string T9, .bool I9, .slice Ak nk capk] : Array Value).toList rfl hacs (arr_new _ _ _ _ rfl) haco (by unfold maxLen; omega) (by omega) (by have := HB11.out.size; simp; omega) ?_)
          intro v' w12 hown' hgrow _
          have HOW := Lib.hid hown'
          have HGR := Lib.hid hgrow
          clear hown' hgrow
          go_wp2
          go_roundg (N - (k + 1))
          case measure => rw [HG.out]; omega
          case rel =>
            have hpush : Sta w12 w.heap.size w.heap.size (2 * k + 1) (repl L x r') (A ++ [(an, .slice Ak nk capk)]) v' := (HS11.out.below (below1 w11 _)).push (a := (an, .slice Ak nk capk)) (by rw [show ac (an, .slice Ak nk capk) = _ from HAC.out]; exact HOW.out) HGR.out (own_below (by rw [HNK.out]; exact HKV.out) (below1 w11 _)) HKA.out
            refine ⟨k + 1, repl L x r', A ++ [(an, .slice Ak nk capk)], by omega, rfl, by go_num, ?_, ?_, ?_⟩
            · exact hpush.mono (by omega)
            · refine HRA.out.more HOP.out ?_
              rw [HSO.out, runs_ok HORG.out HSX.out, HAN.out]
              
            · exact (HB11.out.alloc (by have := HB11.out.size; omega) _).grown HGR.out (by have := HB11.out.size; simp; omega) (fun g hg => (HS11.out.out.lt g hg).1)
        | none =>
          obtain ⟨hxn, hst2⟩ := look_none hq
          have HXN := Lib.hid hxn
          have HSX : Hid ((stOf L x).getD Story.d0 = Story.d0) := Lib.hid (by rw [hst2]; rfl)
          rw [hq] at hlk
          have hlk2 : (Instr.lookup 55 (.map (some w.heap.size)) (.string (byt x)) false).run Tryz.prog w8 = .ok (.pointer none) w8 := hlk
          have HXT : Hid (x.length ≤ maxLen) := Lib.hid (by unfold maxLen; exact HXL.out)
          obtain ⟨X, hX⟩ : ∃ X, byt x = X := ⟨_, rfl⟩
          have HXX := Lib.hid hX
          rw [hX] at hlk2
          dsimp only
          rw [hX]
          clear hlk hq hxn hst2 hX
          have HMP : Hid (MapF ptrRdr ((w8.alloc (.map #[] 0)).alloc (.cells #[.slice none 0 0, .map (some w8.heap.size), .int .i64 0] 59)) w.heap.size (2 * k) (look L)) := Lib.hid (HS8.out.map.below ((below1 w8 _).alloc (by simp) _))
          have HTM : Hid (MapF textRdr ((w8.alloc (.map #[] 0)).alloc (.cells #[.slice none 0 0, .map (some w8.heap.size), .int .i64 0] 59)) w8.heap.size 0 (fun _ => none)) := Lib.hid ((MapF.made textRdr w8).below (below1 _ _))
          have HDB : Hid (Box ((w8.alloc (.map #[] 0)).alloc (.cells #[.slice none 0 0, .map (some w8.heap.size), .int .i64 0] 59)) (w8.heap.size + 1) 59 #[.slice none 0 0, .map (some w8.heap.size), .int .i64 0]) := Lib.hid (new2 w8 _ _ _)
          have HXB : Hid (Box ((w8.alloc (.map #[] 0)).alloc (.cells #[.slice none 0 0, .map (some w8.heap.size), .int .i64 0] 59)) wr.heap.size 32 oc) := Lib.hid ((HX8.out.alloc _).alloc _)
          have hx8 := HX8.out.lt
          have hm8 := HS8.out.map.lt
          have hml : w8.heap.size ≠ w.heap.size := by omega
          have hdl : w8.heap.size + 1 ≠ w.heap.size := by omega
          have hxl2 : wr.heap.size ≠ w.heap.size := fun e => map_box_ne HS8.out.map HX8.out e.symm
          have HNN := Lib.hid (And.intro hml (And.intro hdl hxl2))
          clear hml hdl hxl2
          go_upto_region 15 with (at_mapUpdate; refine wpList_mapf_store rfl (.tmp 42) (.tmp 43) (.tmp 44) 55 rfl 56 under_all HMP.out rfl (by unfold maxLen; omega) x HXT.out (congrArg Value.string HXX.out.symm) (some (w8.heap.size + 1)) rfl ?_; intro w9 hm9 hu9 hz9; have HZ9 := Lib.hid hz9; clear hz9)
          obtain ⟨rr, hrr⟩ : ∃ rr : Rc, (⟨w8.heap.size + 1, w8.heap.size, 0, .slice none 0 0, Story.d0⟩ : Rc) = rr := ⟨_, rfl⟩
          have hb89 : Below w8.heap.size w8 ((w8.alloc (.map #[] 0)).alloc (.cells #[.slice none 0 0, .map (some w8.heap.size), .int .i64 0] 59)) := (below1 w8 _).alloc (by simp) _
          have hd9 : DrAt w9 w.heap.size ⟨w8.heap.size + 1, w8.heap.size, 0, .slice none 0 0, Story.d0⟩ := ⟨box_upd HDB.out hu9 HNN.out.2.1, nil_own _ _ _, HTM.out.upd hu9 HNN.out.1, by have := HB8.out.size; simp only; omega, by have := HB8.out.size; simp only; omega⟩
          have hu89 : Upd w8 w9 w.heap.size := (Upd.below hb89 _).trans hu9
          have hadd := HS8.out.add (x := x) HXN.out (g := w8.heap.size + 1) (m := w8.heap.size) (by omega) (Nat.le_refl _) HB8.out.size hd9 hm9 hu89
          rw [hrr] at hadd
          have HS9 := Lib.hid hadd.1
          have HSQ := Lib.hid hadd.2
          have HB9 : Hid (Below w.heap.size w w9) := Lib.hid (HB8.out.trans (hu89.own (Nat.le_refl _) HB8.out.size))
          have HIN : Hid ((x, rr) ∈ L ++ [(x, rr)]) := Lib.hid (by simp)
          have HRD : Hid (rr.d = Story.d0) := Lib.hid (by rw [← hrr])
          have HXO : Hid (Box w9 wr.heap.size 32 oc) := Lib.hid (box_upd HXB.out hu9 HNN.out.2.2)
          have hrg : w8.heap.size + 1 = rr.g := by rw [← hrr]
          rw [hrg]
          clear hrr hb89 hd9 hu89 hadd hrg hm9 hu9 HMP HTM HDB HXB hlk2 HZ9
          have HDO : Hid (Calls Tryz.prog 21 #[.pointer (some ⟨rr.g, 0, none⟩), .agg oc] w9 (OpOut w.heap.size rr (Story.doOp rr.d op) w9)) := Lib.hid (by
            obtain ⟨q1, q2, q3, q4⟩ := HS9.out.dr _ HIN.out
            rw [← HOC.out]
            exact do_any w.heap.size rr op w9 q1 q2 HOS.out.1 HOS.out.2 (by simp only at q3; omega) (by simp only at q4; omega) HB9.out.size)
          go_wp2_with (refine wpList_load_row rfl 32 (.tmp 7) rfl wr.heap.size rfl _ oc (0, 0) _ HXO.out Tryz.underlying32 rfl HOI.out ?_)
          refine HDO.out.mono ?_
          rintro e w11 hout
          obtain ⟨r', kv, rfl, hsta, hsto, hkv, hkap, hbel⟩ := HS9.out.op HIN.out op HB9.out.size hout
          obtain ⟨Ak, capk, rfl⟩ := own_slice hkv
          have HS11 := Lib.hid hsta
          have HSO := Lib.hid hsto
          have HKV := Lib.hid (own_base hkv HB9.out.size)
          have HKA := Lib.hid hkap
          have HB11 : Hid (Below w.heap.size w w11) := Lib.hid (HB9.out.trans hbel)
          obtain ⟨an, han⟩ : ∃ an, (Story.doOp rr.d op).1 = an := ⟨_, rfl⟩
          rw [han] at HKV HKA ⊢
          have HAN := Lib.hid han
          obtain ⟨nk, hnk⟩ : ∃ nk, an.keys.length = nk := ⟨_, rfl⟩
          rw [hnk] at HKV HKA ⊢
          have HNK := Lib.hid hnk
          obtain ⟨E9, hE9⟩ : ∃ E : Int, (an.err : Int) = E := ⟨_, rfl⟩
          obtain ⟨T9, hT9⟩ : ∃ T, byt an.text = T := ⟨_, rfl⟩
          obtain ⟨I9, hI9⟩ : ∃ b, an.is = b := ⟨_, rfl⟩
          have HAC : Hid (acells an (.slice Ak nk capk) = #[.int .i64 E9, .string T9, .bool I9, .slice Ak nk capk]) := Lib.hid (by unfold acells; rw [hE9, hT9, hI9])
          rw [HAC.out]
          have hacs : (#[.int .i64 E9, .string T9, .bool I9, .slice Ak nk capk] : Array Value).toList.length = 1 * 4 := rfl
          have haco : ∀ u ∈ (#[.int .i64 E9, .string T9, .bool I9, .slice Ak nk capk] : Array Value).toList, u.oneCell' = true := by
            intro u hu
            simp at hu
            rcases hu with rfl | rfl | rfl | rfl <;> rfl
          clear hout hsta hsto hkv hkap hbel han hnk hE9 hT9 hI9 HDO
          go_wp2_with (at_builtin; refine wpList_append_own _ rfl (.tmp 45) (.tmp 49) 23 rfl w.heap.size 35 i0 (.agg #[.int .i64 0, .string ⟨#[]⟩, .bool false, .slice none 0 0]) 4 56 Tryz.underlying23 hi0 hi1 hi2 hi3 rfl (by decide) (.slice Ao A.length capo) A.length (flat ac A) rfl (HS11.out.out.alloc _) ⟨w11.heap.size, 0, none⟩ 1 1 (#[.int .i64 E9, .string T9, .bool I9, .slice Ak nk capk] : Array Value).toList rfl hacs (arr_new _ _ _ _ rfl) haco (by unfold maxLen; omega) (by omega) (by have := HB11.out.size; simp; omega) ?_)
          intro v' w12 hown' hgrow _
          have HOW := Lib.hid hown'
          have HGR := Lib.hid hgrow
          clear hown' hgrow
          go_wp2
          go_roundg (N - (k + 1))
          case measure => rw [HG.out]; omega
          case rel =>
            have hpush : Sta w12 w.heap.size w.heap.size (2 * k + 1 + 1) (repl (L ++ [(x, rr)]) x r') (A ++ [(an, .slice Ak nk capk)]) v' := (HS11.out.below (below1 w11 _)).push (a := (an, .slice Ak nk capk)) (by rw [show ac (an, .slice Ak nk capk) = _ from HAC.out]; exact HOW.out) HGR.out (own_below (by rw [HNK.out]; exact HKV.out) (below1 w11 _)) HKA.out
            refine ⟨k + 1, repl (L ++ [(x, rr)]) x r', A ++ [(an, .slice Ak nk capk)], by omega, rfl, by go_num, ?_, ?_, ?_⟩
            · exact hpush.mono (by omega)
            · refine HRA.out.more HOP.out ?_
              rw [HSO.out, HSQ.out, setS_setS, runs_ok HORG.out HSX.out, ← HRD.out, HAN.out]
              
            · exact (HB11.out.alloc (by have := HB11.out.size; omega) _).grown HGR.out (by have := HB11.out.size; simp; omega) (fun g hg => (HS11.out.out.lt g hg).1)
    · have hl1 : decide ((k : Int) < (N : Int)) = false := decide_eq_false (by omega)
      have hl2 : ¬ (k : Int) < (N : Int) := by omega
      have HF : Hid (A.map (·.1) = Story.runs (fun _ => none) ops ∧ A.length = ops.length) := Lib.hid (by
        refine ⟨?_, by rw [HN.out, HAL.out]; omega⟩
        rw [HRA.out.1, List.drop_eq_nil_of_le (by rw [HN.out]; omega)]
        simp [Story.runs])
      go_wp2
      go_returns
      exact .inr ⟨HL.out, A, _, HF.out.1, HF.out.2, rfl, HST.out.out, HST.out.ans, HBW.out⟩
end Go.Proofs.YtdolmjeiakdfhaaGreatDoor

namespace Go.Proofs.YtdolmjeiakdfhaaGreatDoor
set_option linter.unusedSimpArgs false
set_option linter.unusedVariables false
open Go.RowKit

theorem map_byt_inj : ∀ {a b : List (List UInt8)}, a.map byt = b.map byt → a = b
  | [], [], _ => rfl
  | [], _ :: _, h => by simp at h
  | _ :: _, [], h => by simp at h
  | x :: a, y :: b, h => by
    simp only [List.map_cons, List.cons.injEq] at h
    rw [byt_inj h.1, map_byt_inj h.2]
/-- texts in a row compared. -/
theorem eqtxts_any (l m : List (List UInt8)) (va vb : Value) (w : World) (ha : Rd w 1 (txts l) l.length va) (hb : Rd w 1 (txts m) m.length vb) :
    Calls Tryz.prog 24 #[va, vb] w fun e w' => e = .returned (.bool (decide (l = m))) ∧ Below w.heap.size w w' := by
  obtain ⟨A, ca, rfl, h1, h2, h3⟩ := ha
  obtain ⟨B, cb, rfl, k1, k2, k3⟩ := hb
  by_cases hlm : l.length = m.length
  · by_cases hp : 0 < l.length
    · obtain ⟨g, o, rfl, h4, h5⟩ := h3 hp
      obtain ⟨g', o', rfl, k4, k5⟩ := k3 (hlm ▸ hp)
      refine (Tryz.slices_Equal_string g o l.length ca g' o' m.length cb (l.map byt) (m.map byt) w (by simp) (by simp) (by omega) (by omega) (fun j hj => h5 j _ (txts_getD l j (by simpa using hj))) (fun j hj => k5 j _ (txts_getD m j (by simpa using hj)))).mono ?_
      rintro e w' ⟨h6, q, rfl⟩
      refine ⟨?_, below_drewN (Below.refl _ _) q⟩
      rw [h6, List.take_of_length_le (by simp), List.take_of_length_le (by simp)]
      congr 2
      by_cases e : l = m
      · subst e; simp
      · rw [decide_eq_false e, decide_eq_false fun h => e (map_byt_inj h)]
    · have e0 : l = [] := List.length_eq_zero_iff.1 (by omega)
      subst e0
      refine (Tryz.slices_Equal_string_empty A B ca m.length cb w (by omega)).mono ?_
      rintro e w' ⟨h6, rfl⟩
      refine ⟨?_, Below.refl _ _⟩
      rw [h6]
      congr 2
      have e1 : m = [] := List.length_eq_zero_iff.1 (by simpa using hlm.symm)
      subst e1; rfl
  · refine (Tryz.slices_Equal_string_lens A B l.length ca m.length cb w hlm).mono ?_
    rintro e w' ⟨h6, rfl⟩
    exact ⟨by rw [h6, decide_eq_false fun h => hlm (by rw [h])], Below.refl _ _⟩
theorem ans_eq {a b : Story.Ans} (h1 : a.err = b.err) (h2 : a.text = b.text) (h3 : a.is = b.is) (h4 : a.keys = b.keys) : a = b := by
  cases a; cases b; simp only at h1 h2 h3 h4; subst h1; subst h2; subst h3; subst h4; rfl
set_option maxRecDepth 100000 in
set_option maxHeartbeats 4000000 in
theorem samest_any (a b : Story.Ans) (va vb : Value) (w : World) (ha : Rd w 1 (txts a.keys) a.keys.length va) (hb : Rd w 1 (txts b.keys) b.keys.length vb) :
    Calls Tryz.prog 13 #[.agg (acells a va), .agg (acells b vb)] w fun e w' => e = .returned (.bool (decide (a = b))) ∧ Below w.heap.size w w' := by
  have HEQ : Hid (∀ w1, Below w.heap.size w w1 → Calls Tryz.prog 24 #[va, vb] w1 fun e w' => e = .returned (.bool (decide (a.keys = b.keys))) ∧ Below w1.heap.size w1 w') := Lib.hid (fun w1 h1 => eqtxts_any a.keys b.keys va vb w1 (ha.below h1) (hb.below h1))
  have HA : Hid (Box ((w.alloc (.cells (acells a va) 35)).alloc (.cells (acells b vb) 35)) w.heap.size 35 (acells a va)) := Lib.hid ((Box.new w _ _).alloc _)
  have HB : Hid (Box ((w.alloc (.cells (acells a va) 35)).alloc (.cells (acells b vb) 35)) (w.heap.size + 1) 35 (acells b vb)) := Lib.hid (new2 w _ _ _)
  have HW : Hid (Below w.heap.size w ((w.alloc (.cells (acells a va) 35)).alloc (.cells (acells b vb) 35))) := Lib.hid ((below1 w _).alloc (by simp) _)
  obtain ⟨w1, hw1⟩ : ∃ w1, (w.alloc (.cells (acells a va) 35)).alloc (.cells (acells b vb) 35) = w1 := ⟨_, rfl⟩
  obtain ⟨ca, hca⟩ : ∃ c, acells a va = c := ⟨_, rfl⟩
  obtain ⟨cb, hcb⟩ : ∃ c, acells b vb = c := ⟨_, rfl⟩
  obtain ⟨E, hE⟩ : ∃ c : Int, (a.err : Int) = c := ⟨_, rfl⟩
  obtain ⟨F, hF⟩ : ∃ c : Int, (b.err : Int) = c := ⟨_, rfl⟩
  obtain ⟨S, hS⟩ : ∃ c, byt a.text = c := ⟨_, rfl⟩
  obtain ⟨T, hT⟩ : ∃ c, byt b.text = c := ⟨_, rfl⟩
  obtain ⟨I, hI⟩ : ∃ c, a.is = c := ⟨_, rfl⟩
  obtain ⟨J, hJ⟩ : ∃ c, b.is = c := ⟨_, rfl⟩
  have HCA : Hid (ca = #[.int .i64 E, .string S, .bool I, va]) := Lib.hid (by rw [← hca, ← hE, ← hS, ← hI]; rfl)
  have HCB : Hid (cb = #[.int .i64 F, .string T, .bool J, vb]) := Lib.hid (by rw [← hcb, ← hF, ← hT, ← hJ]; rfl)
  rw [hw1] at HW
  rw [hca, hcb] at hw1 HA HB
  rw [hca, hcb]
  obtain ⟨a0, a1, a2, a3⟩ : ((w.alloc (.cells ca 35)).alloc (.cells cb 35)).cell? ⟨w.heap.size, 0, none⟩ = some (.int .i64 E) ∧ ((w.alloc (.cells ca 35)).alloc (.cells cb 35)).cell? ⟨w.heap.size, 1, none⟩ = some (.string S) ∧ ((w.alloc (.cells ca 35)).alloc (.cells cb 35)).cell? ⟨w.heap.size, 2, none⟩ = some (.bool I) ∧ ((w.alloc (.cells ca 35)).alloc (.cells cb 35)).cell? ⟨w.heap.size, 3, none⟩ = some va := by
    have hx := HA.out
    generalize (w.alloc (.cells ca 35)).alloc (.cells cb 35) = wz at hx ⊢
    rw [HCA.out] at hx
    exact ⟨hx.cell 0, hx.cell 1, hx.cell 2, hx.cell 3⟩
  obtain ⟨b0, b1, b2, b3⟩ : ((w.alloc (.cells ca 35)).alloc (.cells cb 35)).cell? ⟨w.heap.size + 1, 0, none⟩ = some (.int .i64 F) ∧ ((w.alloc (.cells ca 35)).alloc (.cells cb 35)).cell? ⟨w.heap.size + 1, 1, none⟩ = some (.string T) ∧ ((w.alloc (.cells ca 35)).alloc (.cells cb 35)).cell? ⟨w.heap.size + 1, 2, none⟩ = some (.bool J) ∧ ((w.alloc (.cells ca 35)).alloc (.cells cb 35)).cell? ⟨w.heap.size + 1, 3, none⟩ = some vb := by
    have hx := HB.out
    generalize (w.alloc (.cells ca 35)).alloc (.cells cb 35) = wz at hx ⊢
    rw [HCB.out] at hx
    exact ⟨hx.cell 0, hx.cell 1, hx.cell 2, hx.cell 3⟩
  have hno : Hid ((E = F ∧ S = T ∧ I = J) ∨ (¬ (E = F ∧ S = T ∧ I = J) ∧ a ≠ b)) := Lib.hid (by
    by_cases h : E = F ∧ S = T ∧ I = J
    · exact .inl h
    · exact .inr ⟨h, fun e => h (by subst e; exact ⟨hE.symm.trans hF, hS.symm.trans hT, hI.symm.trans hJ⟩)⟩)
  have hyes : Hid (E = F → S = T → I = J → decide (a.keys = b.keys) = decide (a = b)) := Lib.hid (by
    intro h1 h2 h3
    by_cases h4 : a.keys = b.keys
    · rw [decide_eq_true h4, decide_eq_true (ans_eq (by omega) (byt_inj (by rw [hS, hT, h2])) (by rw [hI, hJ, h3]) h4)]
    · rw [decide_eq_false h4, decide_eq_false fun e => h4 (by rw [e])])
  have HW1 := Lib.hid hw1
  clear hca hcb hE hF hS hT hI hJ ha hb hw1
  by_cases h1 : E = F
  · have q1 : (E == F) = true := by simp [h1]
    by_cases h2 : S = T
    · have q2 : decide (S.toList = T.toList) = true := by simp [h2]
      by_cases h3 : I = J
      · have q3 : (I == J) = true := by simp [h3]
        have HR := Lib.hid (hyes.out h1 h2 h3)
        subst h1; subst h2; subst h3
        clear hno hyes
        go_enter Tryz.func13, Tryz.ntmps13
        go_wp2_with (fail)
        rw [HW1.out]
        refine (HEQ.out _ HW.out).mono ?_
        rintro e w2 ⟨rfl, hw2⟩
        have HW2 := Lib.hid (HW.out.trans (hw2.mono HW.out.size))
        clear hw2
        go_wp2
        go_ret
        exact ⟨by rw [← HR.out]; simp, HW2.out⟩
      · have q3 : (I == J) = false := by simp [h3]
        have HR : Hid (a ≠ b) := Lib.hid (by rcases hno.out with h | h; exact absurd h.2.2 h3; exact h.2)
        clear hno hyes h3
        go_enter Tryz.func13, Tryz.ntmps13
        go_wp2
        go_ret
        exact ⟨ret_bool (decide_eq_false HR.out).symm, by rw [HW1.out]; exact HW.out⟩
    · have q2 : decide (S.toList = T.toList) = false := decide_eq_false fun h => h2 (by cases S; cases T; simpa [ByteArray.toList_eq] using h)
      have HR : Hid (a ≠ b) := Lib.hid (by rcases hno.out with h | h; exact absurd h.2.1 h2; exact h.2)
      have q4 : ¬ S.toList = T.toList := of_decide_eq_false q2
      have q6 : decide (S = T) = false := decide_eq_false h2
      clear hno hyes h2
      go_enter Tryz.func13, Tryz.ntmps13
      go_wp2
      go_ret
      exact ⟨ret_bool (decide_eq_false HR.out).symm, by rw [HW1.out]; exact HW.out⟩
  · have q1 : (E == F) = false := by simp [h1]
    have HR : Hid (a ≠ b) := Lib.hid (by rcases hno.out with h | h; exact absurd h.1 h1; exact h.2)
    clear hno hyes h1
    go_enter Tryz.func13, Tryz.ntmps13
    go_wp2
    go_ret
    exact ⟨ret_bool (decide_eq_false HR.out).symm, by rw [HW1.out]; exact HW.out⟩
end Go.Proofs.YtdolmjeiakdfhaaGreatDoor

namespace Story
set_option maxRecDepth 100000
def lops : List Op := [⟨1, [104, 116, 116, 112, 58, 47, 47, 97, 47, 120], [107], [118]⟩, ⟨2, [104, 116, 116, 112, 58, 47, 47, 97, 58, 56, 48, 47, 121], [107], []⟩, ⟨2, [104, 116, 116, 112, 115, 58, 47, 47, 97, 47], [107], []⟩]
theorem lives_runs : runs (fun _ => none) lops = [⟨0, [], false, []⟩, ⟨0, [118], true, []⟩, ⟨0, [], false, []⟩] := by kernel_rfl
end Story
namespace Go.Proofs.YtdolmjeiakdfhaaGreatDoor
set_option linter.unusedSimpArgs false
set_option linter.unusedVariables false
open Go.RowKit

/-- ops in a block that is known whole. -/
theorem rd_ops {w : World} {g : Nat} {ops : List Story.Op} {cap : Nat} {cs : Array Value} (h : Box w g 32 cs) (e : cs.toList = flat ocells ops) (hc : ops.length ≤ cap) (hz : cap ≤ 9223372036854775807) : Rd w 4 (flat ocells ops) ops.length (.slice (some ⟨g, 0, none⟩) ops.length cap) :=
  ⟨_, _, rfl, hc, hz, fun _ => ⟨g, 0, rfl, h.lt, fun j u hu => by
    rw [Nat.zero_add, h.cell j, ← Array.getElem?_toList, e]; exact hu⟩⟩
/-- a cell of an answer. -/
theorem ans_cell {w : World} {B k j : Nat} {v : Value} {A : List (Story.Ans × Value)} {a : Story.Ans} {kv u : Value} {g o cap : Nat} (h : w.ownsRow B 35 4 v A.length (flat ac A)) (e : v = .slice (some ⟨g, o, none⟩) A.length cap) (hk : A[k]? = some (a, kv)) (hj : (acells a kv).toList[j]? = some u) : w.cell? ⟨g, o + k * 4 + j, none⟩ = some u := by
  obtain ⟨X, c', e1, _, _, h3⟩ := Rd.own h
  have hpos : 0 < A.length := by have := (List.getElem?_eq_some_iff.1 hk).1; omega
  obtain ⟨g', o', e2, h4, h5⟩ := h3 hpos
  subst e2
  rw [e] at e1
  injection e1 with e1
  injection e1 with e1
  injection e1 with e1 e3 _
  subst e1; subst e3
  exact RdL.elem (f := ac) (fun _ => rfl) h5 hk j u hj
set_option maxRecDepth 100000 in
set_option maxHeartbeats 4000000 in
theorem storeLives_true (w : World) (he : Env w) : Calls Tryz.prog 10 #[] w fun e w' => e = .returned (.bool true) ∧ Below w.heap.size w w' := by
  have HR : Hid (Calls Tryz.prog 8 #[.slice (some ⟨w.heap.size, 0, none⟩) 3 3] (w.alloc (.cells (flat ocells Story.lops).toArray 32)) (RunOut Story.lops (w.alloc (.cells (flat ocells Story.lops).toArray 32)))) := Lib.hid
    (run_any Story.lops _ _ (he.below (below1 w _)) (rd_ops (Box.new w _ _) rfl (Nat.le_refl _) (by decide)) (by intro o ho; simp [Story.lops] at ho; rcases ho with rfl | rfl | rfl <;> simp))
  have e0 : (flat ocells Story.lops).toArray = #[.int .i64 1, .string ⟨#[104, 116, 116, 112, 58, 47, 47, 97, 47, 120]⟩, .string ⟨#[107]⟩, .string ⟨#[118]⟩, .int .i64 2, .string ⟨#[104, 116, 116, 112, 58, 47, 47, 97, 58, 56, 48, 47, 121]⟩, .string ⟨#[107]⟩, .string ⟨#[]⟩, .int .i64 2, .string ⟨#[104, 116, 116, 112, 115, 58, 47, 47, 97, 47]⟩, .string ⟨#[107]⟩, .string ⟨#[]⟩] := rfl
  rw [e0] at HR
  clear he e0
  go_enter Tryz.func10, Tryz.ntmps10
  go_wp2_with (fail)
  refine HR.out.mono ?_
  rintro e w1 (⟨h, _⟩ | ⟨_, A, v, h1, h2, rfl, h3, h4, h5⟩)
  · exact absurd h (by decide)
  rw [Story.lives_runs] at h1
  obtain ⟨k0, k1, k2, rfl⟩ : ∃ k0 k1 k2, A = [(⟨0, [], false, []⟩, k0), (⟨0, [118], true, []⟩, k1), (⟨0, [], false, []⟩, k2)] := by
    match A, h1 with
    | [(a, x), (b, y), (c, z)], h1 => simp at h1; obtain ⟨rfl, rfl, rfl⟩ := h1; exact ⟨x, y, z, rfl⟩
  obtain ⟨g, cap, ev⟩ := own_succ (k := 2) h3
  subst ev
  have hc1 := ans_cell (k := 1) (j := 1) h3 rfl rfl rfl
  have hc2 := ans_cell (k := 1) (j := 2) h3 rfl rfl rfl
  have hc3 := ans_cell (k := 2) (j := 2) h3 rfl rfl rfl
  have HB : Hid (Below w.heap.size w w1) := Lib.hid ((below1 w _).trans (h5.mono (below1 w _).size))
  clear h1 h2 h3 h4 h5 HR
  simp only [List.length_cons, List.length_nil, Nat.zero_add, Nat.reduceAdd, Nat.reduceMul, Nat.one_mul, byt] at hc1 hc2 hc3 ⊢
  go_wp2
  go_ret
  exact ⟨rfl, HB.out⟩
end Go.Proofs.YtdolmjeiakdfhaaGreatDoor

namespace Go.Proofs.YtdolmjeiakdfhaaGreatDoor
set_option linter.unusedSimpArgs false
set_option linter.unusedVariables false
open Go.RowKit

theorem ocells_one (o : Story.Op) : (ocells o).all (·.oneCell') = true := op_one o
theorem parts_op : (Tryz.prog.info? 32).map (fun i => (i.zero, i.size, i.bytes)) = some (some (.agg #[.int .i64 0, .string ⟨#[]⟩, .string ⟨#[]⟩, .string ⟨#[]⟩]), 4, 56) := by kernel_rfl
theorem eg_samest : ∀ args w, (callFunc 13 args).run Tryz.prog w = .ok (.enter 13 args) w := Go.Proofs.enters_of Tryz.func13 (by kernel_rfl) rfl
theorem ac_rd {x : Story.Ans × Value} {w : World} (h : Rd w 1 (txts x.1.keys) x.1.keys.length x.2) : (ac x).all (·.oneCell') = true := by
  obtain ⟨A, cap, e, _⟩ := h
  unfold ac
  rw [e]; exact acells_one _ _ _ _
set_option maxRecDepth 100000 in
set_option maxHeartbeats 4000000 in
theorem equalfn_any (h k : List (Story.Ans × Value)) (v u : Value) (g : Nat) (w : World) (eg : ∀ args w, (callFunc g args).run Tryz.prog w = .ok (.enter g args) w)
    (hp : ∀ (x y : Story.Ans × Value) (w1 : World), Rd w1 1 (txts x.1.keys) x.1.keys.length x.2 → Rd w1 1 (txts y.1.keys) y.1.keys.length y.2 → Calls Tryz.prog g #[.agg (ac x), .agg (ac y)] w1 fun e w' => e = .returned (.bool (decide (x.1 = y.1))) ∧ Below w1.heap.size w1 w')
    (hr : Rd w 4 (flat ac h) h.length v) (hk : Rd w 4 (flat ac k) k.length u) (hhs : ∀ x ∈ h, Rd w 1 (txts x.1.keys) x.1.keys.length x.2) (hks : ∀ x ∈ k, Rd w 1 (txts x.1.keys) x.1.keys.length x.2) :
    Calls Tryz.prog 12 #[v, u, .func (.func g) #[] #[]] w fun e w' => e = .returned (.bool (decide (h.map (·.1) = k.map (·.1)))) ∧ Below w.heap.size w w' := by
  have HP := Lib.hid hp
  have HHS := Lib.hid hhs
  have HKS := Lib.hid hks
  obtain ⟨A, cap, rfl, hc1, hc2, hrow⟩ := hr
  obtain ⟨A2, cap2, rfl, hc3, hc4, hrow2⟩ := hk
  have HR := Lib.hid hrow
  have HR2 := Lib.hid hrow2
  clear hp hhs hks hrow hrow2
  go_enter Tryz.func12, Tryz.ntmps12
  by_cases hl : h.length = k.length
  · have hne : ((h.length : Int) != (k.length : Int)) = false := by simp [hl]
    have hneN : (h.length != k.length) = false := by simp [hl]
    have HL := Lib.hid hl
    clear hl
    go_upto_region 4 with (fail)
    go_loopg [17] h.length (fun gg s17 wr => ∃ j : Nat, j ≤ h.length ∧ h.length - j ≤ gg ∧ s17 = .int .i64 (j : Int) ∧ Hid (Below w.heap.size w wr) ∧ Hid (∀ (i : Nat) (x y : (Story.Ans × Value)), i < j → h[i]? = some x → k[i]? = some y → x.1 = y.1))
    case atStart => exact ⟨0, Nat.zero_le _, by omega, rfl, Below.refl _ w, fun i x y hi => absurd hi (Nat.not_lt_zero _)⟩
    case round =>
      obtain ⟨j, hj, hgg, rfl, BW, AA⟩ := hrel
      by_cases hlt : j < h.length
      · have hlt2 : decide ((j : Int) < (h.length : Int)) = true := decide_eq_true (by omega)
        have hltz : (j : Int) < (h.length : Int) := by omega
        have hltk : (j : Int) < (k.length : Int) := by have := HL.out; omega
        obtain ⟨x, hx⟩ : ∃ x, h[j]? = some x := ⟨_, List.getElem?_eq_getElem hlt⟩
        obtain ⟨y, hy⟩ : ∃ y, k[j]? = some y := ⟨_, List.getElem?_eq_getElem (by have := HL.out; omega)⟩
        obtain ⟨g0, o0, rfl, hg0, hrg⟩ := HR.out (by omega)
        obtain ⟨g1, o1, rfl, hg1, hrg1⟩ := HR2.out (by have := HL.out; omega)
        have hr0 : Hid (wr.rangeAt g0 (o0 + j * 4) (ac x).toList) := fun i u hu => by
          rw [BW.out.cell (p := ⟨g0, o0 + j * 4 + i, none⟩) hg0]
          exact RdL.elem (f := ac) (fun _ => rfl) hrg hx i u hu
        have HX := Lib.hid hx
        have HY := Lib.hid hy
        have HRG1 := Lib.hid hrg1
        have HCX := Lib.hid (HHS.out x (List.mem_of_getElem? hx))
        have HCY := Lib.hid (HKS.out y (List.mem_of_getElem? hy))
        have HOX := Lib.hid (ac_rd HCX.out)
        have HOY := Lib.hid (ac_rd HCY.out)
        clear hx hy hrg hrg1
        go_upto_region 6 with (first | (refine wpList_load_mid rfl 35 (.tmp 20) rfl g0 (o0 + j * 4) rfl (ac x).toList _ hr0.out Tryz.underlying35 rfl info_ans ?_) | (refine wpList_store_box rfl 35 (.tmp 8) (.tmp 21) rfl wr.heap.size (ac x) rfl rfl 35 _ (Box.new wr _ _) info_ans rfl HOX.out ?_; intro w6 hx6 hu6 hz6))
        have hb6 : Below wr.heap.size wr w6 := ((Below.refl _ wr).alloc (Nat.le_refl _) _).trans (hu6.own (Nat.le_refl _) (by simp))
        have BW6 := Lib.hid (BW.out.trans (hb6.mono BW.out.size))
        have HX6 := Lib.hid hx6
        have hz66 := hb6.size
        have hr1 : Hid (w6.rangeAt g1 (o1 + j * 4) (ac y).toList) := fun i u hu => by
          rw [BW6.out.cell (p := ⟨g1, o1 + j * 4 + i, none⟩) hg1]
          exact RdL.elem (f := ac) (fun _ => rfl) HRG1.out HY.out i u hu
        clear hb6 hu6 hx6 hz6 hr0 BW
        go_upto_region 7 with (first | (refine wpList_load_mid rfl 35 (.tmp 24) rfl g1 (o1 + j * 4) rfl (ac y).toList _ hr1.out Tryz.underlying35 rfl info_ans ?_) | (refine wpList_store_box rfl 35 (.tmp 9) (.tmp 25) rfl w6.heap.size (ac y) rfl rfl 35 _ (Box.new w6 _ _) info_ans rfl HOY.out ?_; intro w7 hx7 hu7 hz7))
        have hb7 : Below w6.heap.size w6 w7 := ((Below.refl _ w6).alloc (Nat.le_refl _) _).trans (hu7.own (Nat.le_refl _) (by simp))
        have BW7 := Lib.hid (BW6.out.trans (hb7.mono BW6.out.size))
        have HX7 := Lib.hid (HX6.out.below hb7 HX6.out.lt)
        have HY7 := Lib.hid hx7
        have HCALL := Lib.hid (HP.out x y w7 (HCX.out.below BW7.out) (HCY.out.below BW7.out))
        obtain ⟨q, hq⟩ : ∃ q, decide (x.1 = y.1) = q := ⟨_, rfl⟩
        rw [hq] at HCALL
        have HQ := Lib.hid hq
        clear hb7 hu7 hx7 hz7 hr1 hq
        go_wp2_with (first | (refine wpList_load_row rfl 35 (.tmp 8) rfl wr.heap.size rfl _ (ac x) (0, 0) _ HX7.out Tryz.underlying35 rfl info_ans ?_) | (refine wpList_load_row rfl 35 (.tmp 9) rfl w6.heap.size rfl _ (ac y) (0, 0) _ HY7.out Tryz.underlying35 rfl info_ans ?_))
        refine (HCALL.out).mono ?_
        rintro en w8 ⟨rfl, hb8⟩
        have BW8 := Lib.hid (BW7.out.trans (hb8.mono BW7.out.size))
        clear hb8
        cases q with
        | false =>
          go_wp2
          go_ret
          refine ⟨ret_bool (decide_eq_false (fun e => ?_)).symm, BW8.out⟩
          have h1 : (h.map (·.1))[j]? = some x.1 := by rw [List.getElem?_map, HX.out]; rfl
          have h2 : (k.map (·.1))[j]? = some y.1 := by rw [List.getElem?_map, HY.out]; rfl
          rw [e, h2] at h1
          injection h1 with h1
          exact of_decide_eq_false HQ.out h1.symm
        | true =>
          go_wp2
          go_roundg (h.length - (j + 1))
          case measure => omega
          case rel =>
            refine ⟨j + 1, by omega, by omega, by go_num, BW8.out, (show Hid _ from fun i x' y' hi hx' hy' => ?_)⟩
            by_cases e : i = j
            · subst e
              have h1 := HX.out
              have h2 := HY.out
              rw [hx'] at h1
              rw [hy'] at h2
              injection h1 with h1
              injection h2 with h2
              rw [h1, h2]; exact of_decide_eq_true HQ.out
            · exact AA.out i x' y' (by omega) hx' hy'
      · have hlt2 : decide ((j : Int) < (h.length : Int)) = false := decide_eq_false (by omega)
        go_wp2
        go_ret
        refine ⟨ret_bool (decide_eq_true ?_).symm, BW.out⟩
        refine List.ext_getElem? fun i => ?_
        rw [List.getElem?_map, List.getElem?_map]
        by_cases hi : i < h.length
        · obtain ⟨x, hx⟩ : ∃ x, h[i]? = some x := ⟨_, List.getElem?_eq_getElem hi⟩
          obtain ⟨y, hy⟩ : ∃ y, k[i]? = some y := ⟨_, List.getElem?_eq_getElem (by have := HL.out; omega)⟩
          rw [hx, hy, Option.map_some, Option.map_some, AA.out i x y (by omega) hx hy]
        · rw [List.getElem?_eq_none (by omega), List.getElem?_eq_none (by have := HL.out; omega)]
  · have hne : ((h.length : Int) != (k.length : Int)) = true := by simp; omega
    have hneN : (h.length != k.length) = true := by simp [hl]
    have HL := Lib.hid hl
    clear hl
    go_wp2
    go_ret
    refine ⟨ret_bool (decide_eq_false (fun e => ?_)).symm, Below.refl _ _⟩
    have := congrArg List.length e
    rw [List.length_map, List.length_map] at this
    exact HL.out this
end Go.Proofs.YtdolmjeiakdfhaaGreatDoor
