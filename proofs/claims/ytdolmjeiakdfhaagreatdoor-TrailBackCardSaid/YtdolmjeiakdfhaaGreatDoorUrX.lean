/-
  An address is parsed. Conditions: the library's variables hold what they hold.
-/
import Derived.Test.YtdolmjeiakdfhaaGreatDoorUrW
import Derived.Test.YtdolmjeiakdfhaaGreatDoorUrS
namespace Go.Proofs.YtdolmjeiakdfhaaGreatDoor
set_option linter.unusedSimpArgs false
set_option linter.unusedVariables false
open Go.RowKit

/-! ### plain -/
theorem pre_two (s : List UInt8) : Lib.hasPrefix s [47, 47] = (Urly.twoOff s).isSome ∧ Lib.trimPrefix s [47, 47] = (Urly.twoOff s).getD s := by
  unfold Lib.trimPrefix Lib.hasPrefix Urly.twoOff
  match s with
  | [] => exact ⟨rfl, rfl⟩
  | [a] => simp [List.isPrefixOf]
  | a :: b :: r =>
    by_cases h1 : a = 47
    · by_cases h2 : b = 47
      · subst h1; subst h2; simp [List.isPrefixOf]
      · have : ¬ (47 : UInt8) = b := fun e => h2 e.symm
        simp [List.isPrefixOf, h1, h2, this]
    · have : ¬ (47 : UInt8) = a := fun e => h1 e.symm
      simp [List.isPrefixOf, h1, this]
theorem pre_bare (s : List UInt8) : Lib.trimPrefix s [47] = Urly.bare s := by
  unfold Lib.trimPrefix Lib.hasPrefix Urly.bare
  match s with
  | [] => rfl
  | a :: r =>
    by_cases h1 : a = 47
    · subst h1; simp [List.isPrefixOf]
    · have : ¬ (47 : UInt8) = a := fun e => h1 e.symm
      simp [List.isPrefixOf, h1, this]
theorem ends_eq (c : UInt8) : Urly.ends c = ([47, 63, 35] : List UInt8).contains c := byte_all (p := fun c => Urly.ends c = ([47, 63, 35] : List UInt8).contains c) (by decide +kernel) c
/-- where a host ends. -/
def endAt (r : List UInt8) : Nat := (r.takeWhile fun c => !Urly.ends c).length
theorem end_split (r : List UInt8) : r.take (endAt r) = (r.takeWhile fun c => !Urly.ends c) ∧ r.drop (endAt r) = (r.dropWhile fun c => !Urly.ends c) ∧ endAt r ≤ r.length := by
  have h := List.takeWhile_append_dropWhile (p := fun c => !Urly.ends c) (l := r)
  refine ⟨?_, ?_, (List.takeWhile_prefix _).length_le⟩
  · have := List.take_left' (l₁ := r.takeWhile fun c => !Urly.ends c) (l₂ := r.dropWhile fun c => !Urly.ends c) (i := endAt r) rfl
    rwa [h] at this
  · have := List.drop_left' (l₁ := r.takeWhile fun c => !Urly.ends c) (l₂ := r.dropWhile fun c => !Urly.ends c) (i := endAt r) rfl
    rwa [h] at this
theorem end_idx (r : List UInt8) : (Lib.indexAny r [47, 63, 35] < 0 → endAt r = r.length) ∧ (¬ Lib.indexAny r [47, 63, 35] < 0 → (endAt r : Int) = Lib.indexAny r [47, 63, 35]) := by
  induction r with
  | nil => exact ⟨fun _ => rfl, fun h => absurd (by decide) h⟩
  | cons b l ih =>
    unfold Lib.indexAny endAt
    have he := ends_eq b
    have hge := Lib.indexAny_ge [47, 63, 35] l
    cases hc : ([47, 63, 35] : List UInt8).contains b with
    | true =>
      rw [hc] at he
      rw [if_pos rfl]
      simp [List.takeWhile, he]
    | false =>
      rw [hc] at he
      rw [if_neg (by simp)]
      simp only [List.takeWhile, he, Bool.not_false, List.length_cons]
      unfold endAt at ih
      by_cases h1 : Lib.indexAny l [47, 63, 35] = -1
      · rw [if_pos (by rw [beq_iff_eq]; exact h1)]
        have := ih.1 (by omega)
        exact ⟨fun _ => by omega, fun h => absurd (by decide) h⟩
      · rw [if_neg (by rw [beq_iff_eq]; exact h1)]
        have := ih.2 (by omega)
        exact ⟨fun h => by omega, fun _ => by omega⟩
section
variable {s sch r1 r2 h : List UInt8} {p : Nat}
theorem parse_large (hl : 500 < s.length) : Urly.parse s = .error 2 := by unfold Urly.parse; rw [if_pos hl]
theorem parse_none (hl : ¬ 500 < s.length) (h1 : Urly.scheme s = none) : Urly.parse s = .error 3 := by unfold Urly.parse; rw [if_neg hl, h1]
theorem parse_two (hl : ¬ 500 < s.length) (h1 : Urly.scheme s = some (sch, r1)) (h2 : Urly.twoOff r1 = none) : Urly.parse s = .error 3 := by unfold Urly.parse; rw [if_neg hl, h1]; simp only; rw [h2]
theorem parse_place (hl : ¬ 500 < s.length) (h1 : Urly.scheme s = some (sch, r1)) (h2 : Urly.twoOff r1 = some r2) (h3 : Urly.place sch (r2.take (endAt r2)) = none) : Urly.parse s = .error 3 := by
  unfold Urly.parse; rw [if_neg hl, h1]; simp only; rw [h2]; simp only; rw [← (end_split r2).1, h3]
theorem parse_rest (hl : ¬ 500 < s.length) (h1 : Urly.scheme s = some (sch, r1)) (h2 : Urly.twoOff r1 = some r2) (h3 : Urly.place sch (r2.take (endAt r2)) = some (h, p)) {t : Urly.Tail} (ht : Urly.tail (r2.drop (endAt r2)) = t) : Urly.parse s = match t.query, t.fragment, Urly.segments (Urly.bare t.path) with
    | some q, some f, some l => .ok ⟨sch, h, p, Urly.tidy l, q, t.asks, f, t.points⟩
    | _, _, _ => .error 3 := by
  subst ht
  unfold Urly.parse; rw [if_neg hl, h1]; simp only; rw [h2]; simp only; rw [← (end_split r2).1, h3]; simp only; rw [← (end_split r2).2.1]; rfl
end
theorem scheme_len {s a r : List UInt8} (h : Urly.scheme s = some (a, r)) : a.length ≤ s.length ∧ r.length ≤ s.length := by
  have go : ∀ (r acc a t : List UInt8), Urly.schemeTail acc r = some (a, t) → a.length ≤ acc.length + r.length ∧ t.length ≤ r.length := by
    intro r
    induction r with
    | nil => intro acc a t h; simp [Urly.schemeTail] at h
    | cons c r ih =>
      intro acc a t h
      unfold Urly.schemeTail at h
      split at h
      · injection h with h; injection h with h1 h2; subst h1; subst h2; simp [Urly.small]
      · split at h
        · have := ih _ _ _ h; simp at this ⊢; omega
        · cases h
  unfold Urly.scheme at h
  cases s with
  | nil => simp at h
  | cons c t =>
    simp only at h
    split at h
    · have := go _ _ _ _ h; simp at this ⊢; omega
    · cases h
theorem two_len {s r : List UInt8} (h : Urly.twoOff s = some r) : r.length ≤ s.length := by
  unfold Urly.twoOff at h
  match s with
  | [] => simp at h
  | [a] => simp at h
  | a :: b :: t =>
    simp only at h
    split at h
    · injection h with h; subst h; simp; omega
    · cases h
theorem bare_len (s : List UInt8) : (Urly.bare s).length ≤ s.length := by
  unfold Urly.bare
  split
  · simp
  · split <;> simp
theorem tail_len (s : List UInt8) : (Urly.tail s).path.length ≤ s.length := by
  rw [tail_form rfl rfl]
  have h1 := cut_len 35 s
  have h2 := cut_len 63 (cutAt 35 s).1
  show (cutAt 63 (cutAt 35 s).1).1.length ≤ _
  omega
theorem seg_pos {s : List UInt8} {l : List (List UInt8)} (h : Urly.segments s = some l) : 0 < l.length := by
  unfold Urly.segments at h
  cases hs : Urly.splitOn 47 s with
  | nil =>
    have := split_len s 47
    rw [hs] at this; simp at this
  | cons p r =>
    rw [hs, Urly.decs] at h
    cases hd : Urly.dec p with
    | none => rw [hd] at h; cases h
    | some d =>
      rw [hd] at h
      simp only at h
      cases hr : Urly.decs r with
      | none => rw [hr] at h; cases h
      | some m => rw [hr] at h; injection h with h; subst h; simp
/-! ### the walk -/
def ucells (u : Urly.U) (v : Value) : Array Value := #[.string (byt u.scheme), .string (byt u.host), .int .i64 (u.port : Int), v, .string (byt u.query), .bool u.asks, .string (byt u.fragment), .bool u.points]
def uzero : Array Value := #[.string ByteArray.empty, .string ByteArray.empty, .int .i64 0, .slice none 0 0, .string ByteArray.empty, .bool false, .string ByteArray.empty, .bool false]
theorem uzero_one : uzero.all (·.oneCell') = true := by simp [uzero, Value.oneCell']
theorem ucells_one (u : Urly.U) (g : Option Addr) (n c : Nat) : (ucells u (.slice g n c)).all (·.oneCell') = true := by simp [ucells, Value.oneCell']
def ParseOut (s : List UInt8) (w : World) (e : Ending) (w' : World) : Prop :=
  (∃ u v, Urly.parse s = .ok u ∧ e = .returned (.tuple #[.agg (ucells u v), .int .i64 0]) ∧ w'.ownsRow w.heap.size 9 1 v u.path.length (txts u.path) ∧ u.path.length ≤ 1000 ∧ Below w.heap.size w w') ∨
  (∃ n : Nat, Urly.parse s = .error n ∧ e = .returned (.tuple #[.agg uzero, .int .i64 (n : Int)]) ∧ Below w.heap.size w w')
theorem parseOut_err {s : List UInt8} {w w' : World} {e : Ending} {n : Nat} (h : Urly.parse s = .error n) (he : e = .returned (.tuple #[.agg uzero, .int .i64 (n : Int)])) (hb : Below w.heap.size w w') : ParseOut s w e w' := .inr ⟨n, h, he, hb⟩
theorem parseOut_ok {s : List UInt8} {w w' : World} {e : Ending} {u : Urly.U} {v : Value} (h : Urly.parse s = .ok u) (he : e = .returned (.tuple #[.agg (ucells u v), .int .i64 0])) (ho : w'.ownsRow w.heap.size 9 1 v u.path.length (txts u.path)) (hl : u.path.length ≤ 1000) (hb : Below w.heap.size w w') : ParseOut s w e w' := .inl ⟨u, v, h, he, ho, hl, hb⟩
theorem box_upd {w w1 : World} {g b : Nat} {t : TypeId} {cs : Array Value} (h : Box w g t cs) (hu : Upd w w1 b) (hne : g ≠ b) : Box w1 g t cs := (hu.block g h.lt (fun e => hne (by injection e))).trans h
theorem info_url : (Tryz.prog.info? 62).map (·.size) = some 8 := by kernel_rfl
theorem cutp_any (s : List UInt8) (w : World) : Calls Tryz.prog 44 #[.string (byt s), .string ⟨#[47, 47]⟩] w fun e w' => e = .returned (.tuple #[.string (byt ((Urly.twoOff s).getD s)), .bool (Urly.twoOff s).isSome]) ∧ w' = w := by
  have h := Tryz.strings_CutPrefix (byt s) ⟨#[47, 47]⟩ w
  have e1 := pre_two s
  rw [byt_data, show (⟨#[47, 47]⟩ : ByteArray).data.toList = [47, 47] from rfl, e1.1, e1.2] at h
  exact h
theorem trimp_any (s : List UInt8) (w : World) : Calls Tryz.prog 49 #[.string (byt s), .string ⟨#[47]⟩] w fun e w' => e = .returned (.string (byt (Urly.bare s))) ∧ w' = w := by
  have h := Tryz.strings_TrimPrefix (byt s) ⟨#[47]⟩ w
  rw [byt_data, show (⟨#[47]⟩ : ByteArray).data.toList = [47] from rfl, pre_bare s] at h
  exact h
set_option maxRecDepth 100000 in
set_option maxHeartbeats 8000000 in
theorem parse_any (s : List UInt8) (w : World) (he : Env w) :
    Calls Tryz.prog 22 #[.string (byt s)] w (ParseOut s w) := by
  have hz := byt_size s
  by_cases hlarge : 500 < s.length
  · have HP := Lib.hid (parse_large hlarge)
    obtain ⟨S, hS⟩ : ∃ S, byt s = S := ⟨_, rfl⟩
    rw [hS] at hz ⊢
    have d1 : decide ((S.size : Int) > 500) = true := decide_eq_true (by omega)
    have d2 : (500 : Int) < (S.size : Int) := by omega
    clear hS hz hlarge
    go_enter Tryz.func22, Tryz.ntmps22
    go_wp2_with (refine wpList_store_box rfl 62 (.tmp 2) (.tmp 17) rfl w.heap.size uzero rfl rfl 62 _ (Box.new w _ _) info_url rfl uzero_one ?_; intro w4 hx4 hu4 hz4)
    refine bodyPost_ret (results_box_tmp rfl _ _ w.heap.size 62 _ _ rfl hx4 Tryz.underlying62 rfl info_url) rfl ?_
    exact parseOut_err HP.out rfl ((below1 _ _).trans (hu4.own (Nat.le_refl _) (by simp)))
  · have HLG := Lib.hid hlarge
    have hs : s.length ≤ 1048576 := by omega
    obtain ⟨sch, r1, k, hsc⟩ : ∃ sch r1 k, SchemeOut s w = (fun e w' => e = .returned (.tuple #[.string (byt sch), .string (byt r1), .bool k]) ∧ Below w.heap.size w w') ∧ (k = true → Urly.scheme s = some (sch, r1)) ∧ (k = false → Urly.scheme s = none) ∧ sch.length ≤ 500 ∧ r1.length ≤ 500 := by
      cases hs1 : Urly.scheme s with
      | none => exact ⟨[], [], false, by funext e w'; unfold SchemeOut; rw [hs1], by simp, fun _ => rfl, by simp, by simp⟩
      | some p =>
        have := scheme_len (a := p.1) (r := p.2) hs1
        exact ⟨p.1, p.2, true, by funext e w'; unfold SchemeOut; rw [hs1], fun _ => rfl, by simp, by omega, by omega⟩
    obtain ⟨hso, hk1, hk0, hls, hlr⟩ := hsc
    have HSC : Hid (∀ w1, Below w.heap.size w w1 → Calls Tryz.prog 43 #[.string (byt s)] w1 (fun e w' => e = .returned (.tuple #[.string (byt sch), .string (byt r1), .bool k]) ∧ Below w1.heap.size w1 w')) := Lib.hid (fun w1 hw1 => (scheme_any s w1 hs (he.below hw1)).mono fun e w' h => by
      have h2 : SchemeOut s w1 e w' := h
      unfold SchemeOut at h2
      cases k with
      | true => rw [hk1 rfl] at h2; exact h2
      | false =>
        rw [hk0 rfl] at h2
        have h3 := congrFun (congrFun hso (.returned (.tuple #[.string (byt []), .string (byt []), .bool false]))) w
        unfold SchemeOut at h3
        rw [hk0 rfl] at h3
        have h4 := h3.mp ⟨rfl, Below.refl _ _⟩
        rw [← h4.1]; exact h2)
    have HK1 := Lib.hid hk1
    have HK0 := Lib.hid hk0
    have HLS := Lib.hid hls
    have HLR := Lib.hid hlr
    have HE := Lib.hid he
    obtain ⟨r2, two, h2s, h2n, hl2, hcp⟩ : ∃ r2 two, (two = true → Urly.twoOff r1 = some r2) ∧ (two = false → Urly.twoOff r1 = none) ∧ r2.length ≤ 500 ∧ (∀ w, Calls Tryz.prog 44 #[.string (byt r1), .string ⟨#[47, 47]⟩] w fun e w' => e = .returned (.tuple #[.string (byt r2), .bool two]) ∧ w' = w) := by
      cases h : Urly.twoOff r1 with
      | none => exact ⟨r1, false, by simp, fun _ => rfl, hlr, fun w => by have := cutp_any r1 w; rwa [h] at this⟩
      | some r2 => exact ⟨r2, true, fun _ => rfl, by simp, by have := two_len h; omega, fun w => by have := cutp_any r1 w; rwa [h] at this⟩
    have H2S := Lib.hid h2s
    have H2N := Lib.hid h2n
    have HCP := Lib.hid hcp
    obtain ⟨S, hS⟩ : ∃ S, byt s = S := ⟨_, rfl⟩
    rw [hS] at hz HSC ⊢
    have d1 : decide ((S.size : Int) > 500) = false := decide_eq_false (by omega)
    have d2 : ¬ (500 : Int) < (S.size : Int) := by omega
    have HR2L := Lib.hid hl2
    obtain ⟨C, hC⟩ : ∃ C, byt sch = C := ⟨_, rfl⟩
    obtain ⟨R1, hR1⟩ : ∃ C, byt r1 = C := ⟨_, rfl⟩
    rw [hC, hR1] at HSC
    rw [hR1] at HCP
    have HC := Lib.hid hC
    clear hS hz hlarge hs hso hk1 hk0 hls hlr he h2s h2n hcp hl2 hC hR1
    go_enter Tryz.func22, Tryz.ntmps22
    go_wp2_with (fail)
    refine (HSC.out _ (((Below.refl _ _).alloc (Nat.le_refl _) _).alloc (by simp) _)).mono ?_
    rintro e w1 ⟨rfl, hw1⟩
    have HR1 : Hid (Box w1 w.heap.size 62 uzero) := Lib.hid (((Box.new w _ _).alloc _).below hw1 (by simp; omega))
    have HU1 : Hid (Box w1 (w.heap.size + 1) 62 uzero) := Lib.hid ((new2 w _ _ _).below hw1 (by simp))
    have HW1 : Hid (Below w.heap.size w w1) := Lib.hid ((((Below.refl _ _).alloc (Nat.le_refl _) _).alloc (by simp) _).trans (hw1.mono (by simp; omega)))
    have y0 : w1.cell? ⟨w.heap.size + 1, 0, none⟩ = some (.string ByteArray.empty) := HU1.out.cell 0
    have z0 : w1.frozen? ⟨w.heap.size + 1, 0, none⟩ = false := HU1.out.frozen 0
    clear hw1 HSC
    go_wp2_with (fail)
    refine (HCP.out _).mono ?_
    rintro e wr ⟨rfl, rfl⟩
    clear HCP
    cases k with
    | false =>
      have HP : Hid (Urly.parse s = .error 3) := Lib.hid (parse_none HLG.out (HK0.out rfl))
      go_wp2_with (refine wpList_store_box rfl 62 (.tmp 2) (.tmp 35) rfl w.heap.size uzero rfl rfl 62 _ HR1.out info_url rfl uzero_one ?_; intro wz hxz huz hzz)
      refine bodyPost_ret (results_box_tmp rfl _ _ w.heap.size 62 _ _ rfl hxz Tryz.underlying62 rfl info_url) rfl ?_
      exact parseOut_err HP.out rfl (HW1.out.trans (huz.own (Nat.le_refl _) HW1.out.size))
    | true =>
      cases two with
      | false =>
        have HP : Hid (Urly.parse s = .error 3) := Lib.hid (parse_two HLG.out (HK1.out rfl) (H2N.out rfl))
        go_wp2_with (refine wpList_store_box rfl 62 (.tmp 2) (.tmp 35) rfl w.heap.size uzero rfl rfl 62 _ HR1.out info_url rfl uzero_one ?_; intro wz hxz huz hzz)
        refine bodyPost_ret (results_box_tmp rfl _ _ w.heap.size 62 _ _ rfl hxz Tryz.underlying62 rfl info_url) rfl ?_
        exact parseOut_err HP.out rfl (HW1.out.trans (huz.own (Nat.le_refl _) HW1.out.size))
      | true =>
        have HPA : Hid (∀ {t : Urly.Tail} {h : List UInt8} {p : Nat}, Urly.place sch (r2.take (endAt r2)) = some (h, p) → Urly.tail (r2.drop (endAt r2)) = t → Urly.parse s = match t.query, t.fragment, Urly.segments (Urly.bare t.path) with
    | some q, some f, some l => .ok ⟨sch, h, p, Urly.tidy l, q, t.asks, f, t.points⟩
    | _, _, _ => .error 3) := Lib.hid (fun h3 ht => parse_rest HLG.out (HK1.out rfl) (H2S.out rfl) h3 ht)
        have HPN : Hid (Urly.place sch (r2.take (endAt r2)) = none → Urly.parse s = .error 3) := Lib.hid (parse_place HLG.out (HK1.out rfl) (H2S.out rfl))
        obtain ⟨N0, hN0⟩ : ∃ N0, Lib.indexAny r2 [47, 63, 35] = N0 := ⟨_, rfl⟩
        have HIA : Hid (∀ w, Calls Tryz.prog 45 #[.string (byt r2), .string ⟨#[47, 63, 35]⟩] w (fun e w' => e = .returned (.int .i64 N0) ∧ Below w.heap.size w w')) := Lib.hid (fun w => by
          have := ia_any r2 (by have := HR2L.out; omega) w
          unfold IAOut at this
          rwa [hN0] at this)
        have hen := end_idx r2
        rw [hN0] at hen
        obtain ⟨n, hn⟩ : ∃ n, endAt r2 = n := ⟨_, rfl⟩
        have hnl := (end_split r2).2.2
        rw [hn] at HPA HPN hen hnl
        have hrz := byt_size r2
        have xt := ext_upto r2 n
        have xd := ext_from r2 n (byt r2).size (by rw [byt_size]; exact Nat.le_refl _)
        have ru := fun w => run_upto r2 (n : Int) (by omega) (by omega) w
        have rf := fun w => run_from r2 (n : Int) (by omega) (by omega) w
        rw [show ((n : Nat) : Int).toNat = n from rfl] at ru rf
        have HL1 : Hid ((r2.take n).length ≤ 500) := Lib.hid (by have := HR2L.out; simp; omega)
        have HL2 : Hid ((r2.drop n).length ≤ 500) := Lib.hid (by have := HR2L.out; simp; omega)
        obtain ⟨ht, hht⟩ : ∃ l, r2.take n = l := ⟨_, rfl⟩
        obtain ⟨tl, htl⟩ : ∃ l, r2.drop n = l := ⟨_, rfl⟩
        rw [hht] at HPA HPN xt HL1 ru
        rw [htl] at HPA xd HL2 rf
        obtain ⟨R2, hR2⟩ : ∃ C, byt r2 = C := ⟨_, rfl⟩
        rw [hR2] at HIA hrz xt xd ru rf
        rw [hR2]
        obtain ⟨HT, hHT⟩ : ∃ C, byt ht = C := ⟨_, rfl⟩
        obtain ⟨TL, hTL⟩ : ∃ C, byt tl = C := ⟨_, rfl⟩
        rw [hHT] at xt ru
        rw [hTL] at xd rf
        rw [← hrz] at hen hnl
        have HHT := Lib.hid hHT
        have HTL := Lib.hid hTL
        have HEN := Lib.hid hen
        clear hN0 hen hn hR2 hht htl hHT hTL hrz HLG HK1 HK0 H2S H2N
        go_wp2_with (fail)
        obtain ⟨w2, hw2⟩ : ∃ w2, wr.setCell ⟨w.heap.size + 1, 0, none⟩ (.string C) = w2 := ⟨_, rfl⟩
        rw [hw2]
        have HR2 : Hid (Box w2 w.heap.size 62 uzero) := Lib.hid (by rw [← hw2]; exact HR1.out.far (by simp) _)
        have HU2 : Hid (Box w2 (w.heap.size + 1) 62 #[.string (byt sch), .string ByteArray.empty, .int .i64 0, .slice none 0 0, .string ByteArray.empty, .bool false, .string ByteArray.empty, .bool false]) := Lib.hid (by rw [← hw2, HC.out]; exact HU1.out.set 0 _)
        have HW2 : Hid (Below w.heap.size w w2) := Lib.hid (by rw [← hw2]; exact HW1.out.setCell (by simp) _)
        clear hw2 y0 z0 HR1 HU1 HW1
        refine (HIA.out _).mono ?_
        rintro e w3 ⟨rfl, hw3⟩
        have HR3 : Hid (Box w3 w.heap.size 62 uzero) := Lib.hid (HR2.out.below hw3 HR2.out.lt)
        have HU3 : Hid (Box w3 (w.heap.size + 1) 62 #[.string (byt sch), .string ByteArray.empty, .int .i64 0, .slice none 0 0, .string ByteArray.empty, .bool false, .string ByteArray.empty, .bool false]) := Lib.hid (HU2.out.below hw3 HU2.out.lt)
        have HW3 : Hid (Below w.heap.size w w3) := Lib.hid (HW2.out.trans (hw3.mono HW2.out.size))
        have HPL : Hid (Calls Tryz.prog 46 #[.pointer (some ⟨w.heap.size + 1, 0, none⟩), .string HT] w3 (PlaceOut (w.heap.size + 1) sch ht (.slice none 0 0) (.string ByteArray.empty) (.bool false) (.string ByteArray.empty) (.bool false) w3)) := Lib.hid (by
          rw [← HHT.out]
          exact place_any sch ht (w.heap.size + 1) _ _ _ _ _ _ w3 HU3.out (by have := HL1.out; omega) (HE.out.below HW3.out) (by have := HE.out.z; omega))
        clear hw3 HR2 HU2 HW2 HIA HU3
        by_cases hneg : N0 < 0
        · have hnn : R2.size = n := by have := HEN.out.1 hneg; omega
          have hni : (R2.size : Int) = (n : Int) := by rw [hnn]
          have d3 : decide (N0 < 0) = true := decide_eq_true hneg
          have xt1 : R2.extract 0 (R2.size) = HT := by rw [hnn]; exact xt
          have xd1 : R2.extract (R2.size) R2.size = TL := by rw [hnn] at xd ⊢; exact xd
          have ru1 : ∀ w, (Instr.slice 9 (.string R2) none (some (.int .i64 (R2.size : Int))) none).run Tryz.prog w = .ok (.string HT) w := fun w => by rw [hni]; exact ru w
          have rf1 : ∀ w, (Instr.slice 9 (.string R2) (some (.int .i64 (R2.size : Int))) none none).run Tryz.prog w = .ok (.string TL) w := fun w => by rw [hni]; exact rf w
          clear xt xd ru rf hnn hni hnl
          go_wp2_with (fail)
          refine HPL.out.mono ?_
          rintro e w4 (⟨h, p, hpl, rfl, hbx, hup⟩ | ⟨hpl, rfl, hup⟩)
          rotate_left
          · have HP := Lib.hid (HPN.out hpl)
            have HR4 : Hid (Box w4 w.heap.size 62 uzero) := Lib.hid (box_upd HR3.out hup (by omega))
            have HW4 : Hid (Below w.heap.size w w4) := Lib.hid (HW3.out.trans (hup.own (by omega) HW3.out.size))
            clear hup hpl
            go_wp2_with (refine wpList_store_box rfl 62 (.tmp 2) (.tmp 49) rfl w.heap.size uzero rfl rfl 62 _ HR4.out info_url rfl uzero_one ?_; intro wz hxz huz hzz)
            refine bodyPost_ret (results_box_tmp rfl _ _ w.heap.size 62 _ _ rfl hxz Tryz.underlying62 rfl info_url) rfl ?_
            exact parseOut_err HP.out rfl (HW4.out.trans (huz.own (Nat.le_refl _) HW4.out.size))
          have HR4 : Hid (Box w4 w.heap.size 62 uzero) := Lib.hid (box_upd HR3.out hup (by omega))
          have HW4 : Hid (Below w.heap.size w w4) := Lib.hid (HW3.out.trans (hup.own (by omega) HW3.out.size))
          have HPR := Lib.hid (HPA.out hpl rfl)
          have HTLC : Hid (Calls Tryz.prog 47 #[.pointer (some ⟨w.heap.size + 1, 0, none⟩), .string TL] w4 (TailOut (w.heap.size + 1) tl (.string (byt sch)) (.string (byt h)) (.int .i64 (p : Int)) (.slice none 0 0) w4)) := Lib.hid (by
            rw [← HTL.out]
            exact tail_any tl (w.heap.size + 1) _ _ _ _ _ _ _ _ w4 hbx (by have := HL2.out; omega))
          clear hup hpl hbx HR3 HW3 HPL HPN HPA
          obtain ⟨t, ht⟩ : ∃ t, Urly.tail tl = t := ⟨_, rfl⟩
          have htp : t.path.length ≤ 500 := by have := tail_len tl; rw [ht] at this; have := HL2.out; omega
          rw [ht] at HPR
          unfold TailOut at HTLC
          rw [ht] at HTLC
          have HTB : Hid (∀ w, Calls Tryz.prog 49 #[.string (byt t.path), .string ⟨#[47]⟩] w fun e w' => e = .returned (.string (byt (Urly.bare t.path))) ∧ w' = w) := Lib.hid (fun w => trimp_any t.path w)
          have HSG : Hid (∀ w1, Below w.heap.size w w1 → Calls Tryz.prog 48 #[.string (byt (Urly.bare t.path))] w1 (SegOut (Urly.bare t.path) w1)) := Lib.hid (fun w1 hw1 => segments_any (Urly.bare t.path) w1 (by have := bare_len t.path; omega) (HE.out.below hw1))
          have HBL : Hid ((Urly.bare t.path).length ≤ 500) := Lib.hid (by have := bare_len t.path; omega)
          obtain ⟨bp, hbp⟩ : ∃ l, Urly.bare t.path = l := ⟨_, rfl⟩
          rw [hbp] at HTB HSG HBL HPR
          obtain ⟨TP, hTP⟩ : ∃ C, byt t.path = C := ⟨_, rfl⟩
          rw [hTP] at HTB HTLC
          obtain ⟨BP, hBP⟩ : ∃ C, byt bp = C := ⟨_, rfl⟩
          rw [hBP] at HTB HSG
          obtain ⟨kk, hkk⟩ : ∃ kk, (t.query.isSome && t.fragment.isSome) = kk := ⟨_, rfl⟩
          rw [hkk] at HTLC
          have HKK := Lib.hid hkk
          clear ht htp hbp hTP hBP hkk
          go_wp2_with (fail)
          refine HTLC.out.mono ?_
          rintro e w5 ⟨rfl, hbx5, hup5⟩
          have HR5 : Hid (Box w5 w.heap.size 62 uzero) := Lib.hid (box_upd HR4.out hup5 (by omega))
          have HW5 : Hid (Below w.heap.size w w5) := Lib.hid (HW4.out.trans (hup5.own (by omega) HW4.out.size))
          have HU5 := Lib.hid hbx5
          clear hup5 hbx5 HR4 HW4 HTLC
          go_wp2_with (fail)
          refine (HTB.out _).mono ?_
          rintro e wr ⟨rfl, rfl⟩
          go_wp2_with (fail)
          refine (HSG.out _ HW5.out).mono ?_
          rintro e w6 (⟨l, v, hseg, rfl, hown, hlen, hb6⟩ | ⟨hseg, rfl, hb6⟩)
          rotate_left
          · have HP : Hid (Urly.parse s = .error 3) := Lib.hid (by
              rw [HPR.out, hseg]
              cases t.query <;> cases t.fragment <;> rfl)
            have HR6 : Hid (Box w6 w.heap.size 62 uzero) := Lib.hid (HR5.out.below hb6 HR5.out.lt)
            have HW6 : Hid (Below w.heap.size w w6) := Lib.hid (HW5.out.trans (hb6.mono HW5.out.size))
            clear hb6 hseg
            cases kk with
            | false =>
              go_wp2_with (refine wpList_store_box rfl 62 (.tmp 2) (.tmp 69) rfl w.heap.size uzero rfl rfl 62 _ HR6.out info_url rfl uzero_one ?_; intro wz hxz huz hzz)
              refine bodyPost_ret (results_box_tmp rfl _ _ w.heap.size 62 _ _ rfl hxz Tryz.underlying62 rfl info_url) rfl ?_
              exact parseOut_err HP.out rfl (HW6.out.trans (huz.own (Nat.le_refl _) HW6.out.size))
            | true =>
              go_wp2_with (refine wpList_store_box rfl 62 (.tmp 2) (.tmp 69) rfl w.heap.size uzero rfl rfl 62 _ HR6.out info_url rfl uzero_one ?_; intro wz hxz huz hzz)
              refine bodyPost_ret (results_box_tmp rfl _ _ w.heap.size 62 _ _ rfl hxz Tryz.underlying62 rfl info_url) rfl ?_
              exact parseOut_err HP.out rfl (HW6.out.trans (huz.own (Nat.le_refl _) HW6.out.size))
          have HR6 : Hid (Box w6 w.heap.size 62 uzero) := Lib.hid (HR5.out.below hb6 HR5.out.lt)
          have HW6 : Hid (Below w.heap.size w w6) := Lib.hid (HW5.out.trans (hb6.mono HW5.out.size))
          have HU6 : Hid (Box w6 (w.heap.size + 1) 62 (tcells (.string (byt sch)) (.string (byt h)) (.int .i64 (p : Int)) (.slice none 0 0) t)) := Lib.hid (HU5.out.below hb6 HU5.out.lt)
          have HPOS : Hid (0 < l.length) := Lib.hid (seg_pos hseg)
          rw [hseg] at HPR
          have HO6 := Lib.hid hown
          have HLN := Lib.hid hlen
          clear hb6 hseg hown hlen HR5 HW5 HU5
          cases kk with
          | false =>
            have HP : Hid (Urly.parse s = .error 3) := Lib.hid (by
              rw [HPR.out]
              have hkk := HKK.out
              cases hq : t.query with
              | none => rfl
              | some q => cases hf : t.fragment with
                | none => rfl
                | some f => rw [hq, hf] at hkk; exact absurd hkk (by simp))
            go_wp2_with (refine wpList_store_box rfl 62 (.tmp 2) (.tmp 69) rfl w.heap.size uzero rfl rfl 62 _ HR6.out info_url rfl uzero_one ?_; intro wz hxz huz hzz)
            refine bodyPost_ret (results_box_tmp rfl _ _ w.heap.size 62 _ _ rfl hxz Tryz.underlying62 rfl info_url) rfl ?_
            exact parseOut_err HP.out rfl (HW6.out.trans (huz.own (Nat.le_refl _) HW6.out.size))
          | true =>
            obtain ⟨q, f, hqf⟩ : ∃ q f, t.query = some q ∧ t.fragment = some f := by
              have hkk := HKK.out
              cases hq : t.query with
              | none => rw [hq] at hkk; exact absurd hkk (by simp)
              | some q => cases hf : t.fragment with
                | none => rw [hq, hf] at hkk; exact absurd hkk (by simp)
                | some f => exact ⟨q, f, rfl, rfl⟩
            have HP : Hid (Urly.parse s = .ok ⟨sch, h, p, Urly.tidy l, q, t.asks, f, t.points⟩) := Lib.hid (by rw [HPR.out, hqf.1, hqf.2])
            unfold tcells at HU6
            rw [hqf.1, hqf.2] at HU6
            have HTD : Hid (Calls Tryz.prog 50 #[v] w6 (TidyOut l w6)) := Lib.hid (tidy_any l v w6 (Rd.own HO6.out) HPOS.out (by have := HLN.out; have := HBL.out; omega))
            clear HPR HKK hqf
            go_wp2_with (fail)
            refine HTD.out.mono ?_
            rintro e w7 ⟨v2, rfl, hown2, hlen2, hb7⟩
            obtain ⟨A2, cap2, rfl⟩ := own_slice hown2
            have HR7 : Hid (Box w7 w.heap.size 62 uzero) := Lib.hid (HR6.out.below hb7 HR6.out.lt)
            have HU7 : Hid (Box w7 (w.heap.size + 1) 62 #[.string (byt sch), .string (byt h), .int .i64 (p : Int), .slice none 0 0, .string (byt q), .bool t.asks, .string (byt f), .bool t.points]) := Lib.hid (HU6.out.below hb7 HU6.out.lt)
            have HW7 : Hid (Below w.heap.size w w7) := Lib.hid (HW6.out.trans (hb7.mono HW6.out.size))
            have hlt6 := HU6.out.lt
            have hsz6 := HW6.out.size
            have HO7 := Lib.hid hown2
            have HL7 : Hid ((Urly.tidy l).length ≤ 1000) := Lib.hid (by have := HLN.out; have := HBL.out; omega)
            have y3 : w7.cell? ⟨w.heap.size + 1, 3, none⟩ = some (.slice none 0 0) := HU7.out.cell 3
            have z3 : w7.frozen? ⟨w.heap.size + 1, 3, none⟩ = false := HU7.out.frozen 3
            have bu : Box (w7.setCell ⟨w.heap.size + 1, 3, none⟩ (.slice A2 (Urly.tidy l).length cap2)) (w.heap.size + 1) 62 (ucells ⟨sch, h, p, Urly.tidy l, q, t.asks, f, t.points⟩ (.slice A2 (Urly.tidy l).length cap2)) := HU7.out.set 3 _
            have br : Box (w7.setCell ⟨w.heap.size + 1, 3, none⟩ (.slice A2 (Urly.tidy l).length cap2)) w.heap.size 62 uzero := HR7.out.far (by simp) _
            have HU := Lib.hid bu
            have HRR := Lib.hid br
            obtain ⟨n2, hn2⟩ : ∃ n2, (Urly.tidy l).length = n2 := ⟨_, rfl⟩
            rw [hn2] at HU HRR
            rw [hn2]
            have HN2 := Lib.hid hn2
            clear hown2 hlen2 hb7 HTD HR6 HW6 HU6 HR7 HU7 bu br hn2
            go_wp2_with (first | (refine wpList_load_row rfl 62 (.tmp 4) rfl (w.heap.size + 1) rfl _ (ucells ⟨sch, h, p, Urly.tidy l, q, t.asks, f, t.points⟩ (.slice A2 n2 cap2)) (0, 0) _ HU.out Tryz.underlying62 rfl info_url ?_) | (refine wpList_store_box rfl 62 (.tmp 2) (.tmp 73) rfl w.heap.size (ucells ⟨sch, h, p, Urly.tidy l, q, t.asks, f, t.points⟩ (.slice A2 n2 cap2)) rfl rfl 62 _ HRR.out info_url rfl (ucells_one _ _ _ _) ?_; intro wz hxz huz hzz))
            refine bodyPost_ret (results_box_tmp rfl _ _ w.heap.size 62 _ _ rfl hxz Tryz.underlying62 rfl info_url) rfl ?_
            have hn2 := HN2.out
            subst hn2
            refine parseOut_ok HP.out rfl (own_base (own_far (ownsRow_setCell_below HO7.out (by show w.heap.size + 1 < w6.heap.size; exact hlt6) _) huz (by omega)) hsz6) HL7.out ((HW7.out.setCell (by simp) _).trans (huz.own (Nat.le_refl _) ?_))
            have := HW7.out.size
            simpa using this
        · have hni : N0 = (n : Int) := (HEN.out.2 (by omega)).symm
          have hnn : N0.toNat = n := by omega
          have d3 : decide (N0 < 0) = false := decide_eq_false hneg
          have d4 : (0 : Int) ≤ N0 := by omega
          have d5 : N0 ≤ (R2.size : Int) := by omega
          have xt1 : R2.extract 0 (N0.toNat) = HT := by rw [hnn]; exact xt
          have xd1 : R2.extract (N0.toNat) R2.size = TL := by rw [hnn]; exact xd
          have ru1 : ∀ w, (Instr.slice 9 (.string R2) none (some (.int .i64 N0)) none).run Tryz.prog w = .ok (.string HT) w := fun w => by rw [hni]; exact ru w
          have rf1 : ∀ w, (Instr.slice 9 (.string R2) (some (.int .i64 N0)) none none).run Tryz.prog w = .ok (.string TL) w := fun w => by rw [hni]; exact rf w
          clear xt xd ru rf hnn hni hnl
          go_wp2_with (fail)
          refine HPL.out.mono ?_
          rintro e w4 (⟨h, p, hpl, rfl, hbx, hup⟩ | ⟨hpl, rfl, hup⟩)
          rotate_left
          · have HP := Lib.hid (HPN.out hpl)
            have HR4 : Hid (Box w4 w.heap.size 62 uzero) := Lib.hid (box_upd HR3.out hup (by omega))
            have HW4 : Hid (Below w.heap.size w w4) := Lib.hid (HW3.out.trans (hup.own (by omega) HW3.out.size))
            clear hup hpl
            go_wp2_with (refine wpList_store_box rfl 62 (.tmp 2) (.tmp 49) rfl w.heap.size uzero rfl rfl 62 _ HR4.out info_url rfl uzero_one ?_; intro wz hxz huz hzz)
            refine bodyPost_ret (results_box_tmp rfl _ _ w.heap.size 62 _ _ rfl hxz Tryz.underlying62 rfl info_url) rfl ?_
            exact parseOut_err HP.out rfl (HW4.out.trans (huz.own (Nat.le_refl _) HW4.out.size))
          have HR4 : Hid (Box w4 w.heap.size 62 uzero) := Lib.hid (box_upd HR3.out hup (by omega))
          have HW4 : Hid (Below w.heap.size w w4) := Lib.hid (HW3.out.trans (hup.own (by omega) HW3.out.size))
          have HPR := Lib.hid (HPA.out hpl rfl)
          have HTLC : Hid (Calls Tryz.prog 47 #[.pointer (some ⟨w.heap.size + 1, 0, none⟩), .string TL] w4 (TailOut (w.heap.size + 1) tl (.string (byt sch)) (.string (byt h)) (.int .i64 (p : Int)) (.slice none 0 0) w4)) := Lib.hid (by
            rw [← HTL.out]
            exact tail_any tl (w.heap.size + 1) _ _ _ _ _ _ _ _ w4 hbx (by have := HL2.out; omega))
          clear hup hpl hbx HR3 HW3 HPL HPN HPA
          obtain ⟨t, ht⟩ : ∃ t, Urly.tail tl = t := ⟨_, rfl⟩
          have htp : t.path.length ≤ 500 := by have := tail_len tl; rw [ht] at this; have := HL2.out; omega
          rw [ht] at HPR
          unfold TailOut at HTLC
          rw [ht] at HTLC
          have HTB : Hid (∀ w, Calls Tryz.prog 49 #[.string (byt t.path), .string ⟨#[47]⟩] w fun e w' => e = .returned (.string (byt (Urly.bare t.path))) ∧ w' = w) := Lib.hid (fun w => trimp_any t.path w)
          have HSG : Hid (∀ w1, Below w.heap.size w w1 → Calls Tryz.prog 48 #[.string (byt (Urly.bare t.path))] w1 (SegOut (Urly.bare t.path) w1)) := Lib.hid (fun w1 hw1 => segments_any (Urly.bare t.path) w1 (by have := bare_len t.path; omega) (HE.out.below hw1))
          have HBL : Hid ((Urly.bare t.path).length ≤ 500) := Lib.hid (by have := bare_len t.path; omega)
          obtain ⟨bp, hbp⟩ : ∃ l, Urly.bare t.path = l := ⟨_, rfl⟩
          rw [hbp] at HTB HSG HBL HPR
          obtain ⟨TP, hTP⟩ : ∃ C, byt t.path = C := ⟨_, rfl⟩
          rw [hTP] at HTB HTLC
          obtain ⟨BP, hBP⟩ : ∃ C, byt bp = C := ⟨_, rfl⟩
          rw [hBP] at HTB HSG
          obtain ⟨kk, hkk⟩ : ∃ kk, (t.query.isSome && t.fragment.isSome) = kk := ⟨_, rfl⟩
          rw [hkk] at HTLC
          have HKK := Lib.hid hkk
          clear ht htp hbp hTP hBP hkk
          go_wp2_with (fail)
          refine HTLC.out.mono ?_
          rintro e w5 ⟨rfl, hbx5, hup5⟩
          have HR5 : Hid (Box w5 w.heap.size 62 uzero) := Lib.hid (box_upd HR4.out hup5 (by omega))
          have HW5 : Hid (Below w.heap.size w w5) := Lib.hid (HW4.out.trans (hup5.own (by omega) HW4.out.size))
          have HU5 := Lib.hid hbx5
          clear hup5 hbx5 HR4 HW4 HTLC
          go_wp2_with (fail)
          refine (HTB.out _).mono ?_
          rintro e wr ⟨rfl, rfl⟩
          go_wp2_with (fail)
          refine (HSG.out _ HW5.out).mono ?_
          rintro e w6 (⟨l, v, hseg, rfl, hown, hlen, hb6⟩ | ⟨hseg, rfl, hb6⟩)
          rotate_left
          · have HP : Hid (Urly.parse s = .error 3) := Lib.hid (by
              rw [HPR.out, hseg]
              cases t.query <;> cases t.fragment <;> rfl)
            have HR6 : Hid (Box w6 w.heap.size 62 uzero) := Lib.hid (HR5.out.below hb6 HR5.out.lt)
            have HW6 : Hid (Below w.heap.size w w6) := Lib.hid (HW5.out.trans (hb6.mono HW5.out.size))
            clear hb6 hseg
            cases kk with
            | false =>
              go_wp2_with (refine wpList_store_box rfl 62 (.tmp 2) (.tmp 69) rfl w.heap.size uzero rfl rfl 62 _ HR6.out info_url rfl uzero_one ?_; intro wz hxz huz hzz)
              refine bodyPost_ret (results_box_tmp rfl _ _ w.heap.size 62 _ _ rfl hxz Tryz.underlying62 rfl info_url) rfl ?_
              exact parseOut_err HP.out rfl (HW6.out.trans (huz.own (Nat.le_refl _) HW6.out.size))
            | true =>
              go_wp2_with (refine wpList_store_box rfl 62 (.tmp 2) (.tmp 69) rfl w.heap.size uzero rfl rfl 62 _ HR6.out info_url rfl uzero_one ?_; intro wz hxz huz hzz)
              refine bodyPost_ret (results_box_tmp rfl _ _ w.heap.size 62 _ _ rfl hxz Tryz.underlying62 rfl info_url) rfl ?_
              exact parseOut_err HP.out rfl (HW6.out.trans (huz.own (Nat.le_refl _) HW6.out.size))
          have HR6 : Hid (Box w6 w.heap.size 62 uzero) := Lib.hid (HR5.out.below hb6 HR5.out.lt)
          have HW6 : Hid (Below w.heap.size w w6) := Lib.hid (HW5.out.trans (hb6.mono HW5.out.size))
          have HU6 : Hid (Box w6 (w.heap.size + 1) 62 (tcells (.string (byt sch)) (.string (byt h)) (.int .i64 (p : Int)) (.slice none 0 0) t)) := Lib.hid (HU5.out.below hb6 HU5.out.lt)
          have HPOS : Hid (0 < l.length) := Lib.hid (seg_pos hseg)
          rw [hseg] at HPR
          have HO6 := Lib.hid hown
          have HLN := Lib.hid hlen
          clear hb6 hseg hown hlen HR5 HW5 HU5
          cases kk with
          | false =>
            have HP : Hid (Urly.parse s = .error 3) := Lib.hid (by
              rw [HPR.out]
              have hkk := HKK.out
              cases hq : t.query with
              | none => rfl
              | some q => cases hf : t.fragment with
                | none => rfl
                | some f => rw [hq, hf] at hkk; exact absurd hkk (by simp))
            go_wp2_with (refine wpList_store_box rfl 62 (.tmp 2) (.tmp 69) rfl w.heap.size uzero rfl rfl 62 _ HR6.out info_url rfl uzero_one ?_; intro wz hxz huz hzz)
            refine bodyPost_ret (results_box_tmp rfl _ _ w.heap.size 62 _ _ rfl hxz Tryz.underlying62 rfl info_url) rfl ?_
            exact parseOut_err HP.out rfl (HW6.out.trans (huz.own (Nat.le_refl _) HW6.out.size))
          | true =>
            obtain ⟨q, f, hqf⟩ : ∃ q f, t.query = some q ∧ t.fragment = some f := by
              have hkk := HKK.out
              cases hq : t.query with
              | none => rw [hq] at hkk; exact absurd hkk (by simp)
              | some q => cases hf : t.fragment with
                | none => rw [hq, hf] at hkk; exact absurd hkk (by simp)
                | some f => exact ⟨q, f, rfl, rfl⟩
            have HP : Hid (Urly.parse s = .ok ⟨sch, h, p, Urly.tidy l, q, t.asks, f, t.points⟩) := Lib.hid (by rw [HPR.out, hqf.1, hqf.2])
            unfold tcells at HU6
            rw [hqf.1, hqf.2] at HU6
            have HTD : Hid (Calls Tryz.prog 50 #[v] w6 (TidyOut l w6)) := Lib.hid (tidy_any l v w6 (Rd.own HO6.out) HPOS.out (by have := HLN.out; have := HBL.out; omega))
            clear HPR HKK hqf
            go_wp2_with (fail)
            refine HTD.out.mono ?_
            rintro e w7 ⟨v2, rfl, hown2, hlen2, hb7⟩
            obtain ⟨A2, cap2, rfl⟩ := own_slice hown2
            have HR7 : Hid (Box w7 w.heap.size 62 uzero) := Lib.hid (HR6.out.below hb7 HR6.out.lt)
            have HU7 : Hid (Box w7 (w.heap.size + 1) 62 #[.string (byt sch), .string (byt h), .int .i64 (p : Int), .slice none 0 0, .string (byt q), .bool t.asks, .string (byt f), .bool t.points]) := Lib.hid (HU6.out.below hb7 HU6.out.lt)
            have HW7 : Hid (Below w.heap.size w w7) := Lib.hid (HW6.out.trans (hb7.mono HW6.out.size))
            have hlt6 := HU6.out.lt
            have hsz6 := HW6.out.size
            have HO7 := Lib.hid hown2
            have HL7 : Hid ((Urly.tidy l).length ≤ 1000) := Lib.hid (by have := HLN.out; have := HBL.out; omega)
            have y3 : w7.cell? ⟨w.heap.size + 1, 3, none⟩ = some (.slice none 0 0) := HU7.out.cell 3
            have z3 : w7.frozen? ⟨w.heap.size + 1, 3, none⟩ = false := HU7.out.frozen 3
            have bu : Box (w7.setCell ⟨w.heap.size + 1, 3, none⟩ (.slice A2 (Urly.tidy l).length cap2)) (w.heap.size + 1) 62 (ucells ⟨sch, h, p, Urly.tidy l, q, t.asks, f, t.points⟩ (.slice A2 (Urly.tidy l).length cap2)) := HU7.out.set 3 _
            have br : Box (w7.setCell ⟨w.heap.size + 1, 3, none⟩ (.slice A2 (Urly.tidy l).length cap2)) w.heap.size 62 uzero := HR7.out.far (by simp) _
            have HU := Lib.hid bu
            have HRR := Lib.hid br
            obtain ⟨n2, hn2⟩ : ∃ n2, (Urly.tidy l).length = n2 := ⟨_, rfl⟩
            rw [hn2] at HU HRR
            rw [hn2]
            have HN2 := Lib.hid hn2
            clear hown2 hlen2 hb7 HTD HR6 HW6 HU6 HR7 HU7 bu br hn2
            go_wp2_with (first | (refine wpList_load_row rfl 62 (.tmp 4) rfl (w.heap.size + 1) rfl _ (ucells ⟨sch, h, p, Urly.tidy l, q, t.asks, f, t.points⟩ (.slice A2 n2 cap2)) (0, 0) _ HU.out Tryz.underlying62 rfl info_url ?_) | (refine wpList_store_box rfl 62 (.tmp 2) (.tmp 73) rfl w.heap.size (ucells ⟨sch, h, p, Urly.tidy l, q, t.asks, f, t.points⟩ (.slice A2 n2 cap2)) rfl rfl 62 _ HRR.out info_url rfl (ucells_one _ _ _ _) ?_; intro wz hxz huz hzz))
            refine bodyPost_ret (results_box_tmp rfl _ _ w.heap.size 62 _ _ rfl hxz Tryz.underlying62 rfl info_url) rfl ?_
            have hn2 := HN2.out
            subst hn2
            refine parseOut_ok HP.out rfl (own_base (own_far (ownsRow_setCell_below HO7.out (by show w.heap.size + 1 < w6.heap.size; exact hlt6) _) huz (by omega)) hsz6) HL7.out ((HW7.out.setCell (by simp) _).trans (huz.own (Nat.le_refl _) ?_))
            have := HW7.out.size
            simpa using this
end Go.Proofs.YtdolmjeiakdfhaaGreatDoor
