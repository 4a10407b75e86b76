/-
  What a text without a scheme and a host tells, beside an address. Conditions: the library's variables hold what they hold; the address is short, its path lies in memory, one segment at least; the text is no longer than 500 bytes.
-/
import Derived.Test.YtlepbooegofoeaaGreatDoorUsC
namespace Go.Proofs.YtlepbooegofoeaaGreatDoor
set_option linter.unusedSimpArgs false
set_option linter.unusedVariables false
open Go.RowKit

theorem pre_one (s : List UInt8) : Lib.hasPrefix s [47] = decide (s.head? = some 47) := by
  unfold Lib.hasPrefix
  match s with
  | [] => rfl
  | a :: r =>
    by_cases h1 : a = 47
    · subst h1; simp [List.isPrefixOf]
    · have : ¬ (47 : UInt8) = a := fun e => h1 e.symm
      simp [List.isPrefixOf, h1, this]
theorem cutone_any (s : List UInt8) (w : World) : Calls Tryz.prog 53 #[.string (byt s), .string ⟨#[47]⟩] w fun e w' => e = .returned (.tuple #[.string (byt (Urly.bare s)), .bool (decide (s.head? = some 47))]) ∧ w' = w := by
  have h := Tryz.strings_CutPrefix (byt s) ⟨#[47]⟩ w
  rw [byt_data, show (⟨#[47]⟩ : ByteArray).data.toList = [47] from rfl, pre_one, pre_bare] at h
  exact h
/-- a value's block is that of another one, or a new one. -/
def Far (v v0 : Value) (B : Nat) : Prop := ∀ x, v.ownBlock = some x → v0.ownBlock = some x ∨ B ≤ x
theorem far_own {w : World} {base B : Nat} {e : TypeId} {k n : Nat} {v v0 : Value} {xs : List Value} (h : w.ownsRow base e k v n xs) (hb : B ≤ base) : Far v v0 B := fun x hx => .inr (by have := (h.lt x hx).1; omega)
def BesideOut (b : Urly.U) (v0 : Value) (r : List UInt8) (w : World) (e : Ending) (w' : World) : Prop :=
  (∃ u v, Urly.beside b r = .ok u ∧ e = .returned (.tuple #[.agg (ucells u v), .int .i64 0]) ∧ Rd w' 1 (txts u.path) u.path.length v ∧ Far v v0 w.heap.size ∧ Below w.heap.size w w') ∨
  (∃ n : Nat, Urly.beside b r = .error n ∧ n ≠ 0 ∧ e = .returned (.tuple #[.agg uzero, .int .i64 (n : Int)]) ∧ Below w.heap.size w w')
theorem besideOut_err {b : Urly.U} {v0 : Value} {r : List UInt8} {w w' : World} {e : Ending} (h : Urly.beside b r = .error 3) (he : e = .returned (.tuple #[.agg uzero, .int .i64 3])) (hb : Below w.heap.size w w') : BesideOut b v0 r w e w' := .inr ⟨3, h, by omega, he, hb⟩
theorem besideOut_ok {b : Urly.U} {v0 : Value} {r : List UInt8} {w w' : World} {e : Ending} {u : Urly.U} {v : Value} (h : Urly.beside b r = .ok u) (he : e = .returned (.tuple #[.agg (ucells u v), .int .i64 0])) (ho : Rd w' 1 (txts u.path) u.path.length v) (hf : Far v v0 w.heap.size) (hb : Below w.heap.size w w') : BesideOut b v0 r w e w' := .inl ⟨u, v, h, he, ho, hf, hb⟩
theorem rd_len {w : World} {k n m : Nat} {xs : List Value} {v : Value} (h : m = n) (hr : Rd w k xs n v) : Rd w k xs m v := h ▸ hr
theorem adr_at (g o j : Nat) : Addr.add ⟨g, o, none⟩ j = ⟨g, o + j, none⟩ := by
  unfold Addr.add
  by_cases h0 : j = 0
  · subst h0; simp
  · simp [h0]
theorem new3b (w : World) (a c : Array Value) (t : TypeId) (o : Obj) : Box (((w.alloc o).alloc (.cells a t)).alloc (.cells c t)) (w.heap.size + 1) t a := (new2 w _ _ _).alloc _
section
variable {b : Urly.U} {r : List UInt8}
theorem bes_no {t : Urly.Tail} (ht : Urly.tail r = t) (h : (t.query.isSome && t.fragment.isSome) = false ∨ Urly.segments (Urly.bare t.path) = none) : Urly.beside b r = .error 3 := by
  subst ht
  unfold Urly.beside
  simp only
  rcases h with h | h
  · cases hq : (Urly.tail r).query with
    | none => rfl
    | some q => cases hf : (Urly.tail r).fragment with
      | none => rfl
      | some f => rw [hq, hf] at h; exact absurd h (by simp)
  · rw [h]
    cases hq : (Urly.tail r).query <;> cases hf : (Urly.tail r).fragment <;> rfl
theorem bes_here {t : Urly.Tail} {q f : List UInt8} {l : List (List UInt8)} (ht : Urly.tail r = t) (hq : t.query = some q) (hf : t.fragment = some f) (hl : Urly.segments (Urly.bare t.path) = some l) (h : t.path = []) : Urly.beside b r = .ok ⟨b.scheme, b.host, b.port, b.path, if t.asks then q else b.query, t.asks || b.asks, f, t.points⟩ := by
  subst ht
  unfold Urly.beside
  simp only
  rw [hq, hf, hl]
  simp only
  rw [if_pos h]
theorem bes_there {t : Urly.Tail} {q f : List UInt8} {l m : List (List UInt8)} (ht : Urly.tail r = t) (hq : t.query = some q) (hf : t.fragment = some f) (hl : Urly.segments (Urly.bare t.path) = some l) (h : t.path ≠ []) (hm : (if t.path.head? = some 47 then l else b.path.dropLast ++ l) = m) : Urly.beside b r = .ok ⟨b.scheme, b.host, b.port, Urly.tidy m, q, t.asks, f, t.points⟩ := by
  subst ht
  subst hm
  unfold Urly.beside
  simp only
  rw [hq, hf, hl]
  simp only
  rw [if_neg h]
end
set_option maxRecDepth 100000 in
set_option maxHeartbeats 8000000 in
theorem beside_any (b : Urly.U) (v : Value) (r : List UInt8) (w : World) (hbs : Urly.Sz b) (hbp : b.path ≠ []) (hbl : b.path.length ≤ 502) (he : Env w) (hv : Rd w 1 (txts b.path) b.path.length v) (hr : r.length ≤ 500) :
    Calls Tryz.prog 46 #[.agg (ucells b v), .string (byt r)] w (BesideOut b v r w) := by
  have HE := Lib.hid he
  have h6 := he.z
  have HV := Lib.hid hv
  obtain ⟨A, cap, rfl, hc1, hc2, hc3⟩ := hv
  obtain ⟨g, off, rfl, hg, hcells⟩ := hc3 (List.length_pos_iff.2 hbp)
  have HCE := Lib.hid hcells
  obtain ⟨t, ht⟩ : ∃ t, Urly.tail r = t := ⟨_, rfl⟩
  have htl := (Urly.tail_size r).1
  rw [ht] at htl
  have htp : t.path.length ≤ 500 := by omega
  have HTL : Hid (∀ (c0 c1 c2 c3 c4 c5 c6 c7 : Value) (w1 : World), Box w1 (w.heap.size + 1 + 1) 47 #[c0, c1, c2, c3, c4, c5, c6, c7] → Calls Tryz.prog 56 #[.pointer (some ⟨w.heap.size + 1 + 1, 0, none⟩), .string (byt r)] w1 (fun e w' => e = .returned (.tuple #[.string (byt t.path), .bool (t.query.isSome && t.fragment.isSome)]) ∧ Box w' (w.heap.size + 1 + 1) 47 (tcells c0 c1 c2 c3 t) ∧ Upd w1 w' (w.heap.size + 1 + 1))) := Lib.hid (fun c0 c1 c2 c3 c4 c5 c6 c7 w1 h1 => by
    have := tail_any r (w.heap.size + 1 + 1) c0 c1 c2 c3 c4 c5 c6 c7 w1 h1 (by omega)
    unfold TailOut at this
    rwa [ht] at this)
  have HCP : Hid (∀ w, Calls Tryz.prog 53 #[.string (byt t.path), .string ⟨#[47]⟩] w fun e w' => e = .returned (.tuple #[.string (byt (Urly.bare t.path)), .bool (decide (t.path.head? = some 47))]) ∧ w' = w) := Lib.hid (fun w => cutone_any t.path w)
  have HSG : Hid (∀ w1, Below w.heap.size w w1 → Calls Tryz.prog 57 #[.string (byt (Urly.bare t.path))] w1 (SegOut (Urly.bare t.path) w1)) := Lib.hid (fun w1 hw1 => segments_any (Urly.bare t.path) w1 (by have := bare_len t.path; omega) (HE.out.below hw1))
  have HBL : Hid ((Urly.bare t.path).length ≤ 500) := Lib.hid (by have := bare_len t.path; omega)
  have HTT := Lib.hid ht
  have htz := byt_list t.path
  obtain ⟨kk, hkk⟩ : ∃ kk, (t.query.isSome && t.fragment.isSome) = kk := ⟨_, rfl⟩
  rw [hkk] at HTL
  have HKK := Lib.hid hkk
  obtain ⟨root, hroot⟩ : ∃ k, decide (t.path.head? = some 47) = k := ⟨_, rfl⟩
  rw [hroot] at HCP
  have HRT := Lib.hid hroot
  obtain ⟨bp, hbp2⟩ : ∃ l, Urly.bare t.path = l := ⟨_, rfl⟩
  rw [hbp2] at HCP HSG HBL
  have HBP := Lib.hid hbp2
  obtain ⟨BP, hBP⟩ : ∃ C, byt bp = C := ⟨_, rfl⟩
  rw [hBP] at HCP HSG
  obtain ⟨TP, hTP⟩ : ∃ C, byt t.path = C := ⟨_, rfl⟩
  rw [hTP] at HCP HTL htz
  obtain ⟨RR, hRR⟩ : ∃ C, byt r = C := ⟨_, rfl⟩
  rw [hRR] at HTL ⊢
  have HTZ := Lib.hid htz
  obtain ⟨n, hn⟩ : ∃ n, b.path.length = n := ⟨_, rfl⟩
  rw [hn] at hc1 hbl HV
  have HN := Lib.hid hn
  have hpos : 0 < n := by rw [← hn]; exact List.length_pos_iff.2 hbp
  have HB := Lib.hid (Box.new w 47 (ucells b (.slice (some ⟨g, off, none⟩) b.path.length cap)))
  have HW0 : Hid (Below w.heap.size w (w.alloc (.cells (ucells b (.slice (some ⟨g, off, none⟩) b.path.length cap)) 47))) := Lib.hid (below1 w _)
  obtain ⟨c0, c1, c2, c3, c4, c5, c6, c7⟩ := cells8 HB.out
  rw [hn] at c3 HB HW0 c0 c1 c2 c4 c5 ⊢
  obtain ⟨cs, hcs⟩ : ∃ cs, ucells b (.slice (some ⟨g, off, none⟩) n cap) = cs := ⟨_, rfl⟩
  rw [hcs] at c3 HB HW0 c0 c1 c2 c4 c5 ⊢
  have HCS := Lib.hid hcs
  have k0 : cs[0]? = some (.string (byt b.scheme)) := by rw [← hcs]; rfl
  have k1 : cs[1]? = some (.string (byt b.host)) := by rw [← hcs]; rfl
  have k2 : cs[2]? = some (.int .i64 (b.port : Int)) := by rw [← hcs]; rfl
  have k3 : cs[3]? = some (.slice (some ⟨g, off, none⟩) n cap) := by rw [← hcs]; rfl
  have k4 : cs[4]? = some (.string (byt b.query)) := by rw [← hcs]; rfl
  have k5 : cs[5]? = some (.bool b.asks) := by rw [← hcs]; rfl
  have HKS := Lib.hid (And.intro k3 (And.intro k4 k5))
  have HBS := Lib.hid hbs
  clear ht htl htp hkk hroot hbp2 hBP hTP hRR htz hn hcs hcells hc3 hbs hbp he hr c6 c7 k3 k4 k5
  go_enter Tryz.func46, Tryz.ntmps46
  go_wp2_with (refine wpList_store_box rfl 47 (.tmp 6) (.tmp 19) rfl (w.heap.size + 1 + 1) #[.string (byt b.scheme), .string (byt b.host), .int .i64 (b.port : Int), .slice none 0 0, .string ByteArray.empty, .bool false, .string ByteArray.empty, .bool false] rfl rfl 47 _ (new3 w _ _ _ _) info_url rfl (by simp [Value.oneCell']) ?_; intro w1 hx1 hu1 hz1)
  have HU1 := Lib.hid hx1
  have HW1 : Hid (Below w.heap.size w w1) := Lib.hid (((HW0.out.alloc (by simp) _).alloc (by simp; omega) _).trans (hu1.own (by omega) (by simp; omega)))
  have HB1 : Hid (Box w1 w.heap.size 47 cs) := Lib.hid (box_upd ((HB.out.alloc _).alloc _) hu1 (by omega))
  have HR1 : Hid (Box w1 (w.heap.size + 1) 47 uzero) := Lib.hid (box_upd (new3b w _ _ _ _) hu1 (by omega))
  clear hx1 hu1 hz1 c0 c1 c2 c3 c4 c5 HB HW0
  refine (HTL.out _ _ _ _ _ _ _ _ _ HU1.out).mono ?_
  rintro e w2 ⟨rfl, hx2, hu2⟩
  have HU2 := Lib.hid hx2
  have HW2 : Hid (Below w.heap.size w w2) := Lib.hid (HW1.out.trans (hu2.own (by omega) HW1.out.size))
  have HB2 : Hid (Box w2 w.heap.size 47 cs) := Lib.hid (box_upd HB1.out hu2 (by omega))
  have HR2 : Hid (Box w2 (w.heap.size + 1) 47 uzero) := Lib.hid (box_upd HR1.out hu2 (by omega))
  clear hx2 hu2 HU1 HW1 HB1 HR1 HTL
  go_wp2_with (fail)
  refine (HCP.out _).mono ?_
  rintro e wr ⟨rfl, rfl⟩
  go_wp2_with (fail)
  refine (HSG.out _ HW2.out).mono ?_
  rintro e w3 (⟨l, v3, hseg, rfl, hown, hlen, hb3⟩ | ⟨hseg, rfl, hb3⟩)
  rotate_left
  · have HP : Hid (Urly.beside b r = .error 3) := Lib.hid (bes_no HTT.out (.inr (by rw [HBP.out]; exact hseg)))
    have HR3 : Hid (Box w3 (w.heap.size + 1) 47 uzero) := Lib.hid (HR2.out.below hb3 HR2.out.lt)
    have HW3 : Hid (Below w.heap.size w w3) := Lib.hid (HW2.out.trans (hb3.mono HW2.out.size))
    clear hb3 hseg
    cases kk with
    | false =>
      go_wp2_with (refine wpList_store_box rfl 47 (.tmp 4) (.tmp 42) rfl (w.heap.size + 1) uzero rfl rfl 47 _ HR3.out info_url rfl uzero_one ?_; intro wz hxz huz hzz)
      refine bodyPost_ret (results_box_tmp rfl _ _ (w.heap.size + 1) 47 _ _ rfl hxz Tryz.underlying47 rfl info_url) rfl ?_
      exact besideOut_err HP.out rfl (HW3.out.trans (huz.own (by omega) HW3.out.size))
    | true =>
      go_wp2_with (refine wpList_store_box rfl 47 (.tmp 4) (.tmp 42) rfl (w.heap.size + 1) uzero rfl rfl 47 _ HR3.out info_url rfl uzero_one ?_; intro wz hxz huz hzz)
      refine bodyPost_ret (results_box_tmp rfl _ _ (w.heap.size + 1) 47 _ _ rfl hxz Tryz.underlying47 rfl info_url) rfl ?_
      exact besideOut_err HP.out rfl (HW3.out.trans (huz.own (by omega) HW3.out.size))
  have HR3 : Hid (Box w3 (w.heap.size + 1) 47 uzero) := Lib.hid (HR2.out.below hb3 HR2.out.lt)
  have HW3 : Hid (Below w.heap.size w w3) := Lib.hid (HW2.out.trans (hb3.mono HW2.out.size))
  have HB3 : Hid (Box w3 w.heap.size 47 cs) := Lib.hid (HB2.out.below hb3 HB2.out.lt)
  have HU3 := Lib.hid (HU2.out.below hb3 HU2.out.lt)
  have HO3 := Lib.hid hown
  have HLN := Lib.hid hlen
  have HPOS : Hid (0 < l.length) := Lib.hid (seg_pos hseg)
  have HSEG : Hid (Urly.segments (Urly.bare t.path) = some l) := Lib.hid (by rw [HBP.out]; exact hseg)
  clear hb3 hseg hown hlen HR2 HW2 HB2 HU2
  cases kk with
  | false =>
    have HP : Hid (Urly.beside b r = .error 3) := Lib.hid (bes_no HTT.out (.inl HKK.out))
    go_wp2_with (refine wpList_store_box rfl 47 (.tmp 4) (.tmp 42) rfl (w.heap.size + 1) uzero rfl rfl 47 _ HR3.out info_url rfl uzero_one ?_; intro wz hxz huz hzz)
    refine bodyPost_ret (results_box_tmp rfl _ _ (w.heap.size + 1) 47 _ _ rfl hxz Tryz.underlying47 rfl info_url) rfl ?_
    exact besideOut_err HP.out rfl (HW3.out.trans (huz.own (by omega) HW3.out.size))
  | true =>
    obtain ⟨q, f, hqf⟩ : ∃ q f, t.query = some q ∧ t.fragment = some f := by
      have hkk := HKK.out
      cases hq : t.query with
      | none => rw [hq] at hkk; exact absurd hkk (by simp)
      | some q => cases hf : t.fragment with
        | none => rw [hq, hf] at hkk; exact absurd hkk (by simp)
        | some f => exact ⟨q, f, rfl, rfl⟩
    unfold tcells at HU3
    rw [hqf.1, hqf.2] at HU3
    have HQF := Lib.hid hqf
    clear hqf HKK
    obtain ⟨A3, cap3, rfl⟩ := own_slice HO3.out
    by_cases hpe : t.path = []
    · have HBE := Lib.hid (bes_here (b := b) HTT.out HQF.out.1 HQF.out.2 HSEG.out hpe)
      have hte : TP.toList.isEmpty = true := by rw [HTZ.out, hpe]; rfl
      have y3 : w3.cell? ⟨w.heap.size + 1 + 1, 3, none⟩ = some (.slice none 0 0) := HU3.out.cell 3
      have z3 : w3.frozen? ⟨w.heap.size + 1 + 1, 3, none⟩ = false := HU3.out.frozen 3
      have x3 : w3.cell? ⟨w.heap.size, 3, none⟩ = some (.slice (some ⟨g, off, none⟩) n cap) := (HB3.out.cell 3).trans HKS.out.1
      clear hpe
      go_upto_region 9 with (fail)
      obtain ⟨w4, hw4⟩ : ∃ w4, w3.setCell ⟨w.heap.size + 1 + 1, 3, none⟩ (.slice (some ⟨g, off, none⟩) n cap) = w4 := ⟨_, rfl⟩
      rw [hw4]
      have HU4 : Hid (Box w4 (w.heap.size + 1 + 1) 47 #[.string (byt b.scheme), .string (byt b.host), .int .i64 (b.port : Int), .slice (some ⟨g, off, none⟩) n cap, .string (byt q), .bool t.asks, .string (byt f), .bool t.points]) := Lib.hid (by rw [← hw4]; exact HU3.out.set 3 _)
      have HR4 : Hid (Box w4 (w.heap.size + 1) 47 uzero) := Lib.hid (by rw [← hw4]; exact HR3.out.far (by simp) _)
      have HB4 : Hid (Box w4 w.heap.size 47 cs) := Lib.hid (by rw [← hw4]; exact HB3.out.far (by simp; omega) _)
      have HW4 : Hid (Below w.heap.size w w4) := Lib.hid (by rw [← hw4]; exact HW3.out.setCell (by simp; omega) _)
      clear hw4 y3 z3 x3 HU3 HR3 HB3 HW3
      have y5 : w4.cell? ⟨w.heap.size + 1 + 1, 5, none⟩ = some (.bool t.asks) := HU4.out.cell 5
      obtain ⟨ak, hak⟩ : ∃ k, t.asks = k := ⟨_, rfl⟩
      rw [hak] at y5 HBE HU4
      cases ak with
      | true =>
        go_wp2_with (first | (refine wpList_load_row rfl 47 (.tmp 6) rfl (w.heap.size + 1 + 1) rfl _ (ucells ⟨b.scheme, b.host, b.port, b.path, q, true, f, t.points⟩ (.slice (some ⟨g, off, none⟩) n cap)) (0, 0) _ HU4.out Tryz.underlying47 rfl info_url ?_) | (refine wpList_store_box rfl 47 (.tmp 4) (.tmp 58) rfl (w.heap.size + 1) (ucells ⟨b.scheme, b.host, b.port, b.path, q, true, f, t.points⟩ (.slice (some ⟨g, off, none⟩) n cap)) rfl rfl 47 _ HR4.out info_url rfl (ucells_one _ _ _ _) ?_; intro wz hxz huz hzz))
        refine bodyPost_ret (results_box_tmp rfl _ _ (w.heap.size + 1) 47 _ _ rfl hxz Tryz.underlying47 rfl info_url) rfl ?_
        have hbz : Below w.heap.size w wz := HW4.out.trans (huz.own (by omega) HW4.out.size)
        exact besideOut_ok HBE.out rfl (rd_len HN.out (HV.out.below hbz)) (fun x hx => .inl hx) hbz
      | false =>
        have x4 : w4.cell? ⟨w.heap.size, 4, none⟩ = some (.string (byt b.query)) := (HB4.out.cell 4).trans HKS.out.2.1
        have x5 : w4.cell? ⟨w.heap.size, 5, none⟩ = some (.bool b.asks) := (HB4.out.cell 5).trans HKS.out.2.2
        have y4 : w4.cell? ⟨w.heap.size + 1 + 1, 4, none⟩ = some (.string (byt q)) := HU4.out.cell 4
        have z4 : w4.frozen? ⟨w.heap.size + 1 + 1, 4, none⟩ = false := HU4.out.frozen 4
        have z5 : w4.frozen? ⟨w.heap.size + 1 + 1, 5, none⟩ = false := HU4.out.frozen 5
        go_wp2
        go_region
        obtain ⟨w5, hw5⟩ : ∃ w5, ((w4.setCell ⟨w.heap.size + 1 + 1, 4, none⟩ (.string (byt b.query))).setCell ⟨w.heap.size + 1 + 1, 5, none⟩ (.bool b.asks)).drew = w5 := ⟨_, rfl⟩
        rw [hw5]
        have HU5 : Hid (Box w5 (w.heap.size + 1 + 1) 47 (ucells ⟨b.scheme, b.host, b.port, b.path, b.query, b.asks, f, t.points⟩ (.slice (some ⟨g, off, none⟩) n cap))) := Lib.hid (by rw [← hw5]; exact (((HU4.out.set 4 _).set 5 _).drew))
        have HR5 : Hid (Box w5 (w.heap.size + 1) 47 uzero) := Lib.hid (by rw [← hw5]; exact ((HR4.out.far (by simp) _).far (by simp) _).drew)
        have HW5 : Hid (Below w.heap.size w w5) := Lib.hid (by rw [← hw5]; exact ((HW4.out.setCell (by simp; omega) _).setCell (by simp; omega) _).drew)
        have HBE2 : Hid (Urly.beside b r = .ok ⟨b.scheme, b.host, b.port, b.path, b.query, b.asks, f, t.points⟩) := Lib.hid (by rw [HBE.out]; rfl)
        clear hw5 x4 x5 y4 z4 z5 y5 HU4 HR4 HB4 HW4 HBE
        go_wp2_with (first | (refine wpList_load_row rfl 47 (.tmp 6) rfl (w.heap.size + 1 + 1) rfl _ (ucells ⟨b.scheme, b.host, b.port, b.path, b.query, b.asks, f, t.points⟩ (.slice (some ⟨g, off, none⟩) n cap)) (0, 0) _ HU5.out Tryz.underlying47 rfl info_url ?_) | (refine wpList_store_box rfl 47 (.tmp 4) (.tmp 58) rfl (w.heap.size + 1) (ucells ⟨b.scheme, b.host, b.port, b.path, b.query, b.asks, f, t.points⟩ (.slice (some ⟨g, off, none⟩) n cap)) rfl rfl 47 _ HR5.out info_url rfl (ucells_one _ _ _ _) ?_; intro wz hxz huz hzz))
        refine bodyPost_ret (results_box_tmp rfl _ _ (w.heap.size + 1) 47 _ _ rfl hxz Tryz.underlying47 rfl info_url) rfl ?_
        have hbz : Below w.heap.size w wz := HW5.out.trans (huz.own (by omega) HW5.out.size)
        exact besideOut_ok HBE2.out rfl (rd_len HN.out (HV.out.below hbz)) (fun x hx => .inl hx) hbz
    · have HBE := Lib.hid (fun m hm => bes_there (b := b) (m := m) HTT.out HQF.out.1 HQF.out.2 HSEG.out hpe hm)
      have hte : TP.toList.isEmpty = false := by rw [HTZ.out]; cases h : t.path with | nil => exact absurd h hpe | cons x y => rfl
      have HCC : Hid (∀ (wx : World) (bx c : Nat) (A4 : Option Addr) (g4 : Addr), A4 = some g4 → Below w.heap.size w wx → Box wx bx 38 #[.slice (some ⟨g, off, none⟩) (n - 1) cap, .slice A4 l.length c] → (∀ (j : Nat) (u : Value), (txts l)[j]? = some u → wx.cell? (g4.add j) = some u) → g4.block < wx.heap.size → Calls Tryz.prog 71 #[.slice (some ⟨bx, 0, none⟩) 2 2] wx (ConcatOut b.path.dropLast l wx)) := Lib.hid (by
        rintro wx bx c A4 g4 rfl hwx hbx hr4 hg4
        have hdl : b.path.dropLast.length = n - 1 := by rw [List.length_dropLast, HN.out]
        refine concat_any b.path.dropLast l ⟨g, off, none⟩ g4 cap c bx wx (by omega) (by have := HLN.out; have := HBL.out; omega) HPOS.out (by rw [hdl]; exact hbx) (fun j u hu => ?_) hr4 (by have := hwx.size; show g < _; omega) hg4
        rw [hwx.cell (p := Addr.add ⟨g, off, none⟩ j) (by rw [adr_block]; exact hg)]
        have hu2 : (txts b.path)[j]? = some u := by
          have hj : j < (txts b.path.dropLast).length := (List.getElem?_eq_some_iff.1 hu).1
          rw [txts_len, hdl] at hj
          unfold txts at hu ⊢
          rw [List.getElem?_map] at hu ⊢
          rw [List.dropLast_eq_take, List.getElem?_take] at hu
          rw [if_pos (by rw [HN.out]; omega)] at hu
          exact hu
        have := HCE.out j u hu2
        rw [adr_at]
        exact this)
      clear hpe
      cases root with
      | true =>
        have HBM : Hid (Urly.beside b r = .ok ⟨b.scheme, b.host, b.port, Urly.tidy l, q, t.asks, f, t.points⟩) := Lib.hid (HBE.out l (by rw [if_pos (of_decide_eq_true HRT.out)]))
        have HLL : Hid (l.length ≤ 3000) := Lib.hid (by have := HLN.out; have := HBL.out; omega)
        clear HBE HCC
        have HTD : Hid (Calls Tryz.prog 59 #[.slice A3 l.length cap3] w3 (TidyOut l w3)) := Lib.hid (tidy_any l _ w3 (Rd.own HO3.out) HPOS.out HLL.out)
        go_wp2_with (fail)
        refine HTD.out.mono ?_
        rintro e w7 ⟨v2, rfl, hown2, hlen2, hb7⟩
        obtain ⟨A2, cap2, rfl⟩ := own_slice hown2
        have HR7 : Hid (Box w7 (w.heap.size + 1) 47 uzero) := Lib.hid (HR3.out.below hb7 HR3.out.lt)
        have HU7 : Hid (Box w7 (w.heap.size + 1 + 1) 47 #[.string (byt b.scheme), .string (byt b.host), .int .i64 (b.port : Int), .slice none 0 0, .string (byt q), .bool t.asks, .string (byt f), .bool t.points]) := Lib.hid (HU3.out.below hb7 HU3.out.lt)
        have HW7 : Hid (Below w.heap.size w w7) := Lib.hid (HW3.out.trans (hb7.mono HW3.out.size))
        have hlt6 := HU3.out.lt
        have hsz6 := HW3.out.size
        have HO7 := Lib.hid hown2
        have y3 : w7.cell? ⟨w.heap.size + 1 + 1, 3, none⟩ = some (.slice none 0 0) := HU7.out.cell 3
        have z3 : w7.frozen? ⟨w.heap.size + 1 + 1, 3, none⟩ = false := HU7.out.frozen 3
        have HU : Hid (Box (w7.setCell ⟨w.heap.size + 1 + 1, 3, none⟩ (.slice A2 (Urly.tidy l).length cap2)) (w.heap.size + 1 + 1) 47 (ucells ⟨b.scheme, b.host, b.port, Urly.tidy l, q, t.asks, f, t.points⟩ (.slice A2 (Urly.tidy l).length cap2))) := Lib.hid (HU7.out.set 3 _)
        have HRR : Hid (Box (w7.setCell ⟨w.heap.size + 1 + 1, 3, none⟩ (.slice A2 (Urly.tidy l).length cap2)) (w.heap.size + 1) 47 uzero) := Lib.hid (HR7.out.far (by simp) _)
        obtain ⟨n2, hn2⟩ : ∃ n2, (Urly.tidy l).length = n2 := ⟨_, rfl⟩
        rw [hn2] at HU HRR
        rw [hn2]
        have HN2 := Lib.hid hn2
        clear hown2 hlen2 hb7 HTD HR7 HU7 hn2
        go_wp2_with (first | (refine wpList_load_row rfl 47 (.tmp 6) rfl (w.heap.size + 1 + 1) rfl _ (ucells ⟨b.scheme, b.host, b.port, Urly.tidy l, q, t.asks, f, t.points⟩ (.slice A2 n2 cap2)) (0, 0) _ HU.out Tryz.underlying47 rfl info_url ?_) | (refine wpList_store_box rfl 47 (.tmp 4) (.tmp 75) rfl (w.heap.size + 1) (ucells ⟨b.scheme, b.host, b.port, Urly.tidy l, q, t.asks, f, t.points⟩ (.slice A2 n2 cap2)) rfl rfl 47 _ HRR.out info_url rfl (ucells_one _ _ _ _) ?_; intro wz hxz huz hzz))
        refine bodyPost_ret (results_box_tmp rfl _ _ (w.heap.size + 1) 47 _ _ rfl hxz Tryz.underlying47 rfl info_url) rfl ?_
        have hn2 := HN2.out
        subst hn2
        refine besideOut_ok HBM.out rfl (Rd.own (own_far (ownsRow_setCell_below HO7.out (by show w.heap.size + 1 + 1 < w3.heap.size; exact hlt6) _) huz (by omega))) (far_own HO7.out hsz6) ((HW7.out.setCell (by simp; omega) _).trans (huz.own (by omega) ?_))
        have := HW7.out.size
        simpa using this
      | false =>
        have HBM : Hid (Urly.beside b r = .ok ⟨b.scheme, b.host, b.port, Urly.tidy (b.path.dropLast ++ l), q, t.asks, f, t.points⟩) := Lib.hid (HBE.out _ (by rw [if_neg (of_decide_eq_false HRT.out)]))
        obtain ⟨n1, rfl⟩ : ∃ n1, n = n1 + 1 := ⟨n - 1, by omega⟩
        obtain ⟨g3, o3, hA3, hg3, hr3⟩ : ∃ g o, A3 = some ⟨g, o, none⟩ ∧ g < w3.heap.size ∧ w3.rangeAt g o (txts l) := by
          obtain ⟨A', cap', e1, _, _, h3⟩ := Rd.own HO3.out
          injection e1 with e1 _ _
          subst e1
          exact h3 HPOS.out
        have HR3A := Lib.hid hr3
        have x3 : w3.cell? ⟨w.heap.size, 3, none⟩ = some (.slice (some ⟨g, off, none⟩) (n1 + 1) cap) := (HB3.out.cell 3).trans HKS.out.1
        have wr1 : IntKind.i64.wrap (n1 : Int) = (n1 : Int) := by rw [IntKind.wrap_i64]; omega
        have wr2 : IntKind.i64.wrap ((n1 : Int) + 1) = (n1 : Int) + 1 := by rw [IntKind.wrap_i64]; omega
        subst hA3
        have HCX : Hid (Calls Tryz.prog 71 #[.slice (some ⟨w3.heap.size, 0, none⟩) 2 2] (w3.alloc (.cells #[.slice (some ⟨g, off, none⟩) n1 cap, .slice (some ⟨g3, o3, none⟩) l.length cap3] 38)) (ConcatOut b.path.dropLast l (w3.alloc (.cells #[.slice (some ⟨g, off, none⟩) n1 cap, .slice (some ⟨g3, o3, none⟩) l.length cap3] 38)))) := Lib.hid (HCC.out _ _ _ _ ⟨g3, o3, none⟩ rfl (HW3.out.alloc (by have := HW3.out.size; omega) _) (Box.new w3 _ _) (fun j u hu => by
          rw [adr_at, (below1 w3 _).cell (p := ⟨g3, o3 + j, none⟩) hg3]
          exact HR3A.out j u hu) (by simp; omega))
        have HU4 := Lib.hid (HU3.out.alloc (.cells #[.slice (some ⟨g, off, none⟩) n1 cap, .slice (some ⟨g3, o3, none⟩) l.length cap3] 38))
        have HR4 := Lib.hid (HR3.out.alloc (.cells #[.slice (some ⟨g, off, none⟩) n1 cap, .slice (some ⟨g3, o3, none⟩) l.length cap3] 38))
        have HW4 : Hid (Below w.heap.size w (w3.alloc (.cells #[.slice (some ⟨g, off, none⟩) n1 cap, .slice (some ⟨g3, o3, none⟩) l.length cap3] 38))) := Lib.hid (HW3.out.alloc (by have := HW3.out.size; omega) _)
        clear HBE HCC hr3
        go_wp2_with (fail)
        refine HCX.out.mono ?_
        rintro e w5 ⟨v5, rfl, hown5, hb5⟩
        have HU5 := Lib.hid (HU4.out.below hb5 HU4.out.lt)
        have HR5 := Lib.hid (HR4.out.below hb5 HR4.out.lt)
        have HW5 : Hid (Below w.heap.size w w5) := Lib.hid (HW4.out.trans (hb5.mono HW4.out.size))
        have HRD := Lib.hid (Rd.own hown5)
        have HMP : Hid (0 < (b.path.dropLast ++ l).length) := Lib.hid (by have := HPOS.out; simp; omega)
        have HML : Hid ((b.path.dropLast ++ l).length ≤ 3000) := Lib.hid (by have := HLN.out; have := HBL.out; have := HN.out; simp; omega)
        clear hown5 hb5 HCX HU4 HR4 HW4 x3
        obtain ⟨m, hm⟩ : ∃ m, b.path.dropLast ++ l = m := ⟨_, rfl⟩
        rw [hm] at HRD HMP HML HBM
        clear hm
        have HTD : Hid (Calls Tryz.prog 59 #[v5] w5 (TidyOut m w5)) := Lib.hid (tidy_any m _ w5 HRD.out HMP.out HML.out)
        go_wp2_with (fail)
        refine HTD.out.mono ?_
        rintro e w7 ⟨v2, rfl, hown2, hlen2, hb7⟩
        obtain ⟨A2, cap2, rfl⟩ := own_slice hown2
        have HR7 : Hid (Box w7 (w.heap.size + 1) 47 uzero) := Lib.hid (HR5.out.below hb7 HR5.out.lt)
        have HU7 : Hid (Box w7 (w.heap.size + 1 + 1) 47 #[.string (byt b.scheme), .string (byt b.host), .int .i64 (b.port : Int), .slice none 0 0, .string (byt q), .bool t.asks, .string (byt f), .bool t.points]) := Lib.hid (HU5.out.below hb7 HU5.out.lt)
        have HW7 : Hid (Below w.heap.size w w7) := Lib.hid (HW5.out.trans (hb7.mono HW5.out.size))
        have hlt6 := HU5.out.lt
        have hsz6 := HW5.out.size
        have HO7 := Lib.hid hown2
        have y3 : w7.cell? ⟨w.heap.size + 1 + 1, 3, none⟩ = some (.slice none 0 0) := HU7.out.cell 3
        have z3 : w7.frozen? ⟨w.heap.size + 1 + 1, 3, none⟩ = false := HU7.out.frozen 3
        have HU : Hid (Box (w7.setCell ⟨w.heap.size + 1 + 1, 3, none⟩ (.slice A2 (Urly.tidy m).length cap2)) (w.heap.size + 1 + 1) 47 (ucells ⟨b.scheme, b.host, b.port, Urly.tidy m, q, t.asks, f, t.points⟩ (.slice A2 (Urly.tidy m).length cap2))) := Lib.hid (HU7.out.set 3 _)
        have HRR : Hid (Box (w7.setCell ⟨w.heap.size + 1 + 1, 3, none⟩ (.slice A2 (Urly.tidy m).length cap2)) (w.heap.size + 1) 47 uzero) := Lib.hid (HR7.out.far (by simp) _)
        obtain ⟨n2, hn2⟩ : ∃ n2, (Urly.tidy m).length = n2 := ⟨_, rfl⟩
        rw [hn2] at HU HRR
        rw [hn2]
        have HN2 := Lib.hid hn2
        clear hown2 hlen2 hb7 HTD HR7 HU7 hn2
        go_wp2_with (first | (refine wpList_load_row rfl 47 (.tmp 6) rfl (w.heap.size + 1 + 1) rfl _ (ucells ⟨b.scheme, b.host, b.port, Urly.tidy m, q, t.asks, f, t.points⟩ (.slice A2 n2 cap2)) (0, 0) _ HU.out Tryz.underlying47 rfl info_url ?_) | (refine wpList_store_box rfl 47 (.tmp 4) (.tmp 75) rfl (w.heap.size + 1) (ucells ⟨b.scheme, b.host, b.port, Urly.tidy m, q, t.asks, f, t.points⟩ (.slice A2 n2 cap2)) rfl rfl 47 _ HRR.out info_url rfl (ucells_one _ _ _ _) ?_; intro wz hxz huz hzz))
        refine bodyPost_ret (results_box_tmp rfl _ _ (w.heap.size + 1) 47 _ _ rfl hxz Tryz.underlying47 rfl info_url) rfl ?_
        have hn2 := HN2.out
        subst hn2
        refine besideOut_ok HBM.out rfl (Rd.own (own_far (ownsRow_setCell_below HO7.out (by show w.heap.size + 1 + 1 < w5.heap.size; exact hlt6) _) huz (by omega))) (far_own HO7.out hsz6) ((HW7.out.setCell (by simp; omega) _).trans (huz.own (by omega) ?_))
        have := HW7.out.size
        simpa using this
end Go.Proofs.YtlepbooegofoeaaGreatDoor
