/-
  The reader skips what parts tokens. Conditions: the reader lies in a block of its own; the text has at most a million bytes.
-/
import Derived.Test.YtgeaphapnoiniaaDoorJlA
import Derived.Test.YtgeaphapnoiniaaDoorJlS
import Derived.Test.YtgeaphapnoiniaaDoorLex
import Derived.Deep.LoopGhost
import Derived.Outline
namespace Go.Proofs.YtgeaphapnoiniaaDoor
open Go.RowKit

/-- the reader at block b: its text, its place, what it has told. -/
def Rd (w : World) (b : Nat) (s : ByteArray) (k : Nat) (o : Value) : Prop := Box w b 45 #[.string s, .int .i64 (k : Int), o]
section
variable {w : World} {b k : Nat} {s : ByteArray} {o : Value}
theorem Rd.text (h : Rd w b s k o) : w.cell? ⟨b, 0, none⟩ = some (.string s) := by have := Box.cell h 0; simpa using this
theorem Rd.place (h : Rd w b s k o) : w.cell? ⟨b, 1, none⟩ = some (.int .i64 (k : Int)) := by have := Box.cell h 1; simpa using this
theorem Rd.told (h : Rd w b s k o) : w.cell? ⟨b, 2, none⟩ = some o := by have := Box.cell h 2; simpa using this
theorem Rd.free (h : Rd w b s k o) (i : Nat) : w.frozen? ⟨b, i, none⟩ = false := Box.frozen h i
theorem Rd.drewN (h : Rd w b s k o) (n : Nat) : Rd (w.drewN n) b s k o := h
theorem Rd.moveI (h : Rd w b s k o) (v : Int) (j : Nat) (e : v = (j : Int)) : Rd (w.setCell ⟨b, 1, none⟩ (.int .i64 v)) b s j o := by
  subst e
  have := Box.set h 1 (.int .i64 (j : Int)); simpa [Rd] using this
theorem Rd.move (h : Rd w b s k o) (j : Nat) : Rd (w.setCell ⟨b, 1, none⟩ (.int .i64 (j : Int))) b s j o := by
  have := Box.set h 1 (.int .i64 (j : Int)); simpa [Rd] using this
end

theorem blank_cases {c : UInt8} (h : Lexy.isBlank c = true) : c = 32 ∨ c = 9 ∨ c = 10 ∨ c = 13 := by
  simp only [Lexy.isBlank, Bool.or_eq_true, beq_iff_eq] at h
  rcases h with ((h | h) | h) | h <;> simp [h]
theorem nblank_ne {c : UInt8} (h : ¬ Lexy.isBlank c = true) : ((c.toNat : Int) == 32) = false ∧ ((c.toNat : Int) == 9) = false ∧ ((c.toNat : Int) == 10) = false ∧ ((c.toNat : Int) == 13) = false := by
  have hn : ∀ d : UInt8, c ≠ d → ((c.toNat : Int) == (d.toNat : Int)) = false := fun d hd => by
    have : c.toNat ≠ d.toNat := fun e => hd (UInt8.toNat_inj.1 e)
    simp; omega
  simp only [Lexy.isBlank, Bool.or_eq_true, beq_iff_eq, not_or] at h
  exact ⟨hn 32 h.1.1.1, hn 9 h.1.1.2, hn 10 h.1.2, hn 13 h.2⟩
theorem byte_ne {c d : UInt8} (h : c ≠ d) : ((c.toNat : Int) == (d.toNat : Int)) = false := by
  have : c.toNat ≠ d.toNat := fun e => h (UInt8.toNat_inj.1 e)
  simp; omega

/-- the comment's length, by IndexByte. -/
theorem skp_comment : ∀ r : Lexy.Bs, Lexy.skp true r = if Lib.indexByte r 10 < 0 then r.length else (Lib.indexByte r 10).toNat + Lexy.skp false (r.drop (Lib.indexByte r 10).toNat) := by
  intro r
  induction r with
  | nil => simp [Lexy.skp, Lib.indexByte]
  | cons c r ih =>
    have hge := Lib.indexByte_ge r 10
    by_cases hc : (c == 10) = true
    · have e : Lib.indexByte (c :: r) 10 = 0 := by simp [Lib.indexByte, hc]
      simp only [e]
      simp [Lexy.skp, Lexy.isBlank, eq_of_beq hc]
    · have e1 : Lexy.skp true (c :: r) = 1 + Lexy.skp true r := by simp [Lexy.skp, hc]
      rw [e1, ih]
      by_cases hn : Lib.indexByte r 10 = -1
      · have e : Lib.indexByte (c :: r) 10 = -1 := by simp [Lib.indexByte, hc, hn]
        simp only [e, hn]
        simp; omega
      · have e : Lib.indexByte (c :: r) 10 = Lib.indexByte r 10 + 1 := by simp [Lib.indexByte, hc, hn]
        simp only [e]
        rw [if_neg (by omega), if_neg (by omega)]
        rw [show (Lib.indexByte r 10 + 1).toNat = (Lib.indexByte r 10).toNat + 1 by omega, List.drop_succ_cons]
        omega
theorem indexByte_lt (r : Lexy.Bs) (c : UInt8) : Lib.indexByte r c ≤ r.length := by
  induction r with
  | nil => simp [Lib.indexByte]
  | cons d r ih => simp only [Lib.indexByte, List.length_cons]; split <;> (try split) <;> omega

set_option maxRecDepth 100000 in
set_option maxHeartbeats 1000000 in
theorem skip_any (b : Nat) (s : ByteArray) (k : Nat) (o : Value) (w : World) (h : Rd w b s k o) (hk : k ≤ s.size) (hm : s.size ≤ 1000000) :
    Calls Tryd.prog 15 #[.pointer (some ⟨b, 0, none⟩)] w fun e w' =>
      e = .returned (.tuple #[]) ∧ Rd w' b s (k + Lexy.skp false (s.data.toList.drop k)) o ∧ Upd w w' b := by
  obtain ⟨l, hl⟩ : ∃ l, s.data.toList = l := ⟨_, rfl⟩
  have hsz : l.length = s.size := by rw [← hl]; simp
  rw [hl]
  obtain ⟨T, hT⟩ : ∃ T, k + Lexy.skp false (l.drop k) = T := ⟨_, rfl⟩
  rw [hT]
  have HL := Lib.hid hl; clear hl
  have HT := Lib.hid hT; clear hT
  have HS := Lib.hid hsz; clear hsz
  go_enter Tryd.func15, Tryd.ntmps15
  go_wp2
  go_loopg [] (s.size - k) (fun g wr => ∃ k', k' ≤ s.size ∧ g = s.size - k' ∧ Rd wr b s k' o ∧ Upd w wr b ∧ Hid (k' + Lexy.skp false (l.drop k') = T))
  case atStart => exact ⟨k, hk, rfl, h, Upd.refl _ _, HT⟩
  case round =>
    obtain ⟨k', hk', hg, hr, hu, H⟩ := hrel
    have HG := Lib.hid hg; clear hg
    have hs0 := hr.text; have hp0 := hr.place; have hf := hr.free 1
    by_cases hlt : k' < s.size
    · obtain ⟨c, hc⟩ : ∃ c, l[k']? = some c := ⟨_, List.getElem?_eq_getElem (by rw [HS.out]; exact hlt)⟩
      have hl1 : decide ((k' : Int) < s.size) = true := by simp; omega
      have hi := fun w => run_at s c (k' : Int) (by omega) (by rw [HL.out]; exact hc) w
      have hd : l.drop k' = c :: l.drop (k' + 1) := by
        obtain ⟨h1, h2⟩ := List.getElem?_eq_some_iff.1 hc
        rw [List.drop_eq_getElem_cons h1, h2]
      have HC := Lib.hid hc; clear hc
      have HD := Lib.hid hd; clear hd
      by_cases hb : Lexy.isBlank c = true
      · have HB := Lib.hid hb
        have H1 : Hid (k' + 1 + Lexy.skp false (l.drop (k' + 1)) = T) := by
          have := H.out; rw [HD.out] at this; simp only [Lexy.skp, HB.out, if_true] at this; exact Lib.hid (by omega)
        rcases blank_cases hb with rfl | rfl | rfl | rfl
        all_goals
          clear hb
          go_wp2
          go_quiet (fail)
          go_wp2
          go_quiet (fail)
          go_wp2
          go_roundg (s.size - (k' + 1))
          case measure => rw [HG.out]; omega
          case rel => exact ⟨k' + 1, by omega, rfl, (hr.drewN _).move (k' + 1), (hu.drewN _).set (.inl rfl) _, H1⟩
      · have hnb := nblank_ne hb
        obtain ⟨n1, n2, n3, n4⟩ := hnb
        by_cases h47 : c = 47
        · subst h47
          clear n1 n2 n3 n4
          by_cases h2 : l[k' + 1]? = some 47
          · have hlt2 : k' + 1 < s.size := by rw [← HS.out]; exact (List.getElem?_eq_some_iff.1 h2).1
            have HPK := Lib.hid (fun w h0 h1 => peek_in b s k' 1 47 w h0 h1 hm (by omega) (by omega) hlt2 (by rw [HL.out]; exact h2))
            obtain ⟨N, hN⟩ : ∃ N, Lib.indexByte (l.drop k') 10 = N := ⟨_, rfl⟩
            have hNge := Lib.indexByte_ge (l.drop k') 10
            have hNle := indexByte_lt (l.drop k') 10
            have HT2 : Hid (Lexy.skp true (l.drop k') = Lexy.skp false (l.drop k')) := by
              have e2 : (l.drop (k' + 1)).head? = some 47 := by rw [List.head?_drop]; exact h2
              rw [HD.out]; simp [Lexy.skp, Lexy.isBlank, e2, Hid]
            have hex : (s.extract k' s.size).data.toList = l.drop k' := by
              rw [← HL.out]; simp; exact List.take_of_length_le (by simp)
            have HIB : Hid (∀ w, Calls Tryd.prog 21 #[.string (s.extract k' s.size), .int .u8 10] w fun e w' => e = .returned (.int .i64 N) ∧ w' = w) := by
              intro w
              have := index_byte (s.extract k' s.size) 10 w
              rw [hex] at this
              rw [← hN]; exact this
            have hlen : (l.drop k').length = s.size - k' := by rw [List.length_drop, HS.out]
            have hcm := skp_comment (l.drop k')
            rw [HT2.out] at hcm
            simp only [hN] at hcm
            rw [hlen] at hcm
            have HTT := H.out
            rw [hcm] at HTT
            rw [hN] at hNge hNle
            rw [hlen] at hNle
            have HN0 := Lib.hid hN
            clear hN hex hcm hlen h2 hb
            by_cases hN0 : N < 0
            · rw [if_pos hN0] at HTT
              have HTT2 : Hid (s.size + Lexy.skp false (l.drop s.size) = T) := by
                have e : l.drop s.size = [] := List.drop_eq_nil_of_le (by rw [HS.out]; omega)
                rw [e]; simp only [Lexy.skp]; exact Lib.hid (by omega)
              clear HTT
              have hnn : decide (N < 0) = true := by simpa using hN0
              go_wp2
              go_quiet (fail)
              go_wp2
              go_quiet (fail)
              go_wp2_with (fail)
              refine (HPK.out _ (by go_simp) (by go_simp)).mono ?_
              rintro e w1 ⟨rfl, n1, rfl⟩
              go_wp2_with (fail)
              go_quiet ((go_at_call 21; exact quiet_more_same (HIB.out _)))
              go_wp2_with (fail)
              go_quiet (fail)
              go_wp2_with (fail)
              go_roundg 0
              case measure => rw [HG.out]; omega
              case rel => exact ⟨s.size, Nat.le_refl _, by omega, (hr.drewN _).moveI _ s.size (by omega), (hu.drewN _).set (.inl rfl) _, HTT2⟩
            · rw [if_neg hN0] at HTT
              obtain ⟨m, rfl⟩ : ∃ m : Nat, N = (m : Int) := ⟨N.toNat, by omega⟩
              have hm2 : m ≤ s.size - k' := by omega
              have hm0 : 0 < m := by
                have h1 := HN0.out
                rcases Nat.eq_zero_or_pos m with h | h
                · subst h; exact absurd h1 (by rw [HD.out]; simp [Lib.indexByte]; split <;> omega)
                · exact h
              have HTT2 : Hid (k' + m + Lexy.skp false (l.drop (k' + m)) = T) := by
                rw [List.drop_drop] at HTT; simp only [Int.toNat_natCast] at HTT; exact Lib.hid (by omega)
              clear HTT
              have hnn : decide ((m : Int) < 0) = false := by simp
              go_wp2
              go_quiet (fail)
              go_wp2
              go_quiet (fail)
              go_wp2_with (fail)
              refine (HPK.out _ (by go_simp) (by go_simp)).mono ?_
              rintro e w1 ⟨rfl, n1, rfl⟩
              go_wp2_with (fail)
              go_quiet ((go_at_call 21; exact quiet_more_same (HIB.out _)))
              go_wp2_with (fail)
              go_roundg (s.size - (k' + m))
              case measure => rw [HG.out]; omega
              case rel => exact ⟨k' + m, by omega, rfl, (hr.drewN _).moveI _ (k' + m) (by omega), (hu.drewN _).set (.inl rfl) _, HTT2⟩
          · have HT2 : Hid (k' = T) := by
              have := H.out; rw [HD.out] at this; simp only [Lexy.skp] at this
              rw [if_neg hb, if_neg (by rw [List.head?_drop]; simp [h2])] at this; exact this
            have HPK : Hid (∀ w : World, w.cell? ⟨b, 0, none⟩ = some (.string s) → w.cell? ⟨b, 1, none⟩ = some (.int .i64 k') →
                ∃ d : UInt8, ((d.toNat : Int) == 47) = false ∧ Calls Tryd.prog 20 #[.pointer (some ⟨b, 0, none⟩), .int .i64 1] w fun e w' => e = .returned (.int .u8 d.toNat) ∧ ∃ n, w' = w.drewN n) := by
              intro w h0 h1
              by_cases hlt2 : k' + 1 < s.size
              · have hx : k' + 1 < l.length := by rw [HS.out]; exact hlt2
                have hg : l[k' + 1]? = some l[k' + 1] := List.getElem?_eq_getElem hx
                refine ⟨l[k' + 1], byte_ne (d := 47) (fun e => h2 (by rw [hg, e])), ?_⟩
                exact peek_in b s k' 1 _ w h0 h1 hm (by omega) (by omega) hlt2 (by rw [HL.out]; exact hg)
              · exact ⟨0, by decide, peek_out b s k' 1 w h0 h1 hm (by omega) (by omega) (by omega)⟩
            clear hb h2
            go_wp2
            go_quiet (fail)
            go_wp2
            go_quiet (fail)
            go_wp2_with (fail)
            obtain ⟨d, hd47, hcall⟩ := HPK.out (wr.drewN (_ + _)) (by go_simp) (by go_simp)
            have HCL := Lib.hid hcall
            clear hcall
            refine (HCL.out).mono ?_
            rintro e w1 ⟨rfl, n1, rfl⟩
            go_wp2
            refine bodyPost_ret (results_none rfl _ _ _) rfl ?_
            refine ⟨rfl, ?_, hu.drewN _⟩
            rw [← HT2.out]; exact hr
        · have n5 : ((c.toNat : Int) == 47) = false := byte_ne h47
          have HT2 : Hid (k' = T) := by
            have := H.out; rw [HD.out] at this; simp only [Lexy.skp] at this
            rw [if_neg hb, if_neg (by simp [h47])] at this; exact this
          clear hb
          go_wp2
          go_quiet (fail)
          go_wp2
          go_quiet (fail)
          go_wp2
          refine bodyPost_ret (results_none rfl _ _ _) rfl ?_
          refine ⟨rfl, ?_, hu.drewN _⟩
          rw [← HT2.out]; exact hr
    · have hl1 : decide ((k' : Int) < s.size) = false := by simp; omega
      go_wp2
      go_quiet (fail)
      go_wp2
      refine bodyPost_end (results_none rfl _ _ _) rfl ?_
      refine ⟨rfl, ?_, hu.drewN _⟩
      have e : l.drop k' = [] := List.drop_eq_nil_of_le (by rw [HS.out]; omega)
      have e2 := H.out
      rw [e] at e2
      simp only [Lexy.skp] at e2
      rw [← e2]; exact hr
end Go.Proofs.YtgeaphapnoiniaaDoor
