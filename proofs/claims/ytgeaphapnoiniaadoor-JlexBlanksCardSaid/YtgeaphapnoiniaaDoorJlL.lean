/-
  Tokens, of whatever text; the four tokens that live. Conditions: the library's table lies where it lies.
-/
import Derived.Test.YtgeaphapnoiniaaDoorJlK
namespace Go.Proofs.YtgeaphapnoiniaaDoor
open Go.RowKit

theorem tokens_any (s : ByteArray) (w : World) (he : Env w) (h4 : 4 ≤ w.heap.size) (hm : s.size ≤ 9223372036854775807) :
    Calls Tryd.prog 7 #[.string s] w fun e w' => TokOut w (Lexy.toks s.data.toList) e w' := by
  have hl : s.data.toList.length = s.size := by simp
  unfold Lexy.toks
  rw [hl]
  by_cases hb : 2000 < s.size
  · rw [if_pos hb]
    have ht0 : decide ((2000 : Int) < (s.size : Int)) = true := by simp; omega
    go_enter Tryd.func7, Tryd.ntmps7
    go_wp2
    go_ret2
    exact ⟨rfl, Below.refl _ _⟩
  · rw [if_neg hb]
    exact tokens_small s w he h4 (by omega)

def livesText : Lexy.Bs := [108, 101, 116, 32, 97, 49, 60, 61, 34, 120, 92, 110, 34, 32, 47, 47, 32, 115, 111]
def livesToks : List Lexy.Tok := [⟨⟨5, [108, 101, 116], 0⟩, 0, 3⟩, ⟨⟨1, [97, 49], 0⟩, 4, 6⟩, ⟨⟨4, [60, 61], 0⟩, 6, 8⟩, ⟨⟨3, [120, 10], 0⟩, 8, 13⟩]
theorem lives_toks : Lexy.toks livesText = .ok livesToks := by decide +kernel

/-- a row of tokens of one's own is no nil where it has one; its cells. -/
theorem own_cells {w : World} {base : Nat} {A : Option Addr} {n cap : Nat} {xs : List Value} (h : w.ownsRow base 28 5 (.slice A n cap) n xs) (hn : 0 < n) :
    ∃ g, A = some ⟨g, 0, none⟩ ∧ base ≤ g ∧ g < w.heap.size ∧ ∀ j u, xs[j]? = some u → w.cell? ⟨g, j, none⟩ = some u := by
  rcases h.2 with ⟨hv, h0⟩ | ⟨g, cap', cur, hv, hb, hg, _⟩
  · omega
  · injection hv with hA _ _
    subst hA
    refine ⟨g, rfl, hb, (Array.getElem?_eq_some_iff.1 hg).1, fun j u hu => ?_⟩
    have := h.cells (g := g) rfl j u hu
    have e : (⟨g, 0, none⟩ : Addr).add j = ⟨g, j, none⟩ := by unfold Addr.add; split <;> simp_all
    rwa [e] at this

set_option maxRecDepth 100000 in
set_option maxHeartbeats 1000000 in
theorem lives_true (w : World) (he : Env w) (h4 : 4 ≤ w.heap.size) : Calls Tryd.prog 8 #[] w fun e w' => e = .returned (.bool true) ∧ Below w.heap.size w w' := by
  have HT : Hid (Calls Tryd.prog 7 #[.string (bytes livesText)] w fun e w' => TokOut w (.ok livesToks) e w') := by
    have := tokens_any (bytes livesText) w he h4 (by decide)
    rw [← lives_toks]; exact this
  go_enter Tryd.func8, Tryd.ntmps8
  go_wp2_with (fail)
  refine (HT.out).mono ?_
  rintro e w1 ⟨A, cap, rfl, hown, hbl⟩
  obtain ⟨g, rfl, hg1, hg2, hc⟩ := own_cells hown (by decide)
  have c0 : w1.cell? ⟨g, 0, none⟩ = some (.int .i64 5) := hc 0 _ rfl
  have c8 : w1.cell? ⟨g, 8, none⟩ = some (.string ⟨#[97, 49]⟩) := hc 8 _ rfl
  have c13 : w1.cell? ⟨g, 13, none⟩ = some (.string ⟨#[60, 61]⟩) := hc 13 _ rfl
  have c18 : w1.cell? ⟨g, 18, none⟩ = some (.string ⟨#[120, 10]⟩) := hc 18 _ rfl
  have c17 : w1.cell? ⟨g, 17, none⟩ = some (.int .i64 13) := hc 17 _ rfl
  clear hc hown
  go_wp2
  go_ret
  exact ⟨rfl, hbl⟩

set_option maxHeartbeats 400000 in
/-- ok of two errors. -/
theorem ok_two' (g : Nat) (a b : Int) (w : World) (ha : w.cell? ⟨g, 0, none⟩ = some (.int .i64 a)) (hb : w.cell? ⟨g, 1, none⟩ = some (.int .i64 b)) (c : Nat) :
    Calls Tryd.prog 9 #[.slice (some ⟨g, 0, none⟩) 2 c] w fun e w' => e = .returned (.bool (a == 0 && b == 0)) ∧ w = w' := by
  cases ha0 : (a == 0) with
  | false =>
    go_enter Tryd.func9, Tryd.ntmps9
    go_wp2
    refine wp_loop_rounds 3 ?_
    rw [rounds_succ]
    go_wp2
    go_ret
    exact ⟨by simp, rfl⟩
  | true =>
    cases hb0 : (b == 0) with
    | false =>
      go_enter Tryd.func9, Tryd.ntmps9
      go_wp2
      refine wp_loop_rounds 3 ?_
      rw [rounds_succ]
      go_wp2
      rw [rounds_succ]
      go_wp2
      go_ret
      exact ⟨by simp, rfl⟩
    | true =>
      go_enter Tryd.func9, Tryd.ntmps9
      go_wp2
      refine wp_loop_rounds 3 ?_
      rw [rounds_succ]
      go_wp2
      rw [rounds_succ]
      go_wp2
      rw [rounds_succ]
      go_wp2
      go_ret
      exact ⟨by simp, rfl⟩
end Go.Proofs.YtgeaphapnoiniaaDoor
