/-
  slices.Insert of one timer, in a row of the call's own. Conditions: as each says.
-/
import Derived.Test.YtpjbblbehbepbaaLpE
import Derived.Lib.AppendZerosOnto
import Derived.Lib.Overlaps
import Derived.Laws.Externs
namespace Go.Proofs.Ytpjbblbehbepbaa
set_option linter.unusedSimpArgs false
set_option linter.unusedVariables false
open Go.RowKit

/-- the row that came in, grown by what was inserted; it lies where it lay, or in new memory. -/
def InsOut (w : World) (base E k n : Nat) (go : Option Nat) (xs : List Value) (e : Ending) (w' : World) : Prop :=
  ∃ g cap, e = .returned (.slice (some ⟨g, 0, none⟩) n cap) ∧ w'.ownsRow base E k (.slice (some ⟨g, 0, none⟩) n cap) n xs ∧ (go = some g ∨ w.heap.size ≤ g) ∧ g < w'.heap.size ∧ w.grownBy w' go
theorem size_timer (w : World) : (Go.sizeOf 49).run Try.prog w = .ok 5 w := by kernel_rfl

set_option maxHeartbeats 2000000 in
/-- at the end. -/
theorem insert_end (l : List Loopy.Timer) (t : Loopy.Timer) (base : Nat) (v : Value) (w : World) (hown : w.ownsRow base 49 5 v l.length (flat tc l)) (hbase : base ≤ w.heap.size) (vb : Nat) (hvb : Box w vb 49 (tc t)) (hl : l.length ≤ 1000000) :
    Calls Try.prog 50 #[v, .int .i64 (l.length : Int), .slice (some ⟨vb, 0, none⟩) 1 1] w fun e w' => InsOut w base 49 5 (l.length + 1) v.ownBlock (flat tc (l ++ [t])) e w' := by
  obtain ⟨i0, hi0, hz0, hz1, hz2⟩ := info_parts parts_timer
  have hnews := Lib.hid (World.news_of_block hvb)
  have hone : Hid (∀ u ∈ (tc t).toList, u.oneCell' = true) := by intro u hu; have := flat_one (f := tc) tc_one [t] u (by simpa [flat] using hu); exact this
  have e1 : flat tc (l ++ [t]) = flat tc l ++ (tc t).toList := by simp [flat]
  rw [e1]
  clear e1
  rcases hown.2 with ⟨rfl, h0⟩ | ⟨g, cap, cur, rfl, hb, hg, hnc, hcm, _⟩
  · have HW := Lib.hid hown
    obtain ⟨n, hn⟩ : ∃ n, l.length = n := ⟨_, rfl⟩
    rw [hn] at HW h0 ⊢
    subst h0
    have hnn : ((0 : Nat) : Int) = 0 := rfl
    clear hown hn
    go_enter Try.func50, Try.ntmps50
    go_wp2_with (at_builtin; refine wpList_append_lies _ rfl (.tmp 23) (.tmp 24) 24 rfl base 49 i0 _ 5 48 Try.underlying24 hi0 hz0 hz1 hz2 rfl (by decide) _ 0 (flat tc l) rfl HW.out ⟨vb, 0, none⟩ 1 1 (tc t).toList rfl rfl hnews.out hone.out (by omega) (by unfold maxLen; omega) (by omega) hbase w.heap.size rfl ?_; intro g7 cap7 w7 hown7 hgrow7 hor7 hlt7)
    go_ret
    exact ⟨g7, cap7, rfl, hown7, by rcases hor7 with h | h; exact .inl h; exact .inr (by omega), hlt7, hgrow7⟩
  · have HW := Lib.hid hown
    have hcap2 : cap ≤ 9223372036854775807 := by unfold maxLen at hcm; omega
    clear hown hg hcm
    go_enter Try.func50, Try.ntmps50
    go_wp2_with (at_builtin; refine wpList_append_lies _ rfl (.tmp 23) (.tmp 24) 24 rfl base 49 i0 _ 5 48 Try.underlying24 hi0 hz0 hz1 hz2 rfl (by decide) _ l.length (flat tc l) rfl HW.out ⟨vb, 0, none⟩ 1 1 (tc t).toList rfl rfl hnews.out hone.out (by omega) (by unfold maxLen; omega) (by omega) hbase w.heap.size rfl ?_; intro g7 cap7 w7 hown7 hgrow7 hor7 hlt7)
    all_goals
      go_ret
      exact ⟨g7, cap7, rfl, hown7, by rcases hor7 with h | h; exact .inl h; exact .inr (by omega), hlt7, hgrow7⟩
end Go.Proofs.Ytpjbblbehbepbaa
