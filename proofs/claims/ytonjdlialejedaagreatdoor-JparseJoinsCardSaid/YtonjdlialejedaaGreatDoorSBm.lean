/-
  Texts that the law leans on: PlJ, LexB, PxF. Conditions: as each says.
-/
import Derived.Test.YtonjdlialejedaaGreatDoorSBk
import Derived.Test.YtonjdlialejedaaGreatDoorSBl
import Derived.Test.YtonjdlialejedaaGreatDoorSBh
import Derived.Test.YtonjdlialejedaaGreatDoorSAt
import Derived.Test.YtonjdlialejedaaGreatDoorSAa
import Derived.Test.YtonjdlialejedaaGreatDoorSAk
import Derived.Maps.AppendAt
set_option linter.unusedSimpArgs false
set_option linter.unusedVariables false
namespace Wri
open Pars
open Lexy (Tk sg kw nm)
theorem stmt_ne {x r : Node} {l m : List Tk} (h : Ev .statement false false l x m) : l ≠ [] := by
 rintro rfl
 obtain ⟨n, h⟩ := h.one
 rw [eats _ .statement _ _ rfl] at h
 cases h
theorem tw_pos {x : Node} (h1 : Rt false false x) (h2 : 20 ≤ x.kind) : 0 < (tw x .stmt).length := by
 have := stmt_ne (r := x) ((ps h1).stmt h2 [] ⟨rfl, rfl, rfl⟩)
 rw [List.append_nil] at this
 exact List.length_pos_iff.2 this
theorem flat_len : ∀ l : List Node, (∀ x ∈ l, Rt false false x) → (∀ x ∈ l, 20 ≤ x.kind) → l.length ≤ (l.flatMap fun x => tw x .stmt).length
 | [], _, _ => by simp
 | x :: l, h1, h2 => by
  have := flat_len l (fun y hy => h1 y (by simp [hy])) fun y hy => h2 y (by simp [hy])
  have := tw_pos (h1 x (by simp)) (h2 x (by simp))
  simp only [List.flatMap_cons, List.length_append, List.length_cons]; omega
end Wri
namespace Lexy
def SO : Bs := [32, 9, 47, 47, 32, 115, 111, 10]
def so (first : Bool) (g : Bs) : Bs := if !first && !(g.contains 47) then SO else []
end Lexy
namespace Go.Proofs.YtonjdlialejedaaGreatDoor
open Go.Lib (hid)
open Go.RowKit
theorem NodesAt.app {w : World} {S : Nat → Prop} {l2 : List Pars.Node} {c2 : List (Array Value)} (h2 : NodesAt w S l2 c2) : ∀ {l : List Pars.Node} {cs : List (Array Value)}, NodesAt w S l cs → NodesAt w S (l ++ l2) (cs ++ c2)
 | [], [], _ => by simpa using h2
 | m :: l, d :: cs, h => by unfold NodesAt at h; simp only [List.cons_append]; unfold NodesAt; exact ⟨h.1, NodesAt.app h2 h.2⟩
 | [], _ :: _, h => by unfold NodesAt at h; exact h.elim
 | _ :: _, [], h => by unfold NodesAt at h; exact h.elim
theorem KO.empty {w : World} {oa g : Nat} (hx : Box w g 24 #[]) (hne : g ≠ oa) : KO w 0 oa [] (.slice (some ⟨g, 0, none⟩) 0 0) :=
 ⟨by simp only [Value.ownBlock]; intro e; injection e with e; exact hne e, [], box_own (cur := []) (Nat.zero_le _) hx (Nat.le_refl _) (by omega) rfl rfl rfl, by unfold NodesAt; trivial⟩
theorem NodeAt.slice {w : World} {S : Nat → Prop} {k n : Int} {t : List UInt8} {l : List Pars.Node} {cs : Array Value} (h : NodeAt w S (.mk k n t l) cs) : ∃ A c, cs = nc k n t (.slice A l.length c) := by
 unfold NodeAt at h
 obtain ⟨A, c, css, e, _⟩ := h
 exact ⟨A, c, e⟩
end Go.Proofs.YtonjdlialejedaaGreatDoor
