/-
  Texts that the law leans on: PxG, ParL, MapF. Conditions: as each says.
-/
import Derived.Test.YtonjdlialejedaaGreatDoorXBo
import Derived.Test.YtonjdlialejedaaGreatDoorXBp
import Derived.Test.YtonjdlialejedaaGreatDoorXBc
import Derived.Test.YtonjdlialejedaaGreatDoorXAb
import Derived.Test.YtonjdlialejedaaGreatDoorXAc
import Derived.Maps.OwnSet
import Derived.Maps.Views
import Derived.StringKeys
import Derived.Test.YtonjdlialejedaaGreatDoorXAa
set_option linter.unusedSimpArgs false
set_option linter.unusedVariables false
namespace Go.Proofs.YtonjdlialejedaaGreatDoor
open Go.Lib (hid)
open Go.RowKit
theorem pc_wg {s : List UInt8} {n : Pars.Node} {k : Int} (h : PC s n k) : Wri.wg n ≤ 3001 := by
 rcases h with ⟨h, _⟩ | ⟨rfl, _⟩
 ·exact Pars.parse_wg h
 ·simp [Wri.wg, Wri.wgs]
theorem pc_size {s : List UInt8} {n : Pars.Node} {k : Int} (h : PC s n k) : Pars.size n ≤ 4611686018427387904 := by
 have h1 := pc_wg h
 have h2 := size_wg n
 omega
end Go.Proofs.YtonjdlialejedaaGreatDoor
namespace Pars
def rk (s : Bs) : Nat := if s = [43] then 4 else if s = [45] then 4 else if s = [42] then 5 else if s = [47] then 5 else if s = [37] then 5 else if s = [60] then 3 else if s = [61, 61] then 2 else if s = [38, 38] then 1 else 0
def lText (a b : Nat) : Bs := [120, 32] ++ sgn a ++ [32, 121, 32] ++ sgn b ++ [32, 122, 59]
def lLeft (a b : Nat) : Bs := [40, 120, 32] ++ sgn a ++ [32, 121, 41, 32] ++ sgn b ++ [32, 122, 59]
def lRight (a b : Nat) : Bs := [120, 32] ++ sgn a ++ [32, 40, 121, 32] ++ sgn b ++ [32, 122, 41, 59]
def okLeft (a b : Nat) : Bool := match parse (lText a b), parse (lLeft a b), parse (lRight a b) with
 | .ok n, .ok l, .ok r => same n (if rk (sgn b) ≤ rk (sgn a) then l else r)
 | _, _, _ => false
theorem left_all : ∀ a, a < 9 → ∀ b, b < 9 → okLeft a b = true := by decide +kernel
end Pars
namespace Go.Proofs.YtonjdlialejedaaGreatDoor
open Go.Lib (hid)
open Go.RowKit Go.Maps Go.ChangeMaps Go.MapKept
section
variable {α : Type} {r : Rdr α} {w : World} {b n : Nat} {f : List UInt8 → Option α}
theorem MapF.made (r : Rdr α) (w : World) : MapF r (w.alloc (.map #[] 0)) w.heap.size 0 (fun _ => none) := ⟨_, World.ownsMap_made w _ _ _, fun k => ⟨rfl, fun z => rfl⟩⟩
theorem elim_getD (x : Option α) (z : α) : x.elim (r.enc z) r.enc = r.enc (x.getD z) := by cases x <;> rfl
theorem MapF.look (h : MapF r w b n f) {t e : TypeId} (ht : Tryz.prog.underlying t = some (.map 9 e)) {z0 : α} (hz : (zeroValue e).run Tryz.prog w = .ok (r.val z0) w) (k : List UInt8) (hk : k.length ≤ maxLen) :
  (Instr.lookup t (.map (some b)) (.string (byt k)) false).run Tryz.prog w = .ok (r.val ((f k).getD z0)) w := by
 obtain ⟨D, h1, h2⟩ := h
 obtain ⟨v, ps, hrun, hv⟩ := h1.lookup txtKey ht hz (r.ok z0) (keyTxt k hk)
 rw [(h2 k).2, elim_getD] at hv
 rw [hrun, r.inv _ _ _ hv]
end
end Go.Proofs.YtonjdlialejedaaGreatDoor
