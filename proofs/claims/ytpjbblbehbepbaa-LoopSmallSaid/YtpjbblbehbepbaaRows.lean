/-
  No cell of these rows narrows 'for every input' (looked for: loops, veiled, ifaces, maps, wideKeys, modest, calm, conditions, laid).
  DERIVED. THE GIVEN ROWS OF THIS SEAT. 6 by the template 'for every input the law returns true; each argument reads behind the call as it read before'; 0 by the template 'total and deterministic' (their statements: YtpjbblbehbepbaaTotals.lean).
  GIVEN WITH THE SEED: the statements are not yours to turn. If you find one false, say at which input.
  Laid BY PROGRAM, IN A SANDBOX (cutbox-rows.mjs): the forced cells as the released guide's own fill.sh prints them over the translation 743db809372317dd… (all of the seat's roots in one cut). By AI agents, Wed Nov 11 2026. No macro, syntax, notation, axiom, sorry.
-/
import Derived.Test.YtpjbblbehbepbaaChecked
import GoSem.Claim
import GoSem.ClaimJoined
import GoSem.ClaimMapViews
import Derived.JoinedTies
import Derived.KernelRfl
namespace Go.Proofs.Ytpjbblbehbepbaa
/- THE CELL 'sum', in the pinned program and in every row, IS THE sha256 OF THE DUMP (.gsa) THAT YtpjbblbehbepbaaProg.lean LOADS. Nothing in Lean hashes anything: it is a label: what it is worth is what the hold of that sum in a sandbox is worth. -/
noncomputable def Try.pinned : Pinned := { name := "ytpjbblbehbepbaa", sum := "743db809372317ddaf31e1547342b3e520c663c49b600c3052e22b4581e6c76f", checked := Try.checked }
namespace Rows
def none {H : Type} : Left H := { results := [], args := [] }

/-- 'clerestorykeep4.LoopOnce': WHATEVER THE INPUT: true; the input reads as it did. -/
def loopOnceSpec : ChangeSpec := { name := "loopOnce", fn := fun _ => fun
  | [d] => { results := [.lit (.bool true)], args := [d] }
  | _ => none }
def loopOnceRow : OpenClaim := { program := "ytpjbblbehbepbaa", sum := "743db809372317ddaf31e1547342b3e520c663c49b600c3052e22b4581e6c76f", func := "clerestory/clerestorykeep4.LoopOnce", spec := "loopOnce", inPlace := ["slices.overlaps[clerestory/api.JTimer]"], unfollowed := true, recurses := true, apart := false }
def LoopOnceSaid : Prop := loopOnceRow.holds Try.pinned (OpenSpec.ofChange loopOnceSpec)

/-- ITS FALSE NEIGHBOUR: 'it returns false'. Refute it at one input. -/
def loopOnceWrong : ChangeSpec := { name := "loopOnce", fn := fun _ => fun
  | [d] => { results := [.lit (.bool false)], args := [d] }
  | _ => none }
def LoopOnceWrongFalsely : Prop := loopOnceRow.holds Try.pinned (OpenSpec.ofChange loopOnceWrong)

/-- 'clerestorykeep4.LoopRight': WHATEVER THE INPUT: true; the input reads as it did. -/
def loopRightSpec : ChangeSpec := { name := "loopRight", fn := fun _ => fun
  | [d1, d2, d3] => { results := [.lit (.bool true)], args := [d1, d2, d3] }
  | _ => none }
def loopRightRow : OpenClaim := { program := "ytpjbblbehbepbaa", sum := "743db809372317ddaf31e1547342b3e520c663c49b600c3052e22b4581e6c76f", func := "clerestory/clerestorykeep4.LoopRight", spec := "loopRight", inPlace := ["slices.overlaps[clerestory/api.JTimer]"], unfollowed := true, recurses := true, apart := false }
def LoopRightSaid : Prop := loopRightRow.holds Try.pinned (OpenSpec.ofChange loopRightSpec)

/-- ITS FALSE NEIGHBOUR: 'it returns false'. Refute it at one input. -/
def loopRightWrong : ChangeSpec := { name := "loopRight", fn := fun _ => fun
  | [d1, d2, d3] => { results := [.lit (.bool false)], args := [d1, d2, d3] }
  | _ => none }
def LoopRightWrongFalsely : Prop := loopRightRow.holds Try.pinned (OpenSpec.ofChange loopRightWrong)

/-- 'clerestorykeep4.LoopSmall': WHATEVER THE INPUT: true; the input reads as it did. -/
def loopSmallSpec : ChangeSpec := { name := "loopSmall", fn := fun _ => fun
  | [d1, d2] => { results := [.lit (.bool true)], args := [d1, d2] }
  | _ => none }
def loopSmallRow : OpenClaim := { program := "ytpjbblbehbepbaa", sum := "743db809372317ddaf31e1547342b3e520c663c49b600c3052e22b4581e6c76f", func := "clerestory/clerestorykeep4.LoopSmall", spec := "loopSmall", inPlace := ["slices.overlaps[clerestory/api.JTimer]"], unfollowed := true, recurses := true, apart := false }
def LoopSmallSaid : Prop := loopSmallRow.holds Try.pinned (OpenSpec.ofChange loopSmallSpec)

/-- ITS FALSE NEIGHBOUR: 'it returns false'. Refute it at one input. -/
def loopSmallWrong : ChangeSpec := { name := "loopSmall", fn := fun _ => fun
  | [d1, d2] => { results := [.lit (.bool false)], args := [d1, d2] }
  | _ => none }
def LoopSmallWrongFalsely : Prop := loopSmallRow.holds Try.pinned (OpenSpec.ofChange loopSmallWrong)

/-- 'clerestorykeep4.LoopTimes': WHATEVER THE INPUT: true; the input reads as it did. -/
def loopTimesSpec : ChangeSpec := { name := "loopTimes", fn := fun _ => fun
  | [d1, d2] => { results := [.lit (.bool true)], args := [d1, d2] }
  | _ => none }
def loopTimesRow : OpenClaim := { program := "ytpjbblbehbepbaa", sum := "743db809372317ddaf31e1547342b3e520c663c49b600c3052e22b4581e6c76f", func := "clerestory/clerestorykeep4.LoopTimes", spec := "loopTimes", inPlace := ["slices.overlaps[clerestory/api.JTimer]"], unfollowed := true, recurses := true, apart := false }
def LoopTimesSaid : Prop := loopTimesRow.holds Try.pinned (OpenSpec.ofChange loopTimesSpec)

/-- ITS FALSE NEIGHBOUR: 'it returns false'. Refute it at one input. -/
def loopTimesWrong : ChangeSpec := { name := "loopTimes", fn := fun _ => fun
  | [d1, d2] => { results := [.lit (.bool false)], args := [d1, d2] }
  | _ => none }
def LoopTimesWrongFalsely : Prop := loopTimesRow.holds Try.pinned (OpenSpec.ofChange loopTimesWrong)

/-- 'clerestorykeep4.LoopParts': WHATEVER THE INPUT: true; the input reads as it did. -/
def loopPartsSpec : ChangeSpec := { name := "loopParts", fn := fun _ => fun
  | [d1, d2, d3] => { results := [.lit (.bool true)], args := [d1, d2, d3] }
  | _ => none }
def loopPartsRow : OpenClaim := { program := "ytpjbblbehbepbaa", sum := "743db809372317ddaf31e1547342b3e520c663c49b600c3052e22b4581e6c76f", func := "clerestory/clerestorykeep4.LoopParts", spec := "loopParts", inPlace := ["slices.overlaps[clerestory/api.JTimer]"], unfollowed := true, recurses := true, apart := false }
def LoopPartsSaid : Prop := loopPartsRow.holds Try.pinned (OpenSpec.ofChange loopPartsSpec)

/-- ITS FALSE NEIGHBOUR: 'it returns false'. Refute it at one input. -/
def loopPartsWrong : ChangeSpec := { name := "loopParts", fn := fun _ => fun
  | [d1, d2, d3] => { results := [.lit (.bool false)], args := [d1, d2, d3] }
  | _ => none }
def LoopPartsWrongFalsely : Prop := loopPartsRow.holds Try.pinned (OpenSpec.ofChange loopPartsWrong)

/-- 'clerestorykeep4.LoopCancel': WHATEVER THE INPUT: true; the input reads as it did. -/
def loopCancelSpec : ChangeSpec := { name := "loopCancel", fn := fun _ => fun
  | [d1, d2] => { results := [.lit (.bool true)], args := [d1, d2] }
  | _ => none }
def loopCancelRow : OpenClaim := { program := "ytpjbblbehbepbaa", sum := "743db809372317ddaf31e1547342b3e520c663c49b600c3052e22b4581e6c76f", func := "clerestory/clerestorykeep4.LoopCancel", spec := "loopCancel", inPlace := ["slices.overlaps[clerestory/api.JTimer]"], unfollowed := true, recurses := true, apart := false }
def LoopCancelSaid : Prop := loopCancelRow.holds Try.pinned (OpenSpec.ofChange loopCancelSpec)

/-- ITS FALSE NEIGHBOUR: 'it returns false'. Refute it at one input. -/
def loopCancelWrong : ChangeSpec := { name := "loopCancel", fn := fun _ => fun
  | [d1, d2] => { results := [.lit (.bool false)], args := [d1, d2] }
  | _ => none }
def LoopCancelWrongFalsely : Prop := loopCancelRow.holds Try.pinned (OpenSpec.ofChange loopCancelWrong)

/- THE SECOND FORM. 'bulk': how many values and letters a reading holds, each counted each time it is reached (what is shared counts as often as it is met; a slice's spare places count too). A statement '..UptoSaid' is the law's where the arguments, and the package variables that the reading takes, are together of bulk at most 1048576: NARROWER than '..Said'. Prove '..Said' where nothing that the law and all that it calls make is longer than what came in: it says more and counts as full. Else prove '..UptoSaid'. A law counts once. -/
mutual
def uptoBulk {H : Type} : DataW H → Nat
  | .lit (.string bytes) => bytes.length + 1
  | .lit _ => 1
  | .nil => 1
  | .ptr d => uptoBulk d + 1
  | .slice elems spare => uptoBulkAll elems + uptoBulkAll spare + 1
  | .agg parts => uptoBulkAll parts + 1
  | .iface _ d => uptoBulk d + 1
  | .map entries => uptoBulkEntries entries + 1
  | .held _ => 1
def uptoBulkAll {H : Type} : List (DataW H) → Nat
  | [] => 0
  | d :: r => uptoBulk d + uptoBulkAll r
def uptoBulkEntries {H : Type} : List (Lit × DataW H) → Nat
  | [] => 0
  | x :: r => uptoBulkEntry x + uptoBulkEntries r
def uptoBulkEntry {H : Type} : Lit × DataW H → Nat
  | (.string bytes, d) => bytes.length + uptoBulk d + 1
  | (_, d) => uptoBulk d + 1
 end
def uptoSmall : (H : Type) → List (DataW H) → Bool := fun _ ds => decide (uptoBulkAll ds ≤ 1048576)
def OpenSpec.upto (s : _root_.Go.ChangeSpec) : _root_.Go.OpenSpec := { _root_.Go.OpenSpec.ofChange s with cond := some uptoSmall }

/-- 'clerestorykeep4.LoopOnce', WHERE WHAT IT READS IS OF BULK AT MOST 1048576: true; the input reads as it did. -/
def loopOnceUptoRow : OpenClaim := { program := "ytpjbblbehbepbaa", sum := "743db809372317ddaf31e1547342b3e520c663c49b600c3052e22b4581e6c76f", func := "clerestory/clerestorykeep4.LoopOnce", spec := "loopOnce", inPlace := ["slices.overlaps[clerestory/api.JTimer]"], unfollowed := true, recurses := true, apart := false, narrowed := true }
def LoopOnceUptoSaid : Prop := loopOnceUptoRow.holds Try.pinned (OpenSpec.upto loopOnceSpec)

/-- 'clerestorykeep4.LoopRight', WHERE WHAT IT READS IS OF BULK AT MOST 1048576: true; the input reads as it did. -/
def loopRightUptoRow : OpenClaim := { program := "ytpjbblbehbepbaa", sum := "743db809372317ddaf31e1547342b3e520c663c49b600c3052e22b4581e6c76f", func := "clerestory/clerestorykeep4.LoopRight", spec := "loopRight", inPlace := ["slices.overlaps[clerestory/api.JTimer]"], unfollowed := true, recurses := true, apart := false, narrowed := true }
def LoopRightUptoSaid : Prop := loopRightUptoRow.holds Try.pinned (OpenSpec.upto loopRightSpec)

/-- 'clerestorykeep4.LoopSmall', WHERE WHAT IT READS IS OF BULK AT MOST 1048576: true; the input reads as it did. -/
def loopSmallUptoRow : OpenClaim := { program := "ytpjbblbehbepbaa", sum := "743db809372317ddaf31e1547342b3e520c663c49b600c3052e22b4581e6c76f", func := "clerestory/clerestorykeep4.LoopSmall", spec := "loopSmall", inPlace := ["slices.overlaps[clerestory/api.JTimer]"], unfollowed := true, recurses := true, apart := false, narrowed := true }
def LoopSmallUptoSaid : Prop := loopSmallUptoRow.holds Try.pinned (OpenSpec.upto loopSmallSpec)

/-- 'clerestorykeep4.LoopTimes', WHERE WHAT IT READS IS OF BULK AT MOST 1048576: true; the input reads as it did. -/
def loopTimesUptoRow : OpenClaim := { program := "ytpjbblbehbepbaa", sum := "743db809372317ddaf31e1547342b3e520c663c49b600c3052e22b4581e6c76f", func := "clerestory/clerestorykeep4.LoopTimes", spec := "loopTimes", inPlace := ["slices.overlaps[clerestory/api.JTimer]"], unfollowed := true, recurses := true, apart := false, narrowed := true }
def LoopTimesUptoSaid : Prop := loopTimesUptoRow.holds Try.pinned (OpenSpec.upto loopTimesSpec)

/-- 'clerestorykeep4.LoopParts', WHERE WHAT IT READS IS OF BULK AT MOST 1048576: true; the input reads as it did. -/
def loopPartsUptoRow : OpenClaim := { program := "ytpjbblbehbepbaa", sum := "743db809372317ddaf31e1547342b3e520c663c49b600c3052e22b4581e6c76f", func := "clerestory/clerestorykeep4.LoopParts", spec := "loopParts", inPlace := ["slices.overlaps[clerestory/api.JTimer]"], unfollowed := true, recurses := true, apart := false, narrowed := true }
def LoopPartsUptoSaid : Prop := loopPartsUptoRow.holds Try.pinned (OpenSpec.upto loopPartsSpec)

/-- 'clerestorykeep4.LoopCancel', WHERE WHAT IT READS IS OF BULK AT MOST 1048576: true; the input reads as it did. -/
def loopCancelUptoRow : OpenClaim := { program := "ytpjbblbehbepbaa", sum := "743db809372317ddaf31e1547342b3e520c663c49b600c3052e22b4581e6c76f", func := "clerestory/clerestorykeep4.LoopCancel", spec := "loopCancel", inPlace := ["slices.overlaps[clerestory/api.JTimer]"], unfollowed := true, recurses := true, apart := false, narrowed := true }
def LoopCancelUptoSaid : Prop := loopCancelUptoRow.holds Try.pinned (OpenSpec.upto loopCancelSpec)

end Rows
end Go.Proofs.Ytpjbblbehbepbaa
