/-
  NARROWER THAN 'FOR EVERY INPUT', by the rows' own cells (each row's printed sentence says how): EventPath: laid · EventStops: laid · EventOnce: laid · EventPrevents: laid · EventOrder: laid.
  DERIVED. THE GIVEN ROWS OF THIS SEAT. 5 by the template 'for every input the law returns true; each argument reads behind the call as it read before'; 0 by the template 'total and deterministic' (their statements: YtdommcjlpibpeaaDoorTotals.lean).
  GIVEN WITH THE SEED: the statements are not yours to turn. If you find one false, say at which input.
  Laid BY PROGRAM, IN A SANDBOX (cutbox-rows.mjs): the forced cells as the released guide's own fill.sh prints them over the translation d9ab08048a5f0c54… (all of the seat's roots in one cut). By AI agents, Wed Nov 11 2026. No macro, syntax, notation, axiom, sorry.
-/
import Derived.Test.YtdommcjlpibpeaaDoorChecked
import GoSem.PinnedTables
import GoSem.Claim
import GoSem.ClaimJoined
import GoSem.ClaimMapViews
import Derived.JoinedTies
import Derived.KernelRfl
namespace Go.Proofs.YtdommcjlpibpeaaDoor
/- THE CELL 'sum', in the pinned program and in every row, IS THE sha256 OF THE DUMP (.gsa) THAT YtdommcjlpibpeaaDoorProg.lean LOADS. Nothing in Lean hashes anything: it is a label: what it is worth is what the hold of that sum in a sandbox is worth. -/
noncomputable def Tryd.pinned : Pinned := { name := "ytdommcjlpibpeaadoor", sum := "d9ab08048a5f0c54fc13cb6485f70c6c6e5902f5076e09bf16a64f4a39167900", checked := Tryd.checked }
namespace Rows
def none {H : Type} : Left H := { results := [], args := [] }

/- WHAT THE LISTED PACKAGE-LEVEL VARIABLES READ AS WHEN THE CALL BEGINS. Each datum BY PROGRAM (the guide's laid-datum.mjs) off the statement by which the dump's own 'gosem.cut.vars' lays the variable. In a bare row this is a premise. The card (YtdommcjlpibpeaaDoorCards.lean) ties it to the program's text. -/
def laid_unicode_utf8_acceptRanges {H : Type} : DataW H := .agg [.agg [.lit (.int .u8 128), .lit (.int .u8 191)], .agg [.lit (.int .u8 160), .lit (.int .u8 191)], .agg [.lit (.int .u8 128), .lit (.int .u8 159)], .agg [.lit (.int .u8 144), .lit (.int .u8 191)], .agg [.lit (.int .u8 128), .lit (.int .u8 143)], .agg [.lit (.int .u8 0), .lit (.int .u8 0)], .agg [.lit (.int .u8 0), .lit (.int .u8 0)], .agg [.lit (.int .u8 0), .lit (.int .u8 0)], .agg [.lit (.int .u8 0), .lit (.int .u8 0)], .agg [.lit (.int .u8 0), .lit (.int .u8 0)], .agg [.lit (.int .u8 0), .lit (.int .u8 0)], .agg [.lit (.int .u8 0), .lit (.int .u8 0)], .agg [.lit (.int .u8 0), .lit (.int .u8 0)], .agg [.lit (.int .u8 0), .lit (.int .u8 0)], .agg [.lit (.int .u8 0), .lit (.int .u8 0)], .agg [.lit (.int .u8 0), .lit (.int .u8 0)]]
/-- One of Go's own tables, pinned by name: the form's constant. -/
def laid_unicode_utf8_first : DataW Unit := Go.Pinned.utf8First

/-- 'clerestorykeep4.EventPath': WHATEVER THE INPUT: true; the input reads as it did. -/
def eventPathSpec : ChangeSpec := { name := "eventPath", fn := fun _ => fun
  | [d1, d2, d3] => { results := [.lit (.bool true)], args := [d1, d2, d3] }
  | _ => none }
def eventPathRow : OpenClaim := { program := "ytdommcjlpibpeaadoor", sum := "d9ab08048a5f0c54fc13cb6485f70c6c6e5902f5076e09bf16a64f4a39167900", func := "clerestory/clerestorykeep4.EventPath", spec := "eventPath", inPlace := ["internal/bytealg.IndexByteString", "internal/bytealg.IndexString"], unfollowed := true, recurses := true, named := ["unicode/utf8.first", "unicode/utf8.acceptRanges", "internal/bytealg.MaxLen"], apart := false, laid := [("unicode/utf8.acceptRanges", laid_unicode_utf8_acceptRanges), ("unicode/utf8.first", laid_unicode_utf8_first)] }
def EventPathSaid : Prop := eventPathRow.holds Tryd.pinned (OpenSpec.ofChange eventPathSpec)

/-- ITS FALSE NEIGHBOUR: 'it returns false'. Refute it at one input. -/
def eventPathWrong : ChangeSpec := { name := "eventPath", fn := fun _ => fun
  | [d1, d2, d3] => { results := [.lit (.bool false)], args := [d1, d2, d3] }
  | _ => none }
def EventPathWrongFalsely : Prop := eventPathRow.holds Tryd.pinned (OpenSpec.ofChange eventPathWrong)

/-- 'clerestorykeep4.EventStops': WHATEVER THE INPUT: true; the input reads as it did. -/
def eventStopsSpec : ChangeSpec := { name := "eventStops", fn := fun _ => fun
  | [d1, d2, d3] => { results := [.lit (.bool true)], args := [d1, d2, d3] }
  | _ => none }
def eventStopsRow : OpenClaim := { program := "ytdommcjlpibpeaadoor", sum := "d9ab08048a5f0c54fc13cb6485f70c6c6e5902f5076e09bf16a64f4a39167900", func := "clerestory/clerestorykeep4.EventStops", spec := "eventStops", inPlace := ["internal/bytealg.IndexByteString", "internal/bytealg.IndexString"], unfollowed := true, recurses := true, named := ["unicode/utf8.first", "unicode/utf8.acceptRanges", "internal/bytealg.MaxLen"], apart := false, laid := [("unicode/utf8.acceptRanges", laid_unicode_utf8_acceptRanges), ("unicode/utf8.first", laid_unicode_utf8_first)] }
def EventStopsSaid : Prop := eventStopsRow.holds Tryd.pinned (OpenSpec.ofChange eventStopsSpec)

/-- ITS FALSE NEIGHBOUR: 'it returns false'. Refute it at one input. -/
def eventStopsWrong : ChangeSpec := { name := "eventStops", fn := fun _ => fun
  | [d1, d2, d3] => { results := [.lit (.bool false)], args := [d1, d2, d3] }
  | _ => none }
def EventStopsWrongFalsely : Prop := eventStopsRow.holds Tryd.pinned (OpenSpec.ofChange eventStopsWrong)

/-- 'clerestorykeep4.EventOnce': WHATEVER THE INPUT: true; the input reads as it did. -/
def eventOnceSpec : ChangeSpec := { name := "eventOnce", fn := fun _ => fun
  | [d1, d2, d3] => { results := [.lit (.bool true)], args := [d1, d2, d3] }
  | _ => none }
def eventOnceRow : OpenClaim := { program := "ytdommcjlpibpeaadoor", sum := "d9ab08048a5f0c54fc13cb6485f70c6c6e5902f5076e09bf16a64f4a39167900", func := "clerestory/clerestorykeep4.EventOnce", spec := "eventOnce", inPlace := ["internal/bytealg.IndexByteString", "internal/bytealg.IndexString"], unfollowed := true, recurses := true, named := ["unicode/utf8.first", "unicode/utf8.acceptRanges", "internal/bytealg.MaxLen"], apart := false, laid := [("unicode/utf8.acceptRanges", laid_unicode_utf8_acceptRanges), ("unicode/utf8.first", laid_unicode_utf8_first)] }
def EventOnceSaid : Prop := eventOnceRow.holds Tryd.pinned (OpenSpec.ofChange eventOnceSpec)

/-- ITS FALSE NEIGHBOUR: 'it returns false'. Refute it at one input. -/
def eventOnceWrong : ChangeSpec := { name := "eventOnce", fn := fun _ => fun
  | [d1, d2, d3] => { results := [.lit (.bool false)], args := [d1, d2, d3] }
  | _ => none }
def EventOnceWrongFalsely : Prop := eventOnceRow.holds Tryd.pinned (OpenSpec.ofChange eventOnceWrong)

/-- 'clerestorykeep4.EventPrevents': WHATEVER THE INPUT: true; the input reads as it did. -/
def eventPreventsSpec : ChangeSpec := { name := "eventPrevents", fn := fun _ => fun
  | [d1, d2, d3] => { results := [.lit (.bool true)], args := [d1, d2, d3] }
  | _ => none }
def eventPreventsRow : OpenClaim := { program := "ytdommcjlpibpeaadoor", sum := "d9ab08048a5f0c54fc13cb6485f70c6c6e5902f5076e09bf16a64f4a39167900", func := "clerestory/clerestorykeep4.EventPrevents", spec := "eventPrevents", inPlace := ["internal/bytealg.IndexByteString", "internal/bytealg.IndexString"], unfollowed := true, recurses := true, named := ["unicode/utf8.first", "unicode/utf8.acceptRanges", "internal/bytealg.MaxLen"], apart := false, laid := [("unicode/utf8.acceptRanges", laid_unicode_utf8_acceptRanges), ("unicode/utf8.first", laid_unicode_utf8_first)] }
def EventPreventsSaid : Prop := eventPreventsRow.holds Tryd.pinned (OpenSpec.ofChange eventPreventsSpec)

/-- ITS FALSE NEIGHBOUR: 'it returns false'. Refute it at one input. -/
def eventPreventsWrong : ChangeSpec := { name := "eventPrevents", fn := fun _ => fun
  | [d1, d2, d3] => { results := [.lit (.bool false)], args := [d1, d2, d3] }
  | _ => none }
def EventPreventsWrongFalsely : Prop := eventPreventsRow.holds Tryd.pinned (OpenSpec.ofChange eventPreventsWrong)

/-- 'clerestorykeep4.EventOrder': WHATEVER THE INPUT: true; the input reads as it did. -/
def eventOrderSpec : ChangeSpec := { name := "eventOrder", fn := fun _ => fun
  | [d1, d2, d3] => { results := [.lit (.bool true)], args := [d1, d2, d3] }
  | _ => none }
def eventOrderRow : OpenClaim := { program := "ytdommcjlpibpeaadoor", sum := "d9ab08048a5f0c54fc13cb6485f70c6c6e5902f5076e09bf16a64f4a39167900", func := "clerestory/clerestorykeep4.EventOrder", spec := "eventOrder", inPlace := ["internal/bytealg.IndexByteString", "internal/bytealg.IndexString"], unfollowed := true, recurses := true, named := ["unicode/utf8.first", "unicode/utf8.acceptRanges", "internal/bytealg.MaxLen"], apart := false, laid := [("unicode/utf8.acceptRanges", laid_unicode_utf8_acceptRanges), ("unicode/utf8.first", laid_unicode_utf8_first)] }
def EventOrderSaid : Prop := eventOrderRow.holds Tryd.pinned (OpenSpec.ofChange eventOrderSpec)

/-- ITS FALSE NEIGHBOUR: 'it returns false'. Refute it at one input. -/
def eventOrderWrong : ChangeSpec := { name := "eventOrder", fn := fun _ => fun
  | [d1, d2, d3] => { results := [.lit (.bool false)], args := [d1, d2, d3] }
  | _ => none }
def EventOrderWrongFalsely : Prop := eventOrderRow.holds Tryd.pinned (OpenSpec.ofChange eventOrderWrong)

/- THE SECOND FORM. 'bulk': how many values and letters a reading holds, each counted each time it is reached (what is shared counts as often as it is met; a slice's spare places count too). A statement '..UptoSaid' is the law's where the arguments, and the package variables that the reading takes, are together of bulk at most 1048576: NARROWER than '..Said'. Prove '..Said' where nothing that the law and all that it calls make is longer than what came in: it says more and counts as full. Else prove '..UptoSaid'. A law counts once. -/
mutual
def uptoBulk {H : Type} : DataW H → Nat
  | .lit (.string bytes) => bytes.length + 1
  | .lit _ => 1
  | .nil => 1
  | .ptr d => uptoBulk d + 1
  | .slice elems spare => uptoBulkAll elems + uptoBulkAll spare + 1
  | .agg parts => uptoBulkAll parts + 1
  | .iface _ d => uptoBulk d + 1
  | .map entries => uptoBulkEntries entries + 1
  | .held _ => 1
def uptoBulkAll {H : Type} : List (DataW H) → Nat
  | [] => 0
  | d :: r => uptoBulk d + uptoBulkAll r
def uptoBulkEntries {H : Type} : List (Lit × DataW H) → Nat
  | [] => 0
  | x :: r => uptoBulkEntry x + uptoBulkEntries r
def uptoBulkEntry {H : Type} : Lit × DataW H → Nat
  | (.string bytes, d) => bytes.length + uptoBulk d + 1
  | (_, d) => uptoBulk d + 1
 end
def uptoSmall : (H : Type) → List (DataW H) → Bool := fun _ ds => decide (uptoBulkAll ds ≤ 1048576)
def OpenSpec.upto (s : _root_.Go.ChangeSpec) : _root_.Go.OpenSpec := { _root_.Go.OpenSpec.ofChange s with cond := some uptoSmall }

/-- 'clerestorykeep4.EventPath', WHERE WHAT IT READS IS OF BULK AT MOST 1048576: true; the input reads as it did. -/
def eventPathUptoRow : OpenClaim := { program := "ytdommcjlpibpeaadoor", sum := "d9ab08048a5f0c54fc13cb6485f70c6c6e5902f5076e09bf16a64f4a39167900", func := "clerestory/clerestorykeep4.EventPath", spec := "eventPath", inPlace := ["internal/bytealg.IndexByteString", "internal/bytealg.IndexString"], unfollowed := true, recurses := true, named := ["unicode/utf8.first", "unicode/utf8.acceptRanges", "internal/bytealg.MaxLen"], apart := false, laid := [("unicode/utf8.acceptRanges", laid_unicode_utf8_acceptRanges), ("unicode/utf8.first", laid_unicode_utf8_first)], narrowed := true }
def EventPathUptoSaid : Prop := eventPathUptoRow.holds Tryd.pinned (OpenSpec.upto eventPathSpec)

/-- 'clerestorykeep4.EventStops', WHERE WHAT IT READS IS OF BULK AT MOST 1048576: true; the input reads as it did. -/
def eventStopsUptoRow : OpenClaim := { program := "ytdommcjlpibpeaadoor", sum := "d9ab08048a5f0c54fc13cb6485f70c6c6e5902f5076e09bf16a64f4a39167900", func := "clerestory/clerestorykeep4.EventStops", spec := "eventStops", inPlace := ["internal/bytealg.IndexByteString", "internal/bytealg.IndexString"], unfollowed := true, recurses := true, named := ["unicode/utf8.first", "unicode/utf8.acceptRanges", "internal/bytealg.MaxLen"], apart := false, laid := [("unicode/utf8.acceptRanges", laid_unicode_utf8_acceptRanges), ("unicode/utf8.first", laid_unicode_utf8_first)], narrowed := true }
def EventStopsUptoSaid : Prop := eventStopsUptoRow.holds Tryd.pinned (OpenSpec.upto eventStopsSpec)

/-- 'clerestorykeep4.EventOnce', WHERE WHAT IT READS IS OF BULK AT MOST 1048576: true; the input reads as it did. -/
def eventOnceUptoRow : OpenClaim := { program := "ytdommcjlpibpeaadoor", sum := "d9ab08048a5f0c54fc13cb6485f70c6c6e5902f5076e09bf16a64f4a39167900", func := "clerestory/clerestorykeep4.EventOnce", spec := "eventOnce", inPlace := ["internal/bytealg.IndexByteString", "internal/bytealg.IndexString"], unfollowed := true, recurses := true, named := ["unicode/utf8.first", "unicode/utf8.acceptRanges", "internal/bytealg.MaxLen"], apart := false, laid := [("unicode/utf8.acceptRanges", laid_unicode_utf8_acceptRanges), ("unicode/utf8.first", laid_unicode_utf8_first)], narrowed := true }
def EventOnceUptoSaid : Prop := eventOnceUptoRow.holds Tryd.pinned (OpenSpec.upto eventOnceSpec)

/-- 'clerestorykeep4.EventPrevents', WHERE WHAT IT READS IS OF BULK AT MOST 1048576: true; the input reads as it did. -/
def eventPreventsUptoRow : OpenClaim := { program := "ytdommcjlpibpeaadoor", sum := "d9ab08048a5f0c54fc13cb6485f70c6c6e5902f5076e09bf16a64f4a39167900", func := "clerestory/clerestorykeep4.EventPrevents", spec := "eventPrevents", inPlace := ["internal/bytealg.IndexByteString", "internal/bytealg.IndexString"], unfollowed := true, recurses := true, named := ["unicode/utf8.first", "unicode/utf8.acceptRanges", "internal/bytealg.MaxLen"], apart := false, laid := [("unicode/utf8.acceptRanges", laid_unicode_utf8_acceptRanges), ("unicode/utf8.first", laid_unicode_utf8_first)], narrowed := true }
def EventPreventsUptoSaid : Prop := eventPreventsUptoRow.holds Tryd.pinned (OpenSpec.upto eventPreventsSpec)

/-- 'clerestorykeep4.EventOrder', WHERE WHAT IT READS IS OF BULK AT MOST 1048576: true; the input reads as it did. -/
def eventOrderUptoRow : OpenClaim := { program := "ytdommcjlpibpeaadoor", sum := "d9ab08048a5f0c54fc13cb6485f70c6c6e5902f5076e09bf16a64f4a39167900", func := "clerestory/clerestorykeep4.EventOrder", spec := "eventOrder", inPlace := ["internal/bytealg.IndexByteString", "internal/bytealg.IndexString"], unfollowed := true, recurses := true, named := ["unicode/utf8.first", "unicode/utf8.acceptRanges", "internal/bytealg.MaxLen"], apart := false, laid := [("unicode/utf8.acceptRanges", laid_unicode_utf8_acceptRanges), ("unicode/utf8.first", laid_unicode_utf8_first)], narrowed := true }
def EventOrderUptoSaid : Prop := eventOrderUptoRow.holds Tryd.pinned (OpenSpec.upto eventOrderSpec)

end Rows
end Go.Proofs.YtdommcjlpibpeaaDoor
