/-
  DERIVED. GIVEN WITH THE SEED: THE CARDS: each row of YtonjdlialejedaaGreatDoorRows.lean that lists a variable, with what it lists TIED to the program's text (the seventh form; the later family's looks); each row that meets fmt, with fmt's text TOLD by the authors' own Lean function (tested against real Go, not proved from fmt's source: count such statements apart). THE CARD IS WHAT COUNTS. Prove the row's statement (the work); the ties are given (YtonjdlialejedaaGreatDoorTie.lean); close each card by the builder's one call (the guide's Derived/Test/ToyasCard.lean, 'card_holds'). Laid BY PROGRAM, IN A SANDBOX (cutbox-door.mjs). By AI agents, Wed Nov 11 2026. No macro, syntax, notation, axiom, sorry.
-/
import Derived.Test.YtonjdlialejedaaGreatDoorRows
import GoSem.ClaimSeven
namespace Go.Proofs.YtonjdlialejedaaGreatDoor
namespace Rows

/-- THE TIED CARD OF 'clerestorykeep4.JparseBack'. -/
def jparseBackCard : Claim7 := { stood := { row := jparseBackRow, standIns := [], harness := (true, "9e6e5eff207bc0f751ee2e3241d7a012a3b9b9cdcb9e561b295fd8279e0e8987"), looks := true }, kinds := [], alts := [], laidByText := true, laidKinds := [.data, .data, .data, .listed, .data], laidTests := true, laidLooks := .later }
def JparseBackCardSaid : Prop := Claim7.holds Tryz.pinned (.plain (OpenSpec.ofChange jparseBackSpec)) jparseBackCard

/-- THE TIED CARD OF 'clerestorykeep4.JparseWritten'. -/
def jparseWrittenCard : Claim7 := { stood := { row := jparseWrittenRow, standIns := [], harness := (true, "9e6e5eff207bc0f751ee2e3241d7a012a3b9b9cdcb9e561b295fd8279e0e8987"), looks := true }, kinds := [], alts := [], laidByText := true, laidKinds := [.data, .data, .data, .listed, .data], laidTests := true, laidLooks := .later }
def JparseWrittenCardSaid : Prop := Claim7.holds Tryz.pinned (.plain (OpenSpec.ofChange jparseWrittenSpec)) jparseWrittenCard

/-- THE TIED CARD OF 'clerestorykeep4.JparseBrackets'. -/
def jparseBracketsCard : Claim7 := { stood := { row := jparseBracketsRow, standIns := [], harness := (true, "9e6e5eff207bc0f751ee2e3241d7a012a3b9b9cdcb9e561b295fd8279e0e8987"), looks := true }, kinds := [], alts := [], laidByText := true, laidKinds := [.data, .data, .data, .listed, .data], laidTests := true, laidLooks := .later }
def JparseBracketsCardSaid : Prop := Claim7.holds Tryz.pinned (.plain (OpenSpec.ofChange jparseBracketsSpec)) jparseBracketsCard

/-- THE TIED CARD OF 'clerestorykeep4.JparseFew'. -/
def jparseFewCard : Claim7 := { stood := { row := jparseFewRow, standIns := [], harness := (true, "9e6e5eff207bc0f751ee2e3241d7a012a3b9b9cdcb9e561b295fd8279e0e8987"), looks := true }, kinds := [], alts := [], laidByText := true, laidKinds := [.data, .data, .data, .listed, .data], laidTests := true, laidLooks := .later }
def JparseFewCardSaid : Prop := Claim7.holds Tryz.pinned (.plain (OpenSpec.ofChange jparseFewSpec)) jparseFewCard

/-- THE TIED CARD OF 'clerestorykeep4.JparseJoins'. -/
def jparseJoinsCard : Claim7 := { stood := { row := jparseJoinsRow, standIns := [], harness := (true, "9e6e5eff207bc0f751ee2e3241d7a012a3b9b9cdcb9e561b295fd8279e0e8987"), looks := true }, kinds := [], alts := [], laidByText := true, laidKinds := [.data, .data, .data, .listed, .data], laidTests := true, laidLooks := .later }
def JparseJoinsCardSaid : Prop := Claim7.holds Tryz.pinned (.plain (OpenSpec.ofChange jparseJoinsSpec)) jparseJoinsCard

/-- THE TIED CARD OF 'clerestorykeep4.JparseLeft'. -/
def jparseLeftCard : Claim7 := { stood := { row := jparseLeftRow, standIns := [], harness := (true, "9e6e5eff207bc0f751ee2e3241d7a012a3b9b9cdcb9e561b295fd8279e0e8987"), looks := true }, kinds := [], alts := [], laidByText := true, laidKinds := [.data, .data, .data, .listed, .data], laidTests := true, laidLooks := .later }
def JparseLeftCardSaid : Prop := Claim7.holds Tryz.pinned (.plain (OpenSpec.ofChange jparseLeftSpec)) jparseLeftCard

/-- THE SECOND FORM's CARD OF 'clerestorykeep4.JparseBack'. -/
def jparseBackUptoCard : Claim7 := { stood := { row := jparseBackUptoRow, standIns := [], harness := (true, "9e6e5eff207bc0f751ee2e3241d7a012a3b9b9cdcb9e561b295fd8279e0e8987"), looks := true }, kinds := [], alts := [], laidByText := true, laidKinds := [.data, .data, .data, .listed, .data], laidTests := true, laidLooks := .later }
def JparseBackUptoCardSaid : Prop := Claim7.holds Tryz.pinned (.plain (OpenSpec.upto jparseBackSpec)) jparseBackUptoCard

/-- THE SECOND FORM's CARD OF 'clerestorykeep4.JparseWritten'. -/
def jparseWrittenUptoCard : Claim7 := { stood := { row := jparseWrittenUptoRow, standIns := [], harness := (true, "9e6e5eff207bc0f751ee2e3241d7a012a3b9b9cdcb9e561b295fd8279e0e8987"), looks := true }, kinds := [], alts := [], laidByText := true, laidKinds := [.data, .data, .data, .listed, .data], laidTests := true, laidLooks := .later }
def JparseWrittenUptoCardSaid : Prop := Claim7.holds Tryz.pinned (.plain (OpenSpec.upto jparseWrittenSpec)) jparseWrittenUptoCard

/-- THE SECOND FORM's CARD OF 'clerestorykeep4.JparseBrackets'. -/
def jparseBracketsUptoCard : Claim7 := { stood := { row := jparseBracketsUptoRow, standIns := [], harness := (true, "9e6e5eff207bc0f751ee2e3241d7a012a3b9b9cdcb9e561b295fd8279e0e8987"), looks := true }, kinds := [], alts := [], laidByText := true, laidKinds := [.data, .data, .data, .listed, .data], laidTests := true, laidLooks := .later }
def JparseBracketsUptoCardSaid : Prop := Claim7.holds Tryz.pinned (.plain (OpenSpec.upto jparseBracketsSpec)) jparseBracketsUptoCard

/-- THE SECOND FORM's CARD OF 'clerestorykeep4.JparseFew'. -/
def jparseFewUptoCard : Claim7 := { stood := { row := jparseFewUptoRow, standIns := [], harness := (true, "9e6e5eff207bc0f751ee2e3241d7a012a3b9b9cdcb9e561b295fd8279e0e8987"), looks := true }, kinds := [], alts := [], laidByText := true, laidKinds := [.data, .data, .data, .listed, .data], laidTests := true, laidLooks := .later }
def JparseFewUptoCardSaid : Prop := Claim7.holds Tryz.pinned (.plain (OpenSpec.upto jparseFewSpec)) jparseFewUptoCard

/-- THE SECOND FORM's CARD OF 'clerestorykeep4.JparseJoins'. -/
def jparseJoinsUptoCard : Claim7 := { stood := { row := jparseJoinsUptoRow, standIns := [], harness := (true, "9e6e5eff207bc0f751ee2e3241d7a012a3b9b9cdcb9e561b295fd8279e0e8987"), looks := true }, kinds := [], alts := [], laidByText := true, laidKinds := [.data, .data, .data, .listed, .data], laidTests := true, laidLooks := .later }
def JparseJoinsUptoCardSaid : Prop := Claim7.holds Tryz.pinned (.plain (OpenSpec.upto jparseJoinsSpec)) jparseJoinsUptoCard

/-- THE SECOND FORM's CARD OF 'clerestorykeep4.JparseLeft'. -/
def jparseLeftUptoCard : Claim7 := { stood := { row := jparseLeftUptoRow, standIns := [], harness := (true, "9e6e5eff207bc0f751ee2e3241d7a012a3b9b9cdcb9e561b295fd8279e0e8987"), looks := true }, kinds := [], alts := [], laidByText := true, laidKinds := [.data, .data, .data, .listed, .data], laidTests := true, laidLooks := .later }
def JparseLeftUptoCardSaid : Prop := Claim7.holds Tryz.pinned (.plain (OpenSpec.upto jparseLeftSpec)) jparseLeftUptoCard
end Rows
end Go.Proofs.YtonjdlialejedaaGreatDoor
