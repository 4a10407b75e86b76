/-
  DERIVED. GIVEN WITH THE SEED: THE CARDS: each row of YtflmjbmdmoifhaaGreatDoorRows.lean that lists a variable, with what it lists TIED to the program's text (the seventh form; the later family's looks); each row that meets fmt, with fmt's text TOLD by the authors' own Lean function (tested against real Go, not proved from fmt's source: count such statements apart). THE CARD IS WHAT COUNTS. Prove the row's statement (the work); the ties are given (YtflmjbmdmoifhaaGreatDoorTie.lean); close each card by the builder's one call (the guide's Derived/Test/ToyasCard.lean, 'card_holds'). Laid BY PROGRAM, IN A SANDBOX (cutbox-door.mjs). By AI agents, Wed Nov 11 2026. No macro, syntax, notation, axiom, sorry.
-/
import Derived.Test.YtflmjbmdmoifhaaGreatDoorRows
import GoSem.ClaimSeven
namespace Go.Proofs.YtflmjbmdmoifhaaGreatDoor
namespace Rows

/-- THE TIED CARD OF 'clerestorykeep4.ScopeBack'. -/
def scopeBackCard : Claim7 := { stood := { row := scopeBackRow, standIns := [], harness := (true, "e8a45f24bc93e767672be1411fea0613ab827c820b0d8c7cbdcf6f4a82514230"), looks := true }, kinds := [], alts := [], laidByText := true, laidKinds := [.data, .data, .data, .listed, .data], laidTests := true, laidLooks := .later }
def ScopeBackCardSaid : Prop := Claim7.holds Tryz.pinned (.plain (OpenSpec.ofChange scopeBackSpec)) scopeBackCard

/-- THE TIED CARD OF 'clerestorykeep4.ScopeFresh'. -/
def scopeFreshCard : Claim7 := { stood := { row := scopeFreshRow, standIns := [], harness := (true, "e8a45f24bc93e767672be1411fea0613ab827c820b0d8c7cbdcf6f4a82514230"), looks := true }, kinds := [], alts := [], laidByText := true, laidKinds := [.data, .data, .data, .listed, .data], laidTests := true, laidLooks := .later }
def ScopeFreshCardSaid : Prop := Claim7.holds Tryz.pinned (.plain (OpenSpec.ofChange scopeFreshSpec)) scopeFreshCard

/-- THE TIED CARD OF 'clerestorykeep4.ScopeUses'. -/
def scopeUsesCard : Claim7 := { stood := { row := scopeUsesRow, standIns := [], harness := (true, "e8a45f24bc93e767672be1411fea0613ab827c820b0d8c7cbdcf6f4a82514230"), looks := true }, kinds := [], alts := [], laidByText := true, laidKinds := [.data, .data, .data, .listed, .data], laidTests := true, laidLooks := .later }
def ScopeUsesCardSaid : Prop := Claim7.holds Tryz.pinned (.plain (OpenSpec.ofChange scopeUsesSpec)) scopeUsesCard

/-- THE TIED CARD OF 'clerestorykeep4.ScopeCaught'. -/
def scopeCaughtCard : Claim7 := { stood := { row := scopeCaughtRow, standIns := [], harness := (true, "e8a45f24bc93e767672be1411fea0613ab827c820b0d8c7cbdcf6f4a82514230"), looks := true }, kinds := [], alts := [], laidByText := true, laidKinds := [.data, .data, .data, .listed, .data], laidTests := true, laidLooks := .later }
def ScopeCaughtCardSaid : Prop := Claim7.holds Tryz.pinned (.plain (OpenSpec.ofChange scopeCaughtSpec)) scopeCaughtCard

/-- THE SECOND FORM's CARD OF 'clerestorykeep4.ScopeBack'. -/
def scopeBackUptoCard : Claim7 := { stood := { row := scopeBackUptoRow, standIns := [], harness := (true, "e8a45f24bc93e767672be1411fea0613ab827c820b0d8c7cbdcf6f4a82514230"), looks := true }, kinds := [], alts := [], laidByText := true, laidKinds := [.data, .data, .data, .listed, .data], laidTests := true, laidLooks := .later }
def ScopeBackUptoCardSaid : Prop := Claim7.holds Tryz.pinned (.plain (OpenSpec.upto scopeBackSpec)) scopeBackUptoCard

/-- THE SECOND FORM's CARD OF 'clerestorykeep4.ScopeFresh'. -/
def scopeFreshUptoCard : Claim7 := { stood := { row := scopeFreshUptoRow, standIns := [], harness := (true, "e8a45f24bc93e767672be1411fea0613ab827c820b0d8c7cbdcf6f4a82514230"), looks := true }, kinds := [], alts := [], laidByText := true, laidKinds := [.data, .data, .data, .listed, .data], laidTests := true, laidLooks := .later }
def ScopeFreshUptoCardSaid : Prop := Claim7.holds Tryz.pinned (.plain (OpenSpec.upto scopeFreshSpec)) scopeFreshUptoCard

/-- THE SECOND FORM's CARD OF 'clerestorykeep4.ScopeUses'. -/
def scopeUsesUptoCard : Claim7 := { stood := { row := scopeUsesUptoRow, standIns := [], harness := (true, "e8a45f24bc93e767672be1411fea0613ab827c820b0d8c7cbdcf6f4a82514230"), looks := true }, kinds := [], alts := [], laidByText := true, laidKinds := [.data, .data, .data, .listed, .data], laidTests := true, laidLooks := .later }
def ScopeUsesUptoCardSaid : Prop := Claim7.holds Tryz.pinned (.plain (OpenSpec.upto scopeUsesSpec)) scopeUsesUptoCard

/-- THE SECOND FORM's CARD OF 'clerestorykeep4.ScopeCaught'. -/
def scopeCaughtUptoCard : Claim7 := { stood := { row := scopeCaughtUptoRow, standIns := [], harness := (true, "e8a45f24bc93e767672be1411fea0613ab827c820b0d8c7cbdcf6f4a82514230"), looks := true }, kinds := [], alts := [], laidByText := true, laidKinds := [.data, .data, .data, .listed, .data], laidTests := true, laidLooks := .later }
def ScopeCaughtUptoCardSaid : Prop := Claim7.holds Tryz.pinned (.plain (OpenSpec.upto scopeCaughtSpec)) scopeCaughtUptoCard
end Rows
end Go.Proofs.YtflmjbmdmoifhaaGreatDoor
