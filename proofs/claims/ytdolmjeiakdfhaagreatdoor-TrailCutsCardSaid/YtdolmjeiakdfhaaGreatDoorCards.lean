/-
  DERIVED. GIVEN WITH THE SEED: THE CARDS: each row of YtdolmjeiakdfhaaGreatDoorRows.lean that lists a variable, with what it lists TIED to the program's text (the seventh form; the later family's looks); each row that meets fmt, with fmt's text TOLD by the authors' own Lean function (tested against real Go, not proved from fmt's source: count such statements apart). THE CARD IS WHAT COUNTS. Prove the row's statement (the work); the ties are given (YtdolmjeiakdfhaaGreatDoorTie.lean); close each card by the builder's one call (the guide's Derived/Test/ToyasCard.lean, 'card_holds'). Laid BY PROGRAM, IN A SANDBOX (cutbox-door.mjs). By AI agents, Wed Nov 11 2026. No macro, syntax, notation, axiom, sorry.
-/
import Derived.Test.YtdolmjeiakdfhaaGreatDoorRows
import GoSem.ClaimSeven
namespace Go.Proofs.YtdolmjeiakdfhaaGreatDoor
namespace Rows

/-- THE TIED CARD OF 'clerestorykeep4.StoreApart'. -/
def storeApartCard : Claim7 := { stood := { row := storeApartRow, standIns := [], harness := (true, "6e830ac17f8d9b11e6f72af3b305ed90a67cce2ae4892b31ff71aae3c2300961"), looks := true }, kinds := [], alts := [], laidByText := true, laidKinds := [.data, .data, .data, .data, .sentinel, .sentinel, .pinned], laidTests := true, laidLooks := .later }
def StoreApartCardSaid : Prop := Claim7.holds Tryz.pinned (.plain (OpenSpec.ofChange storeApartSpec)) storeApartCard

/-- THE TIED CARD OF 'clerestorykeep4.TrailCuts'. -/
def trailCutsCard : Claim7 := { stood := { row := trailCutsRow, standIns := [], harness := (true, "6e830ac17f8d9b11e6f72af3b305ed90a67cce2ae4892b31ff71aae3c2300961"), looks := true }, kinds := [], alts := [], laidByText := true, laidKinds := [.data, .data, .data, .data, .sentinel, .sentinel, .pinned], laidTests := true, laidLooks := .later }
def TrailCutsCardSaid : Prop := Claim7.holds Tryz.pinned (.plain (OpenSpec.ofChange trailCutsSpec)) trailCutsCard

/-- THE TIED CARD OF 'clerestorykeep4.TrailOrigin'. -/
def trailOriginCard : Claim7 := { stood := { row := trailOriginRow, standIns := [], harness := (true, "6e830ac17f8d9b11e6f72af3b305ed90a67cce2ae4892b31ff71aae3c2300961"), looks := true }, kinds := [], alts := [], laidByText := true, laidKinds := [.data, .data, .data, .data, .sentinel, .sentinel, .pinned], laidTests := true, laidLooks := .later }
def TrailOriginCardSaid : Prop := Claim7.holds Tryz.pinned (.plain (OpenSpec.ofChange trailOriginSpec)) trailOriginCard

/-- THE TIED CARD OF 'clerestorykeep4.TrailRight'. -/
def trailRightCard : Claim7 := { stood := { row := trailRightRow, standIns := [], harness := (true, "6e830ac17f8d9b11e6f72af3b305ed90a67cce2ae4892b31ff71aae3c2300961"), looks := true }, kinds := [], alts := [], laidByText := true, laidKinds := [.data, .data, .data, .data, .sentinel, .sentinel, .pinned], laidTests := true, laidLooks := .later }
def TrailRightCardSaid : Prop := Claim7.holds Tryz.pinned (.plain (OpenSpec.ofChange trailRightSpec)) trailRightCard

/-- THE TIED CARD OF 'clerestorykeep4.TrailBack'. -/
def trailBackCard : Claim7 := { stood := { row := trailBackRow, standIns := [], harness := (true, "6e830ac17f8d9b11e6f72af3b305ed90a67cce2ae4892b31ff71aae3c2300961"), looks := true }, kinds := [], alts := [], laidByText := true, laidKinds := [.data, .data, .data, .data, .sentinel, .sentinel, .pinned], laidTests := true, laidLooks := .later }
def TrailBackCardSaid : Prop := Claim7.holds Tryz.pinned (.plain (OpenSpec.ofChange trailBackSpec)) trailBackCard

/-- THE SECOND FORM's CARD OF 'clerestorykeep4.StoreApart'. -/
def storeApartUptoCard : Claim7 := { stood := { row := storeApartUptoRow, standIns := [], harness := (true, "6e830ac17f8d9b11e6f72af3b305ed90a67cce2ae4892b31ff71aae3c2300961"), looks := true }, kinds := [], alts := [], laidByText := true, laidKinds := [.data, .data, .data, .data, .sentinel, .sentinel, .pinned], laidTests := true, laidLooks := .later }
def StoreApartUptoCardSaid : Prop := Claim7.holds Tryz.pinned (.plain (OpenSpec.upto storeApartSpec)) storeApartUptoCard

/-- THE SECOND FORM's CARD OF 'clerestorykeep4.TrailCuts'. -/
def trailCutsUptoCard : Claim7 := { stood := { row := trailCutsUptoRow, standIns := [], harness := (true, "6e830ac17f8d9b11e6f72af3b305ed90a67cce2ae4892b31ff71aae3c2300961"), looks := true }, kinds := [], alts := [], laidByText := true, laidKinds := [.data, .data, .data, .data, .sentinel, .sentinel, .pinned], laidTests := true, laidLooks := .later }
def TrailCutsUptoCardSaid : Prop := Claim7.holds Tryz.pinned (.plain (OpenSpec.upto trailCutsSpec)) trailCutsUptoCard

/-- THE SECOND FORM's CARD OF 'clerestorykeep4.TrailOrigin'. -/
def trailOriginUptoCard : Claim7 := { stood := { row := trailOriginUptoRow, standIns := [], harness := (true, "6e830ac17f8d9b11e6f72af3b305ed90a67cce2ae4892b31ff71aae3c2300961"), looks := true }, kinds := [], alts := [], laidByText := true, laidKinds := [.data, .data, .data, .data, .sentinel, .sentinel, .pinned], laidTests := true, laidLooks := .later }
def TrailOriginUptoCardSaid : Prop := Claim7.holds Tryz.pinned (.plain (OpenSpec.upto trailOriginSpec)) trailOriginUptoCard

/-- THE SECOND FORM's CARD OF 'clerestorykeep4.TrailRight'. -/
def trailRightUptoCard : Claim7 := { stood := { row := trailRightUptoRow, standIns := [], harness := (true, "6e830ac17f8d9b11e6f72af3b305ed90a67cce2ae4892b31ff71aae3c2300961"), looks := true }, kinds := [], alts := [], laidByText := true, laidKinds := [.data, .data, .data, .data, .sentinel, .sentinel, .pinned], laidTests := true, laidLooks := .later }
def TrailRightUptoCardSaid : Prop := Claim7.holds Tryz.pinned (.plain (OpenSpec.upto trailRightSpec)) trailRightUptoCard

/-- THE SECOND FORM's CARD OF 'clerestorykeep4.TrailBack'. -/
def trailBackUptoCard : Claim7 := { stood := { row := trailBackUptoRow, standIns := [], harness := (true, "6e830ac17f8d9b11e6f72af3b305ed90a67cce2ae4892b31ff71aae3c2300961"), looks := true }, kinds := [], alts := [], laidByText := true, laidKinds := [.data, .data, .data, .data, .sentinel, .sentinel, .pinned], laidTests := true, laidLooks := .later }
def TrailBackUptoCardSaid : Prop := Claim7.holds Tryz.pinned (.plain (OpenSpec.upto trailBackSpec)) trailBackUptoCard
end Rows
end Go.Proofs.YtdolmjeiakdfhaaGreatDoor
