/-
  DERIVED. GIVEN WITH THE SEED: THE CARDS: each row of YtlepbooegofoeaaGreatDoorRows.lean that lists a variable, with what it lists TIED to the program's text (the seventh form; the later family's looks); each row that meets fmt, with fmt's text TOLD by the authors' own Lean function (tested against real Go, not proved from fmt's source: count such statements apart). THE CARD IS WHAT COUNTS. Prove the row's statement (the work); the ties are given (YtlepbooegofoeaaGreatDoorTie.lean); close each card by the builder's one call (the guide's Derived/Test/ToyasCard.lean, 'card_holds'). Laid BY PROGRAM, IN A SANDBOX (cutbox-door.mjs). By AI agents, Wed Nov 11 2026. No macro, syntax, notation, axiom, sorry.
-/
import Derived.Test.YtlepbooegofoeaaGreatDoorRows
import GoSem.ClaimSeven
namespace Go.Proofs.YtlepbooegofoeaaGreatDoor
namespace Rows

/-- THE TIED CARD OF 'clerestorykeep4.UrlBytes'. -/
def urlBytesCard : Claim7 := { stood := { row := urlBytesRow, standIns := [], harness := (true, "947b5f5e092b3be202b498f5709244fae7f7378a08a2c84b5adf071566d191bc"), looks := true }, kinds := [], alts := [], laidByText := true, laidKinds := [.data, .data, .data, .data, .sentinel, .sentinel, .pinned], laidTests := true, laidLooks := .later }
def UrlBytesCardSaid : Prop := Claim7.holds Tryz.pinned (.plain (OpenSpec.ofChange urlBytesSpec)) urlBytesCard

/-- THE TIED CARD OF 'clerestorykeep4.UrlAgain'. -/
def urlAgainCard : Claim7 := { stood := { row := urlAgainRow, standIns := [], harness := (true, "947b5f5e092b3be202b498f5709244fae7f7378a08a2c84b5adf071566d191bc"), looks := true }, kinds := [], alts := [], laidByText := true, laidKinds := [.data, .data, .data, .data, .sentinel, .sentinel, .pinned], laidTests := true, laidLooks := .later }
def UrlAgainCardSaid : Prop := Claim7.holds Tryz.pinned (.plain (OpenSpec.ofChange urlAgainSpec)) urlAgainCard

/-- THE TIED CARD OF 'clerestorykeep4.StoreQuota'. -/
def storeQuotaCard : Claim7 := { stood := { row := storeQuotaRow, standIns := [], harness := (true, "947b5f5e092b3be202b498f5709244fae7f7378a08a2c84b5adf071566d191bc"), looks := true }, kinds := [], alts := [], laidByText := true, laidKinds := [.data, .data, .data, .data, .sentinel, .sentinel, .pinned], laidTests := true, laidLooks := .later }
def StoreQuotaCardSaid : Prop := Claim7.holds Tryz.pinned (.plain (OpenSpec.ofChange storeQuotaSpec)) storeQuotaCard

/-- THE TIED CARD OF 'clerestorykeep4.UrlHere'. -/
def urlHereCard : Claim7 := { stood := { row := urlHereRow, standIns := [], harness := (true, "947b5f5e092b3be202b498f5709244fae7f7378a08a2c84b5adf071566d191bc"), looks := true }, kinds := [], alts := [], laidByText := true, laidKinds := [.data, .data, .data, .data, .sentinel, .sentinel, .pinned], laidTests := true, laidLooks := .later }
def UrlHereCardSaid : Prop := Claim7.holds Tryz.pinned (.plain (OpenSpec.ofChange urlHereSpec)) urlHereCard

/-- THE TIED CARD OF 'clerestorykeep4.UrlDots'. -/
def urlDotsCard : Claim7 := { stood := { row := urlDotsRow, standIns := [], harness := (true, "947b5f5e092b3be202b498f5709244fae7f7378a08a2c84b5adf071566d191bc"), looks := true }, kinds := [], alts := [], laidByText := true, laidKinds := [.data, .data, .data, .data, .sentinel, .sentinel, .pinned], laidTests := true, laidLooks := .later }
def UrlDotsCardSaid : Prop := Claim7.holds Tryz.pinned (.plain (OpenSpec.ofChange urlDotsSpec)) urlDotsCard

/-- THE TIED CARD OF 'clerestorykeep4.StoreGets'. -/
def storeGetsCard : Claim7 := { stood := { row := storeGetsRow, standIns := [], harness := (true, "947b5f5e092b3be202b498f5709244fae7f7378a08a2c84b5adf071566d191bc"), looks := true }, kinds := [], alts := [], laidByText := true, laidKinds := [.data, .data, .data, .data, .sentinel, .sentinel, .pinned], laidTests := true, laidLooks := .later }
def StoreGetsCardSaid : Prop := Claim7.holds Tryz.pinned (.plain (OpenSpec.ofChange storeGetsSpec)) storeGetsCard

/-- THE TIED CARD OF 'clerestorykeep4.UrlBack'. -/
def urlBackCard : Claim7 := { stood := { row := urlBackRow, standIns := [], harness := (true, "947b5f5e092b3be202b498f5709244fae7f7378a08a2c84b5adf071566d191bc"), looks := true }, kinds := [], alts := [], laidByText := true, laidKinds := [.data, .data, .data, .data, .sentinel, .sentinel, .pinned], laidTests := true, laidLooks := .later }
def UrlBackCardSaid : Prop := Claim7.holds Tryz.pinned (.plain (OpenSpec.ofChange urlBackSpec)) urlBackCard

/-- THE TIED CARD OF 'clerestorykeep4.StoreApart'. -/
def storeApartCard : Claim7 := { stood := { row := storeApartRow, standIns := [], harness := (true, "947b5f5e092b3be202b498f5709244fae7f7378a08a2c84b5adf071566d191bc"), looks := true }, kinds := [], alts := [], laidByText := true, laidKinds := [.data, .data, .data, .data, .sentinel, .sentinel, .pinned], laidTests := true, laidLooks := .later }
def StoreApartCardSaid : Prop := Claim7.holds Tryz.pinned (.plain (OpenSpec.ofChange storeApartSpec)) storeApartCard

/-- THE SECOND FORM's CARD OF 'clerestorykeep4.UrlBytes'. -/
def urlBytesUptoCard : Claim7 := { stood := { row := urlBytesUptoRow, standIns := [], harness := (true, "947b5f5e092b3be202b498f5709244fae7f7378a08a2c84b5adf071566d191bc"), looks := true }, kinds := [], alts := [], laidByText := true, laidKinds := [.data, .data, .data, .data, .sentinel, .sentinel, .pinned], laidTests := true, laidLooks := .later }
def UrlBytesUptoCardSaid : Prop := Claim7.holds Tryz.pinned (.plain (OpenSpec.upto urlBytesSpec)) urlBytesUptoCard

/-- THE SECOND FORM's CARD OF 'clerestorykeep4.UrlAgain'. -/
def urlAgainUptoCard : Claim7 := { stood := { row := urlAgainUptoRow, standIns := [], harness := (true, "947b5f5e092b3be202b498f5709244fae7f7378a08a2c84b5adf071566d191bc"), looks := true }, kinds := [], alts := [], laidByText := true, laidKinds := [.data, .data, .data, .data, .sentinel, .sentinel, .pinned], laidTests := true, laidLooks := .later }
def UrlAgainUptoCardSaid : Prop := Claim7.holds Tryz.pinned (.plain (OpenSpec.upto urlAgainSpec)) urlAgainUptoCard

/-- THE SECOND FORM's CARD OF 'clerestorykeep4.StoreQuota'. -/
def storeQuotaUptoCard : Claim7 := { stood := { row := storeQuotaUptoRow, standIns := [], harness := (true, "947b5f5e092b3be202b498f5709244fae7f7378a08a2c84b5adf071566d191bc"), looks := true }, kinds := [], alts := [], laidByText := true, laidKinds := [.data, .data, .data, .data, .sentinel, .sentinel, .pinned], laidTests := true, laidLooks := .later }
def StoreQuotaUptoCardSaid : Prop := Claim7.holds Tryz.pinned (.plain (OpenSpec.upto storeQuotaSpec)) storeQuotaUptoCard

/-- THE SECOND FORM's CARD OF 'clerestorykeep4.UrlHere'. -/
def urlHereUptoCard : Claim7 := { stood := { row := urlHereUptoRow, standIns := [], harness := (true, "947b5f5e092b3be202b498f5709244fae7f7378a08a2c84b5adf071566d191bc"), looks := true }, kinds := [], alts := [], laidByText := true, laidKinds := [.data, .data, .data, .data, .sentinel, .sentinel, .pinned], laidTests := true, laidLooks := .later }
def UrlHereUptoCardSaid : Prop := Claim7.holds Tryz.pinned (.plain (OpenSpec.upto urlHereSpec)) urlHereUptoCard

/-- THE SECOND FORM's CARD OF 'clerestorykeep4.UrlDots'. -/
def urlDotsUptoCard : Claim7 := { stood := { row := urlDotsUptoRow, standIns := [], harness := (true, "947b5f5e092b3be202b498f5709244fae7f7378a08a2c84b5adf071566d191bc"), looks := true }, kinds := [], alts := [], laidByText := true, laidKinds := [.data, .data, .data, .data, .sentinel, .sentinel, .pinned], laidTests := true, laidLooks := .later }
def UrlDotsUptoCardSaid : Prop := Claim7.holds Tryz.pinned (.plain (OpenSpec.upto urlDotsSpec)) urlDotsUptoCard

/-- THE SECOND FORM's CARD OF 'clerestorykeep4.StoreGets'. -/
def storeGetsUptoCard : Claim7 := { stood := { row := storeGetsUptoRow, standIns := [], harness := (true, "947b5f5e092b3be202b498f5709244fae7f7378a08a2c84b5adf071566d191bc"), looks := true }, kinds := [], alts := [], laidByText := true, laidKinds := [.data, .data, .data, .data, .sentinel, .sentinel, .pinned], laidTests := true, laidLooks := .later }
def StoreGetsUptoCardSaid : Prop := Claim7.holds Tryz.pinned (.plain (OpenSpec.upto storeGetsSpec)) storeGetsUptoCard

/-- THE SECOND FORM's CARD OF 'clerestorykeep4.UrlBack'. -/
def urlBackUptoCard : Claim7 := { stood := { row := urlBackUptoRow, standIns := [], harness := (true, "947b5f5e092b3be202b498f5709244fae7f7378a08a2c84b5adf071566d191bc"), looks := true }, kinds := [], alts := [], laidByText := true, laidKinds := [.data, .data, .data, .data, .sentinel, .sentinel, .pinned], laidTests := true, laidLooks := .later }
def UrlBackUptoCardSaid : Prop := Claim7.holds Tryz.pinned (.plain (OpenSpec.upto urlBackSpec)) urlBackUptoCard

/-- THE SECOND FORM's CARD OF 'clerestorykeep4.StoreApart'. -/
def storeApartUptoCard : Claim7 := { stood := { row := storeApartUptoRow, standIns := [], harness := (true, "947b5f5e092b3be202b498f5709244fae7f7378a08a2c84b5adf071566d191bc"), looks := true }, kinds := [], alts := [], laidByText := true, laidKinds := [.data, .data, .data, .data, .sentinel, .sentinel, .pinned], laidTests := true, laidLooks := .later }
def StoreApartUptoCardSaid : Prop := Claim7.holds Tryz.pinned (.plain (OpenSpec.upto storeApartSpec)) storeApartUptoCard
end Rows
end Go.Proofs.YtlepbooegofoeaaGreatDoor
