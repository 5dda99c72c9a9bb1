/-
  DERIVED. GIVEN WITH THE SEED: THE CARDS: each row of YtlnfaeegmcihfaaDoorRows.lean that lists a variable, with what it lists TIED to the program's text (the seventh form; the later family's looks); each row that meets fmt, with fmt's text TOLD by the authors' own Lean function (tested against real Go, not proved from fmt's source: count such statements apart). THE CARD IS WHAT COUNTS. Prove the row's statement (the work); the ties are given (YtlnfaeegmcihfaaDoorTie.lean); close each card by the builder's one call (the guide's Derived/Test/ToyasCard.lean, 'card_holds'). Laid BY PROGRAM, IN A SANDBOX (cutbox-door.mjs). By AI agents, Wed Nov 11 2026. No macro, syntax, notation, axiom, sorry.
-/
import Derived.Test.YtlnfaeegmcihfaaDoorRows
import GoSem.ClaimSeven
namespace Go.Proofs.YtlnfaeegmcihfaaDoor
namespace Rows

/-- THE TIED CARD OF 'hornbooklaw02.DescSigs'. -/
def descSigsCard : Claim7 := { stood := { row := descSigsRow, standIns := [], harness := (true, "a8e371bdc5be1b23dbdddbe25f733875c7486367449e046d6d67ab8740fd0a81"), looks := false }, kinds := [], alts := [], laidByText := true, laidKinds := [.data, .pinned], laidTests := true, laidLooks := .later }
def DescSigsCardSaid : Prop := Claim7.holds Tryd.pinned (.plain (OpenSpec.ofChange descSigsSpec)) descSigsCard

/-- THE TIED CARD OF 'hornbooklaw02.DescBack'. -/
def descBackCard : Claim7 := { stood := { row := descBackRow, standIns := [], harness := (true, "a8e371bdc5be1b23dbdddbe25f733875c7486367449e046d6d67ab8740fd0a81"), looks := false }, kinds := [], alts := [], laidByText := true, laidKinds := [.data, .pinned], laidTests := true, laidLooks := .later }
def DescBackCardSaid : Prop := Claim7.holds Tryd.pinned (.plain (OpenSpec.ofChange descBackSpec)) descBackCard

/-- THE TIED CARD OF 'hornbooklaw02.DescShown'. -/
def descShownCard : Claim7 := { stood := { row := descShownRow, standIns := [], harness := (true, "a8e371bdc5be1b23dbdddbe25f733875c7486367449e046d6d67ab8740fd0a81"), looks := false }, kinds := [], alts := [], laidByText := true, laidKinds := [.data, .pinned], laidTests := true, laidLooks := .later }
def DescShownCardSaid : Prop := Claim7.holds Tryd.pinned (.plain (OpenSpec.ofChange descShownSpec)) descShownCard

/-- THE TIED CARD OF 'hornbooklaw02.DescRights'. -/
def descRightsCard : Claim7 := { stood := { row := descRightsRow, standIns := [], harness := (true, "a8e371bdc5be1b23dbdddbe25f733875c7486367449e046d6d67ab8740fd0a81"), looks := false }, kinds := [], alts := [], laidByText := true, laidKinds := [.data, .pinned], laidTests := true, laidLooks := .later }
def DescRightsCardSaid : Prop := Claim7.holds Tryd.pinned (.plain (OpenSpec.ofChange descRightsSpec)) descRightsCard

/-- THE TIED CARD OF 'hornbooklaw03.PoolAdds'. -/
def poolAddsCard : Claim7 := { stood := { row := poolAddsRow, standIns := [], harness := (true, "a8e371bdc5be1b23dbdddbe25f733875c7486367449e046d6d67ab8740fd0a81"), looks := false }, kinds := [], alts := [], laidByText := true, laidKinds := [.data, .pinned], laidTests := true, laidLooks := .later }
def PoolAddsCardSaid : Prop := Claim7.holds Tryd.pinned (.plain (OpenSpec.ofChange poolAddsSpec)) poolAddsCard

/-- THE TIED CARD OF 'hornbooklaw02.DescArrays'. -/
def descArraysCard : Claim7 := { stood := { row := descArraysRow, standIns := [], harness := (true, "a8e371bdc5be1b23dbdddbe25f733875c7486367449e046d6d67ab8740fd0a81"), looks := false }, kinds := [], alts := [], laidByText := true, laidKinds := [.data, .pinned], laidTests := true, laidLooks := .later }
def DescArraysCardSaid : Prop := Claim7.holds Tryd.pinned (.plain (OpenSpec.ofChange descArraysSpec)) descArraysCard

/-- THE TIED CARD OF 'hornbooklaw03.PoolOnes'. -/
def poolOnesCard : Claim7 := { stood := { row := poolOnesRow, standIns := [], harness := (true, "a8e371bdc5be1b23dbdddbe25f733875c7486367449e046d6d67ab8740fd0a81"), looks := false }, kinds := [], alts := [], laidByText := true, laidKinds := [.data, .pinned], laidTests := true, laidLooks := .later }
def PoolOnesCardSaid : Prop := Claim7.holds Tryd.pinned (.plain (OpenSpec.ofChange poolOnesSpec)) poolOnesCard

/-- THE TIED CARD OF 'hornbooklaw03.PoolShort'. -/
def poolShortCard : Claim7 := { stood := { row := poolShortRow, standIns := [], harness := (true, "a8e371bdc5be1b23dbdddbe25f733875c7486367449e046d6d67ab8740fd0a81"), looks := false }, kinds := [], alts := [], laidByText := true, laidKinds := [.data, .pinned], laidTests := true, laidLooks := .later }
def PoolShortCardSaid : Prop := Claim7.holds Tryd.pinned (.plain (OpenSpec.ofChange poolShortSpec)) poolShortCard

/-- THE TIED CARD OF 'hornbooklaw03.PoolLists'. -/
def poolListsCard : Claim7 := { stood := { row := poolListsRow, standIns := [], harness := (true, "a8e371bdc5be1b23dbdddbe25f733875c7486367449e046d6d67ab8740fd0a81"), looks := false }, kinds := [], alts := [], laidByText := true, laidKinds := [.data, .pinned], laidTests := true, laidLooks := .later }
def PoolListsCardSaid : Prop := Claim7.holds Tryd.pinned (.plain (OpenSpec.ofChange poolListsSpec)) poolListsCard

/-- THE SECOND FORM's CARD OF 'hornbooklaw02.DescSigs'. -/
def descSigsUptoCard : Claim7 := { stood := { row := descSigsUptoRow, standIns := [], harness := (true, "a8e371bdc5be1b23dbdddbe25f733875c7486367449e046d6d67ab8740fd0a81"), looks := false }, kinds := [], alts := [], laidByText := true, laidKinds := [.data, .pinned], laidTests := true, laidLooks := .later }
def DescSigsUptoCardSaid : Prop := Claim7.holds Tryd.pinned (.plain (OpenSpec.upto descSigsSpec)) descSigsUptoCard

/-- THE SECOND FORM's CARD OF 'hornbooklaw02.DescBack'. -/
def descBackUptoCard : Claim7 := { stood := { row := descBackUptoRow, standIns := [], harness := (true, "a8e371bdc5be1b23dbdddbe25f733875c7486367449e046d6d67ab8740fd0a81"), looks := false }, kinds := [], alts := [], laidByText := true, laidKinds := [.data, .pinned], laidTests := true, laidLooks := .later }
def DescBackUptoCardSaid : Prop := Claim7.holds Tryd.pinned (.plain (OpenSpec.upto descBackSpec)) descBackUptoCard

/-- THE SECOND FORM's CARD OF 'hornbooklaw02.DescShown'. -/
def descShownUptoCard : Claim7 := { stood := { row := descShownUptoRow, standIns := [], harness := (true, "a8e371bdc5be1b23dbdddbe25f733875c7486367449e046d6d67ab8740fd0a81"), looks := false }, kinds := [], alts := [], laidByText := true, laidKinds := [.data, .pinned], laidTests := true, laidLooks := .later }
def DescShownUptoCardSaid : Prop := Claim7.holds Tryd.pinned (.plain (OpenSpec.upto descShownSpec)) descShownUptoCard

/-- THE SECOND FORM's CARD OF 'hornbooklaw02.DescRights'. -/
def descRightsUptoCard : Claim7 := { stood := { row := descRightsUptoRow, standIns := [], harness := (true, "a8e371bdc5be1b23dbdddbe25f733875c7486367449e046d6d67ab8740fd0a81"), looks := false }, kinds := [], alts := [], laidByText := true, laidKinds := [.data, .pinned], laidTests := true, laidLooks := .later }
def DescRightsUptoCardSaid : Prop := Claim7.holds Tryd.pinned (.plain (OpenSpec.upto descRightsSpec)) descRightsUptoCard

/-- THE SECOND FORM's CARD OF 'hornbooklaw03.PoolAdds'. -/
def poolAddsUptoCard : Claim7 := { stood := { row := poolAddsUptoRow, standIns := [], harness := (true, "a8e371bdc5be1b23dbdddbe25f733875c7486367449e046d6d67ab8740fd0a81"), looks := false }, kinds := [], alts := [], laidByText := true, laidKinds := [.data, .pinned], laidTests := true, laidLooks := .later }
def PoolAddsUptoCardSaid : Prop := Claim7.holds Tryd.pinned (.plain (OpenSpec.upto poolAddsSpec)) poolAddsUptoCard

/-- THE SECOND FORM's CARD OF 'hornbooklaw02.DescArrays'. -/
def descArraysUptoCard : Claim7 := { stood := { row := descArraysUptoRow, standIns := [], harness := (true, "a8e371bdc5be1b23dbdddbe25f733875c7486367449e046d6d67ab8740fd0a81"), looks := false }, kinds := [], alts := [], laidByText := true, laidKinds := [.data, .pinned], laidTests := true, laidLooks := .later }
def DescArraysUptoCardSaid : Prop := Claim7.holds Tryd.pinned (.plain (OpenSpec.upto descArraysSpec)) descArraysUptoCard

/-- THE SECOND FORM's CARD OF 'hornbooklaw03.PoolOnes'. -/
def poolOnesUptoCard : Claim7 := { stood := { row := poolOnesUptoRow, standIns := [], harness := (true, "a8e371bdc5be1b23dbdddbe25f733875c7486367449e046d6d67ab8740fd0a81"), looks := false }, kinds := [], alts := [], laidByText := true, laidKinds := [.data, .pinned], laidTests := true, laidLooks := .later }
def PoolOnesUptoCardSaid : Prop := Claim7.holds Tryd.pinned (.plain (OpenSpec.upto poolOnesSpec)) poolOnesUptoCard

/-- THE SECOND FORM's CARD OF 'hornbooklaw03.PoolShort'. -/
def poolShortUptoCard : Claim7 := { stood := { row := poolShortUptoRow, standIns := [], harness := (true, "a8e371bdc5be1b23dbdddbe25f733875c7486367449e046d6d67ab8740fd0a81"), looks := false }, kinds := [], alts := [], laidByText := true, laidKinds := [.data, .pinned], laidTests := true, laidLooks := .later }
def PoolShortUptoCardSaid : Prop := Claim7.holds Tryd.pinned (.plain (OpenSpec.upto poolShortSpec)) poolShortUptoCard

/-- THE SECOND FORM's CARD OF 'hornbooklaw03.PoolLists'. -/
def poolListsUptoCard : Claim7 := { stood := { row := poolListsUptoRow, standIns := [], harness := (true, "a8e371bdc5be1b23dbdddbe25f733875c7486367449e046d6d67ab8740fd0a81"), looks := false }, kinds := [], alts := [], laidByText := true, laidKinds := [.data, .pinned], laidTests := true, laidLooks := .later }
def PoolListsUptoCardSaid : Prop := Claim7.holds Tryd.pinned (.plain (OpenSpec.upto poolListsSpec)) poolListsUptoCard
end Rows
end Go.Proofs.YtlnfaeegmcihfaaDoor
