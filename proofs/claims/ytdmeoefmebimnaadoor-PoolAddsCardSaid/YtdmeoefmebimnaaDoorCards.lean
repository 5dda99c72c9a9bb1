/-
  DERIVED. GIVEN WITH THE SEED: THE CARDS: each row of YtdmeoefmebimnaaDoorRows.lean that lists a variable, with what it lists TIED to the program's text (the seventh form; the later family's looks); each row that meets fmt, with fmt's text TOLD by the authors' own Lean function (tested against real Go, not proved from fmt's source: count such statements apart). THE CARD IS WHAT COUNTS. Prove the row's statement (the work); the ties are given (YtdmeoefmebimnaaDoorTie.lean); close each card by the builder's one call (the guide's Derived/Test/ToyasCard.lean, 'card_holds'). Laid BY PROGRAM, IN A SANDBOX (cutbox-door.mjs). By AI agents, Wed Nov 11 2026. No macro, syntax, notation, axiom, sorry.
-/
import Derived.Test.YtdmeoefmebimnaaDoorRows
import GoSem.ClaimSeven
namespace Go.Proofs.YtdmeoefmebimnaaDoor
namespace Rows

/-- THE TIED CARD OF 'hornbooklaw03.PoolAdds'. -/
def poolAddsCard : Claim7 := { stood := { row := poolAddsRow, standIns := [], harness := (true, "1c7687cddf269c96b63870961748765bc74ea46b595c0e64f1bcccd60fb5b24e"), looks := false }, kinds := [], alts := [], laidByText := true, laidKinds := [.data, .pinned], laidTests := true, laidLooks := .later }
def PoolAddsCardSaid : Prop := Claim7.holds Tryd.pinned (.plain (OpenSpec.ofChange poolAddsSpec)) poolAddsCard

/-- THE TIED CARD OF 'hornbooklaw03.PoolOnes'. -/
def poolOnesCard : Claim7 := { stood := { row := poolOnesRow, standIns := [], harness := (true, "1c7687cddf269c96b63870961748765bc74ea46b595c0e64f1bcccd60fb5b24e"), looks := false }, kinds := [], alts := [], laidByText := true, laidKinds := [.data, .pinned], laidTests := true, laidLooks := .later }
def PoolOnesCardSaid : Prop := Claim7.holds Tryd.pinned (.plain (OpenSpec.ofChange poolOnesSpec)) poolOnesCard

/-- THE TIED CARD OF 'hornbooklaw03.PoolLists'. -/
def poolListsCard : Claim7 := { stood := { row := poolListsRow, standIns := [], harness := (true, "1c7687cddf269c96b63870961748765bc74ea46b595c0e64f1bcccd60fb5b24e"), looks := false }, kinds := [], alts := [], laidByText := true, laidKinds := [.data, .pinned], laidTests := true, laidLooks := .later }
def PoolListsCardSaid : Prop := Claim7.holds Tryd.pinned (.plain (OpenSpec.ofChange poolListsSpec)) poolListsCard

/-- THE SECOND FORM's CARD OF 'hornbooklaw03.PoolAdds'. -/
def poolAddsUptoCard : Claim7 := { stood := { row := poolAddsUptoRow, standIns := [], harness := (true, "1c7687cddf269c96b63870961748765bc74ea46b595c0e64f1bcccd60fb5b24e"), looks := false }, kinds := [], alts := [], laidByText := true, laidKinds := [.data, .pinned], laidTests := true, laidLooks := .later }
def PoolAddsUptoCardSaid : Prop := Claim7.holds Tryd.pinned (.plain (OpenSpec.upto poolAddsSpec)) poolAddsUptoCard

/-- THE SECOND FORM's CARD OF 'hornbooklaw03.PoolOnes'. -/
def poolOnesUptoCard : Claim7 := { stood := { row := poolOnesUptoRow, standIns := [], harness := (true, "1c7687cddf269c96b63870961748765bc74ea46b595c0e64f1bcccd60fb5b24e"), looks := false }, kinds := [], alts := [], laidByText := true, laidKinds := [.data, .pinned], laidTests := true, laidLooks := .later }
def PoolOnesUptoCardSaid : Prop := Claim7.holds Tryd.pinned (.plain (OpenSpec.upto poolOnesSpec)) poolOnesUptoCard

/-- THE SECOND FORM's CARD OF 'hornbooklaw03.PoolLists'. -/
def poolListsUptoCard : Claim7 := { stood := { row := poolListsUptoRow, standIns := [], harness := (true, "1c7687cddf269c96b63870961748765bc74ea46b595c0e64f1bcccd60fb5b24e"), looks := false }, kinds := [], alts := [], laidByText := true, laidKinds := [.data, .pinned], laidTests := true, laidLooks := .later }
def PoolListsUptoCardSaid : Prop := Claim7.holds Tryd.pinned (.plain (OpenSpec.upto poolListsSpec)) poolListsUptoCard
end Rows
end Go.Proofs.YtdmeoefmebimnaaDoor
