/-
  DERIVED. GIVEN WITH THE SEED: THE CARDS: each row of YtijlgjijhkokbaaGreatDoorRows.lean that lists a variable, with what it lists TIED to the program's text (the seventh form; the later family's looks); each row that meets fmt, with fmt's text TOLD by the authors' own Lean function (tested against real Go, not proved from fmt's source: count such statements apart). THE CARD IS WHAT COUNTS. Prove the row's statement (the work); the ties are given (YtijlgjijhkokbaaGreatDoorTie.lean); close each card by the builder's one call (the guide's Derived/Test/ToyasCard.lean, 'card_holds'). Laid BY PROGRAM, IN A SANDBOX (cutbox-door.mjs). By AI agents, Wed Nov 11 2026. No macro, syntax, notation, axiom, sorry.
-/
import Derived.Test.YtijlgjijhkokbaaGreatDoorRows
import GoSem.ClaimSeven
namespace Go.Proofs.YtijlgjijhkokbaaGreatDoor
namespace Rows

/-- THE TIED CARD OF 'hornbooklaw34.StatAdds'. -/
def statAddsCard : Claim7 := { stood := { row := statAddsRow, standIns := [], harness := (true, "1d6b1a5e986ffdc769d6b75175fadc5bf9f4ffd8ff87c3aab63409b0f3721d2d"), looks := false }, kinds := [], alts := [], laidByText := true, laidKinds := [.data, .data, .pinned], laidTests := true, laidLooks := .later }
def StatAddsCardSaid : Prop := Claim7.holds Tryz.pinned (.plain (OpenSpec.ofChange statAddsSpec)) statAddsCard

/-- THE SECOND FORM's CARD OF 'hornbooklaw34.StatAdds'. -/
def statAddsUptoCard : Claim7 := { stood := { row := statAddsUptoRow, standIns := [], harness := (true, "1d6b1a5e986ffdc769d6b75175fadc5bf9f4ffd8ff87c3aab63409b0f3721d2d"), looks := false }, kinds := [], alts := [], laidByText := true, laidKinds := [.data, .data, .pinned], laidTests := true, laidLooks := .later }
def StatAddsUptoCardSaid : Prop := Claim7.holds Tryz.pinned (.plain (OpenSpec.upto statAddsSpec)) statAddsUptoCard
end Rows
end Go.Proofs.YtijlgjijhkokbaaGreatDoor
