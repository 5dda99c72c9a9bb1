/-
  DERIVED. GIVEN WITH THE SEED: THE CARDS: each row of YtaooangghieljaaGreatDoorRows.lean that lists a variable, with what it lists TIED to the program's text (the seventh form; the later family's looks); each row that meets fmt, with fmt's text TOLD by the authors' own Lean function (tested against real Go, not proved from fmt's source: count such statements apart). THE CARD IS WHAT COUNTS. Prove the row's statement (the work); the ties are given (YtaooangghieljaaGreatDoorTie.lean); close each card by the builder's one call (the guide's Derived/Test/ToyasCard.lean, 'card_holds'). Laid BY PROGRAM, IN A SANDBOX (cutbox-door.mjs). By AI agents, Wed Nov 11 2026. No macro, syntax, notation, axiom, sorry.
-/
import Derived.Test.YtaooangghieljaaGreatDoorRows
import GoSem.ClaimSeven
namespace Go.Proofs.YtaooangghieljaaGreatDoor
namespace Rows

/-- THE TIED CARD OF 'hornbooklaw06.PackSame'. -/
def packSameCard : Claim7 := { stood := { row := packSameRow, standIns := [], harness := (true, "c820100f7b21d5825ea3250fd4782a55b35da2e16c9973f07e92f4e4132c5f51"), looks := false }, kinds := [], alts := [], laidByText := true, laidKinds := [.data, .data, .pinned], laidTests := true, laidLooks := .later }
def PackSameCardSaid : Prop := Claim7.holds Tryz.pinned (.plain (OpenSpec.ofChange packSameSpec)) packSameCard

/-- THE TIED CARD OF 'hornbooklaw06.PackRights'. -/
def packRightsCard : Claim7 := { stood := { row := packRightsRow, standIns := [], harness := (true, "c820100f7b21d5825ea3250fd4782a55b35da2e16c9973f07e92f4e4132c5f51"), looks := false }, kinds := [], alts := [], laidByText := true, laidKinds := [.data, .data, .pinned], laidTests := true, laidLooks := .later }
def PackRightsCardSaid : Prop := Claim7.holds Tryz.pinned (.plain (OpenSpec.ofChange packRightsSpec)) packRightsCard

/-- THE SECOND FORM's CARD OF 'hornbooklaw06.PackSame'. -/
def packSameUptoCard : Claim7 := { stood := { row := packSameUptoRow, standIns := [], harness := (true, "c820100f7b21d5825ea3250fd4782a55b35da2e16c9973f07e92f4e4132c5f51"), looks := false }, kinds := [], alts := [], laidByText := true, laidKinds := [.data, .data, .pinned], laidTests := true, laidLooks := .later }
def PackSameUptoCardSaid : Prop := Claim7.holds Tryz.pinned (.plain (OpenSpec.upto packSameSpec)) packSameUptoCard

/-- THE SECOND FORM's CARD OF 'hornbooklaw06.PackRights'. -/
def packRightsUptoCard : Claim7 := { stood := { row := packRightsUptoRow, standIns := [], harness := (true, "c820100f7b21d5825ea3250fd4782a55b35da2e16c9973f07e92f4e4132c5f51"), looks := false }, kinds := [], alts := [], laidByText := true, laidKinds := [.data, .data, .pinned], laidTests := true, laidLooks := .later }
def PackRightsUptoCardSaid : Prop := Claim7.holds Tryz.pinned (.plain (OpenSpec.upto packRightsSpec)) packRightsUptoCard
end Rows
end Go.Proofs.YtaooangghieljaaGreatDoor
