/-
  DERIVED. GIVEN WITH THE SEED: THE CARDS: each row of YtcocmlmligjjcaaGreatDoorRows.lean that lists a variable, with what it lists TIED to the program's text (the seventh form; the later family's looks); each row that meets fmt, with fmt's text TOLD by the authors' own Lean function (tested against real Go, not proved from fmt's source: count such statements apart). THE CARD IS WHAT COUNTS. Prove the row's statement (the work); the ties are given (YtcocmlmligjjcaaGreatDoorTie.lean); close each card by the builder's one call (the guide's Derived/Test/ToyasCard.lean, 'card_holds'). Laid BY PROGRAM, IN A SANDBOX (cutbox-door.mjs). By AI agents, Wed Nov 11 2026. No macro, syntax, notation, axiom, sorry.
-/
import Derived.Test.YtcocmlmligjjcaaGreatDoorRows
import GoSem.ClaimSeven
namespace Go.Proofs.YtcocmlmligjjcaaGreatDoor
namespace Rows

/-- THE TIED CARD OF 'hornbooklaw15.FrameNil'. -/
def frameNilCard : Claim7 := { stood := { row := frameNilRow, standIns := [], harness := (true, "7f385fb5e7cc2b80f785258fd0362c63347473259cdae763c4e3f2f86397b884"), looks := false }, kinds := [], alts := [], laidByText := true, laidKinds := [.data, .data, .pinned], laidTests := true, laidLooks := .later }
def FrameNilCardSaid : Prop := Claim7.holds Tryz.pinned (.plain (OpenSpec.ofChange frameNilSpec)) frameNilCard

/-- THE TIED CARD OF 'hornbooklaw13.CollectNil'. -/
def collectNilCard : Claim7 := { stood := { row := collectNilRow, standIns := [], harness := (true, "7f385fb5e7cc2b80f785258fd0362c63347473259cdae763c4e3f2f86397b884"), looks := false }, kinds := [], alts := [], laidByText := true, laidKinds := [.data, .data, .pinned], laidTests := true, laidLooks := .later }
def CollectNilCardSaid : Prop := Claim7.holds Tryz.pinned (.plain (OpenSpec.ofChange collectNilSpec)) collectNilCard

/-- THE TIED CARD OF 'hornbooklaw22.ShadowNil'. -/
def shadowNilCard : Claim7 := { stood := { row := shadowNilRow, standIns := [], harness := (true, "7f385fb5e7cc2b80f785258fd0362c63347473259cdae763c4e3f2f86397b884"), looks := false }, kinds := [], alts := [], laidByText := true, laidKinds := [.data, .data, .pinned], laidTests := true, laidLooks := .later }
def ShadowNilCardSaid : Prop := Claim7.holds Tryz.pinned (.plain (OpenSpec.ofChange shadowNilSpec)) shadowNilCard

/-- THE TIED CARD OF 'hornbooklaw20.DeltaNil'. -/
def deltaNilCard : Claim7 := { stood := { row := deltaNilRow, standIns := [], harness := (true, "7f385fb5e7cc2b80f785258fd0362c63347473259cdae763c4e3f2f86397b884"), looks := false }, kinds := [], alts := [], laidByText := true, laidKinds := [.data, .data, .pinned], laidTests := true, laidLooks := .later }
def DeltaNilCardSaid : Prop := Claim7.holds Tryz.pinned (.plain (OpenSpec.ofChange deltaNilSpec)) deltaNilCard

/-- THE TIED CARD OF 'hornbooklaw09.KindStarts'. -/
def kindStartsCard : Claim7 := { stood := { row := kindStartsRow, standIns := [], harness := (true, "7f385fb5e7cc2b80f785258fd0362c63347473259cdae763c4e3f2f86397b884"), looks := false }, kinds := [], alts := [], laidByText := true, laidKinds := [.data, .data, .pinned], laidTests := true, laidLooks := .later }
def KindStartsCardSaid : Prop := Claim7.holds Tryz.pinned (.plain (OpenSpec.ofChange kindStartsSpec)) kindStartsCard

/-- THE SECOND FORM's CARD OF 'hornbooklaw15.FrameNil'. -/
def frameNilUptoCard : Claim7 := { stood := { row := frameNilUptoRow, standIns := [], harness := (true, "7f385fb5e7cc2b80f785258fd0362c63347473259cdae763c4e3f2f86397b884"), looks := false }, kinds := [], alts := [], laidByText := true, laidKinds := [.data, .data, .pinned], laidTests := true, laidLooks := .later }
def FrameNilUptoCardSaid : Prop := Claim7.holds Tryz.pinned (.plain (OpenSpec.upto frameNilSpec)) frameNilUptoCard

/-- THE SECOND FORM's CARD OF 'hornbooklaw13.CollectNil'. -/
def collectNilUptoCard : Claim7 := { stood := { row := collectNilUptoRow, standIns := [], harness := (true, "7f385fb5e7cc2b80f785258fd0362c63347473259cdae763c4e3f2f86397b884"), looks := false }, kinds := [], alts := [], laidByText := true, laidKinds := [.data, .data, .pinned], laidTests := true, laidLooks := .later }
def CollectNilUptoCardSaid : Prop := Claim7.holds Tryz.pinned (.plain (OpenSpec.upto collectNilSpec)) collectNilUptoCard

/-- THE SECOND FORM's CARD OF 'hornbooklaw22.ShadowNil'. -/
def shadowNilUptoCard : Claim7 := { stood := { row := shadowNilUptoRow, standIns := [], harness := (true, "7f385fb5e7cc2b80f785258fd0362c63347473259cdae763c4e3f2f86397b884"), looks := false }, kinds := [], alts := [], laidByText := true, laidKinds := [.data, .data, .pinned], laidTests := true, laidLooks := .later }
def ShadowNilUptoCardSaid : Prop := Claim7.holds Tryz.pinned (.plain (OpenSpec.upto shadowNilSpec)) shadowNilUptoCard

/-- THE SECOND FORM's CARD OF 'hornbooklaw20.DeltaNil'. -/
def deltaNilUptoCard : Claim7 := { stood := { row := deltaNilUptoRow, standIns := [], harness := (true, "7f385fb5e7cc2b80f785258fd0362c63347473259cdae763c4e3f2f86397b884"), looks := false }, kinds := [], alts := [], laidByText := true, laidKinds := [.data, .data, .pinned], laidTests := true, laidLooks := .later }
def DeltaNilUptoCardSaid : Prop := Claim7.holds Tryz.pinned (.plain (OpenSpec.upto deltaNilSpec)) deltaNilUptoCard

/-- THE SECOND FORM's CARD OF 'hornbooklaw09.KindStarts'. -/
def kindStartsUptoCard : Claim7 := { stood := { row := kindStartsUptoRow, standIns := [], harness := (true, "7f385fb5e7cc2b80f785258fd0362c63347473259cdae763c4e3f2f86397b884"), looks := false }, kinds := [], alts := [], laidByText := true, laidKinds := [.data, .data, .pinned], laidTests := true, laidLooks := .later }
def KindStartsUptoCardSaid : Prop := Claim7.holds Tryz.pinned (.plain (OpenSpec.upto kindStartsSpec)) kindStartsUptoCard
end Rows
end Go.Proofs.YtcocmlmligjjcaaGreatDoor
