/-
  DERIVED. GIVEN WITH THE SEED: THE CARDS: each row of YthfkkflogbibfaaGreatDoorRows.lean that lists a variable, with what it lists TIED to the program's text (the seventh form; the later family's looks); each row that meets fmt, with fmt's text TOLD by the authors' own Lean function (tested against real Go, not proved from fmt's source: count such statements apart). THE CARD IS WHAT COUNTS. Prove the row's statement (the work); the ties are given (YthfkkflogbibfaaGreatDoorTie.lean); close each card by the builder's one call (the guide's Derived/Test/ToyasCard.lean, 'card_holds'). Laid BY PROGRAM, IN A SANDBOX (cutbox-door.mjs). By AI agents, Wed Nov 11 2026. No macro, syntax, notation, axiom, sorry.
-/
import Derived.Test.YthfkkflogbibfaaGreatDoorRows
import GoSem.ClaimSeven
namespace Go.Proofs.YthfkkflogbibfaaGreatDoor
namespace Rows

/-- THE TIED CARD OF 'hornbooklaw09.KindNil'. -/
def kindNilCard : Claim7 := { stood := { row := kindNilRow, standIns := [], harness := (true, "f0b1440145c6e5a97c49460936d504d2fb78eb12e74e142a243db3eb6a5eeed4"), looks := false }, kinds := [], alts := [], laidByText := true, laidKinds := [.data, .data, .pinned], laidTests := true, laidLooks := .later }
def KindNilCardSaid : Prop := Claim7.holds Tryz.pinned (.plain (OpenSpec.ofChange kindNilSpec)) kindNilCard

/-- THE TIED CARD OF 'hornbooklaw21.TurnNil'. -/
def turnNilCard : Claim7 := { stood := { row := turnNilRow, standIns := [], harness := (true, "f0b1440145c6e5a97c49460936d504d2fb78eb12e74e142a243db3eb6a5eeed4"), looks := false }, kinds := [], alts := [], laidByText := true, laidKinds := [.data, .data, .pinned], laidTests := true, laidLooks := .later }
def TurnNilCardSaid : Prop := Claim7.holds Tryz.pinned (.plain (OpenSpec.ofChange turnNilSpec)) turnNilCard

/-- THE TIED CARD OF 'hornbooklaw08.TableNil'. -/
def tableNilCard : Claim7 := { stood := { row := tableNilRow, standIns := [], harness := (true, "f0b1440145c6e5a97c49460936d504d2fb78eb12e74e142a243db3eb6a5eeed4"), looks := false }, kinds := [], alts := [], laidByText := true, laidKinds := [.data, .data, .pinned], laidTests := true, laidLooks := .later }
def TableNilCardSaid : Prop := Claim7.holds Tryz.pinned (.plain (OpenSpec.ofChange tableNilSpec)) tableNilCard

/-- THE TIED CARD OF 'hornbooklaw20.DeltaNil'. -/
def deltaNilCard : Claim7 := { stood := { row := deltaNilRow, standIns := [], harness := (true, "f0b1440145c6e5a97c49460936d504d2fb78eb12e74e142a243db3eb6a5eeed4"), looks := false }, kinds := [], alts := [], laidByText := true, laidKinds := [.data, .data, .pinned], laidTests := true, laidLooks := .later }
def DeltaNilCardSaid : Prop := Claim7.holds Tryz.pinned (.plain (OpenSpec.ofChange deltaNilSpec)) deltaNilCard

/-- THE TIED CARD OF 'hornbooklaw10.VerifyNil'. -/
def verifyNilCard : Claim7 := { stood := { row := verifyNilRow, standIns := [], harness := (true, "f0b1440145c6e5a97c49460936d504d2fb78eb12e74e142a243db3eb6a5eeed4"), looks := false }, kinds := [], alts := [], laidByText := true, laidKinds := [.data, .data, .pinned], laidTests := true, laidLooks := .later }
def VerifyNilCardSaid : Prop := Claim7.holds Tryz.pinned (.plain (OpenSpec.ofChange verifyNilSpec)) verifyNilCard

/-- THE TIED CARD OF 'hornbooklaw34.StatNil'. -/
def statNilCard : Claim7 := { stood := { row := statNilRow, standIns := [], harness := (true, "f0b1440145c6e5a97c49460936d504d2fb78eb12e74e142a243db3eb6a5eeed4"), looks := false }, kinds := [], alts := [], laidByText := true, laidKinds := [.data, .data, .pinned], laidTests := true, laidLooks := .later }
def StatNilCardSaid : Prop := Claim7.holds Tryz.pinned (.plain (OpenSpec.ofChange statNilSpec)) statNilCard

/-- THE TIED CARD OF 'hornbooklaw11.LinkNil'. -/
def linkNilCard : Claim7 := { stood := { row := linkNilRow, standIns := [], harness := (true, "f0b1440145c6e5a97c49460936d504d2fb78eb12e74e142a243db3eb6a5eeed4"), looks := false }, kinds := [], alts := [], laidByText := true, laidKinds := [.data, .data, .pinned], laidTests := true, laidLooks := .later }
def LinkNilCardSaid : Prop := Claim7.holds Tryz.pinned (.plain (OpenSpec.ofChange linkNilSpec)) linkNilCard

/-- THE TIED CARD OF 'hornbooklaw15.FrameNil'. -/
def frameNilCard : Claim7 := { stood := { row := frameNilRow, standIns := [], harness := (true, "f0b1440145c6e5a97c49460936d504d2fb78eb12e74e142a243db3eb6a5eeed4"), looks := false }, kinds := [], alts := [], laidByText := true, laidKinds := [.data, .data, .pinned], laidTests := true, laidLooks := .later }
def FrameNilCardSaid : Prop := Claim7.holds Tryz.pinned (.plain (OpenSpec.ofChange frameNilSpec)) frameNilCard

/-- THE TIED CARD OF 'hornbooklaw13.CollectNil'. -/
def collectNilCard : Claim7 := { stood := { row := collectNilRow, standIns := [], harness := (true, "f0b1440145c6e5a97c49460936d504d2fb78eb12e74e142a243db3eb6a5eeed4"), looks := false }, kinds := [], alts := [], laidByText := true, laidKinds := [.data, .data, .pinned], laidTests := true, laidLooks := .later }
def CollectNilCardSaid : Prop := Claim7.holds Tryz.pinned (.plain (OpenSpec.ofChange collectNilSpec)) collectNilCard

/-- THE TIED CARD OF 'hornbooklaw22.ShadowNil'. -/
def shadowNilCard : Claim7 := { stood := { row := shadowNilRow, standIns := [], harness := (true, "f0b1440145c6e5a97c49460936d504d2fb78eb12e74e142a243db3eb6a5eeed4"), looks := false }, kinds := [], alts := [], laidByText := true, laidKinds := [.data, .data, .pinned], laidTests := true, laidLooks := .later }
def ShadowNilCardSaid : Prop := Claim7.holds Tryz.pinned (.plain (OpenSpec.ofChange shadowNilSpec)) shadowNilCard

/-- THE SECOND FORM's CARD OF 'hornbooklaw09.KindNil'. -/
def kindNilUptoCard : Claim7 := { stood := { row := kindNilUptoRow, standIns := [], harness := (true, "f0b1440145c6e5a97c49460936d504d2fb78eb12e74e142a243db3eb6a5eeed4"), looks := false }, kinds := [], alts := [], laidByText := true, laidKinds := [.data, .data, .pinned], laidTests := true, laidLooks := .later }
def KindNilUptoCardSaid : Prop := Claim7.holds Tryz.pinned (.plain (OpenSpec.upto kindNilSpec)) kindNilUptoCard

/-- THE SECOND FORM's CARD OF 'hornbooklaw21.TurnNil'. -/
def turnNilUptoCard : Claim7 := { stood := { row := turnNilUptoRow, standIns := [], harness := (true, "f0b1440145c6e5a97c49460936d504d2fb78eb12e74e142a243db3eb6a5eeed4"), looks := false }, kinds := [], alts := [], laidByText := true, laidKinds := [.data, .data, .pinned], laidTests := true, laidLooks := .later }
def TurnNilUptoCardSaid : Prop := Claim7.holds Tryz.pinned (.plain (OpenSpec.upto turnNilSpec)) turnNilUptoCard

/-- THE SECOND FORM's CARD OF 'hornbooklaw08.TableNil'. -/
def tableNilUptoCard : Claim7 := { stood := { row := tableNilUptoRow, standIns := [], harness := (true, "f0b1440145c6e5a97c49460936d504d2fb78eb12e74e142a243db3eb6a5eeed4"), looks := false }, kinds := [], alts := [], laidByText := true, laidKinds := [.data, .data, .pinned], laidTests := true, laidLooks := .later }
def TableNilUptoCardSaid : Prop := Claim7.holds Tryz.pinned (.plain (OpenSpec.upto tableNilSpec)) tableNilUptoCard

/-- THE SECOND FORM's CARD OF 'hornbooklaw20.DeltaNil'. -/
def deltaNilUptoCard : Claim7 := { stood := { row := deltaNilUptoRow, standIns := [], harness := (true, "f0b1440145c6e5a97c49460936d504d2fb78eb12e74e142a243db3eb6a5eeed4"), looks := false }, kinds := [], alts := [], laidByText := true, laidKinds := [.data, .data, .pinned], laidTests := true, laidLooks := .later }
def DeltaNilUptoCardSaid : Prop := Claim7.holds Tryz.pinned (.plain (OpenSpec.upto deltaNilSpec)) deltaNilUptoCard

/-- THE SECOND FORM's CARD OF 'hornbooklaw10.VerifyNil'. -/
def verifyNilUptoCard : Claim7 := { stood := { row := verifyNilUptoRow, standIns := [], harness := (true, "f0b1440145c6e5a97c49460936d504d2fb78eb12e74e142a243db3eb6a5eeed4"), looks := false }, kinds := [], alts := [], laidByText := true, laidKinds := [.data, .data, .pinned], laidTests := true, laidLooks := .later }
def VerifyNilUptoCardSaid : Prop := Claim7.holds Tryz.pinned (.plain (OpenSpec.upto verifyNilSpec)) verifyNilUptoCard

/-- THE SECOND FORM's CARD OF 'hornbooklaw34.StatNil'. -/
def statNilUptoCard : Claim7 := { stood := { row := statNilUptoRow, standIns := [], harness := (true, "f0b1440145c6e5a97c49460936d504d2fb78eb12e74e142a243db3eb6a5eeed4"), looks := false }, kinds := [], alts := [], laidByText := true, laidKinds := [.data, .data, .pinned], laidTests := true, laidLooks := .later }
def StatNilUptoCardSaid : Prop := Claim7.holds Tryz.pinned (.plain (OpenSpec.upto statNilSpec)) statNilUptoCard

/-- THE SECOND FORM's CARD OF 'hornbooklaw11.LinkNil'. -/
def linkNilUptoCard : Claim7 := { stood := { row := linkNilUptoRow, standIns := [], harness := (true, "f0b1440145c6e5a97c49460936d504d2fb78eb12e74e142a243db3eb6a5eeed4"), looks := false }, kinds := [], alts := [], laidByText := true, laidKinds := [.data, .data, .pinned], laidTests := true, laidLooks := .later }
def LinkNilUptoCardSaid : Prop := Claim7.holds Tryz.pinned (.plain (OpenSpec.upto linkNilSpec)) linkNilUptoCard

/-- THE SECOND FORM's CARD OF 'hornbooklaw15.FrameNil'. -/
def frameNilUptoCard : Claim7 := { stood := { row := frameNilUptoRow, standIns := [], harness := (true, "f0b1440145c6e5a97c49460936d504d2fb78eb12e74e142a243db3eb6a5eeed4"), looks := false }, kinds := [], alts := [], laidByText := true, laidKinds := [.data, .data, .pinned], laidTests := true, laidLooks := .later }
def FrameNilUptoCardSaid : Prop := Claim7.holds Tryz.pinned (.plain (OpenSpec.upto frameNilSpec)) frameNilUptoCard

/-- THE SECOND FORM's CARD OF 'hornbooklaw13.CollectNil'. -/
def collectNilUptoCard : Claim7 := { stood := { row := collectNilUptoRow, standIns := [], harness := (true, "f0b1440145c6e5a97c49460936d504d2fb78eb12e74e142a243db3eb6a5eeed4"), looks := false }, kinds := [], alts := [], laidByText := true, laidKinds := [.data, .data, .pinned], laidTests := true, laidLooks := .later }
def CollectNilUptoCardSaid : Prop := Claim7.holds Tryz.pinned (.plain (OpenSpec.upto collectNilSpec)) collectNilUptoCard

/-- THE SECOND FORM's CARD OF 'hornbooklaw22.ShadowNil'. -/
def shadowNilUptoCard : Claim7 := { stood := { row := shadowNilUptoRow, standIns := [], harness := (true, "f0b1440145c6e5a97c49460936d504d2fb78eb12e74e142a243db3eb6a5eeed4"), looks := false }, kinds := [], alts := [], laidByText := true, laidKinds := [.data, .data, .pinned], laidTests := true, laidLooks := .later }
def ShadowNilUptoCardSaid : Prop := Claim7.holds Tryz.pinned (.plain (OpenSpec.upto shadowNilSpec)) shadowNilUptoCard
end Rows
end Go.Proofs.YthfkkflogbibfaaGreatDoor
