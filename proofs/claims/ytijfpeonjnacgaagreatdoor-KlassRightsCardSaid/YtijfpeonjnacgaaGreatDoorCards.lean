/-
  DERIVED. GIVEN WITH THE SEED: THE CARDS: each row of YtijfpeonjnacgaaGreatDoorRows.lean that lists a variable, with what it lists TIED to the program's text (the seventh form; the later family's looks); each row that meets fmt, with fmt's text TOLD by the authors' own Lean function (tested against real Go, not proved from fmt's source: count such statements apart). THE CARD IS WHAT COUNTS. Prove the row's statement (the work); the ties are given (YtijfpeonjnacgaaGreatDoorTie.lean); close each card by the builder's one call (the guide's Derived/Test/ToyasCard.lean, 'card_holds'). Laid BY PROGRAM, IN A SANDBOX (cutbox-door.mjs). By AI agents, Wed Nov 11 2026. No macro, syntax, notation, axiom, sorry.
-/
import Derived.Test.YtijfpeonjnacgaaGreatDoorRows
import GoSem.ClaimSeven
namespace Go.Proofs.YtijfpeonjnacgaaGreatDoor
namespace Rows

/-- THE TIED CARD OF 'hornbooklaw05.KlassSame'. -/
def klassSameCard : Claim7 := { stood := { row := klassSameRow, standIns := [], harness := (true, "7359208c0f1a091c76680e4cfa3572e3f849c059f36641f38064012474bf5a41"), looks := false }, kinds := [], alts := [], laidByText := true, laidKinds := [.data, .data, .pinned], laidTests := true, laidLooks := .later }
def KlassSameCardSaid : Prop := Claim7.holds Tryz.pinned (.plain (OpenSpec.ofChange klassSameSpec)) klassSameCard

/-- THE TIED CARD OF 'hornbooklaw05.KlassRights'. -/
def klassRightsCard : Claim7 := { stood := { row := klassRightsRow, standIns := [], harness := (true, "7359208c0f1a091c76680e4cfa3572e3f849c059f36641f38064012474bf5a41"), looks := false }, kinds := [], alts := [], laidByText := true, laidKinds := [.data, .data, .pinned], laidTests := true, laidLooks := .later }
def KlassRightsCardSaid : Prop := Claim7.holds Tryz.pinned (.plain (OpenSpec.ofChange klassRightsSpec)) klassRightsCard

/-- THE TIED CARD OF 'hornbooklaw05.KlassReads'. -/
def klassReadsCard : Claim7 := { stood := { row := klassReadsRow, standIns := [], harness := (true, "7359208c0f1a091c76680e4cfa3572e3f849c059f36641f38064012474bf5a41"), looks := false }, kinds := [], alts := [], laidByText := true, laidKinds := [.data, .data, .pinned], laidTests := true, laidLooks := .later }
def KlassReadsCardSaid : Prop := Claim7.holds Tryz.pinned (.plain (OpenSpec.ofChange klassReadsSpec)) klassReadsCard

/-- THE TIED CARD OF 'hornbooklaw05.KlassBytes'. -/
def klassBytesCard : Claim7 := { stood := { row := klassBytesRow, standIns := [], harness := (true, "7359208c0f1a091c76680e4cfa3572e3f849c059f36641f38064012474bf5a41"), looks := false }, kinds := [], alts := [], laidByText := true, laidKinds := [.data, .data, .pinned], laidTests := true, laidLooks := .later }
def KlassBytesCardSaid : Prop := Claim7.holds Tryz.pinned (.plain (OpenSpec.ofChange klassBytesSpec)) klassBytesCard

/-- THE TIED CARD OF 'hornbooklaw05.KlassCanons'. -/
def klassCanonsCard : Claim7 := { stood := { row := klassCanonsRow, standIns := [], harness := (true, "7359208c0f1a091c76680e4cfa3572e3f849c059f36641f38064012474bf5a41"), looks := false }, kinds := [], alts := [], laidByText := true, laidKinds := [.data, .data, .pinned], laidTests := true, laidLooks := .later }
def KlassCanonsCardSaid : Prop := Claim7.holds Tryz.pinned (.plain (OpenSpec.ofChange klassCanonsSpec)) klassCanonsCard

/-- THE SECOND FORM's CARD OF 'hornbooklaw05.KlassSame'. -/
def klassSameUptoCard : Claim7 := { stood := { row := klassSameUptoRow, standIns := [], harness := (true, "7359208c0f1a091c76680e4cfa3572e3f849c059f36641f38064012474bf5a41"), looks := false }, kinds := [], alts := [], laidByText := true, laidKinds := [.data, .data, .pinned], laidTests := true, laidLooks := .later }
def KlassSameUptoCardSaid : Prop := Claim7.holds Tryz.pinned (.plain (OpenSpec.upto klassSameSpec)) klassSameUptoCard

/-- THE SECOND FORM's CARD OF 'hornbooklaw05.KlassRights'. -/
def klassRightsUptoCard : Claim7 := { stood := { row := klassRightsUptoRow, standIns := [], harness := (true, "7359208c0f1a091c76680e4cfa3572e3f849c059f36641f38064012474bf5a41"), looks := false }, kinds := [], alts := [], laidByText := true, laidKinds := [.data, .data, .pinned], laidTests := true, laidLooks := .later }
def KlassRightsUptoCardSaid : Prop := Claim7.holds Tryz.pinned (.plain (OpenSpec.upto klassRightsSpec)) klassRightsUptoCard

/-- THE SECOND FORM's CARD OF 'hornbooklaw05.KlassReads'. -/
def klassReadsUptoCard : Claim7 := { stood := { row := klassReadsUptoRow, standIns := [], harness := (true, "7359208c0f1a091c76680e4cfa3572e3f849c059f36641f38064012474bf5a41"), looks := false }, kinds := [], alts := [], laidByText := true, laidKinds := [.data, .data, .pinned], laidTests := true, laidLooks := .later }
def KlassReadsUptoCardSaid : Prop := Claim7.holds Tryz.pinned (.plain (OpenSpec.upto klassReadsSpec)) klassReadsUptoCard

/-- THE SECOND FORM's CARD OF 'hornbooklaw05.KlassBytes'. -/
def klassBytesUptoCard : Claim7 := { stood := { row := klassBytesUptoRow, standIns := [], harness := (true, "7359208c0f1a091c76680e4cfa3572e3f849c059f36641f38064012474bf5a41"), looks := false }, kinds := [], alts := [], laidByText := true, laidKinds := [.data, .data, .pinned], laidTests := true, laidLooks := .later }
def KlassBytesUptoCardSaid : Prop := Claim7.holds Tryz.pinned (.plain (OpenSpec.upto klassBytesSpec)) klassBytesUptoCard

/-- THE SECOND FORM's CARD OF 'hornbooklaw05.KlassCanons'. -/
def klassCanonsUptoCard : Claim7 := { stood := { row := klassCanonsUptoRow, standIns := [], harness := (true, "7359208c0f1a091c76680e4cfa3572e3f849c059f36641f38064012474bf5a41"), looks := false }, kinds := [], alts := [], laidByText := true, laidKinds := [.data, .data, .pinned], laidTests := true, laidLooks := .later }
def KlassCanonsUptoCardSaid : Prop := Claim7.holds Tryz.pinned (.plain (OpenSpec.upto klassCanonsSpec)) klassCanonsUptoCard
end Rows
end Go.Proofs.YtijfpeonjnacgaaGreatDoor
