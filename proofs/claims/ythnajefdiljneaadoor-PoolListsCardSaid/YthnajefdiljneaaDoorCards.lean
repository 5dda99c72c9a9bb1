/-
  DERIVED. GIVEN WITH THE SEED: THE CARDS: each row of YthnajefdiljneaaDoorRows.lean that lists a variable, with what it lists TIED to the program's text (the seventh form; the later family's looks); each row that meets fmt, with fmt's text TOLD by the authors' own Lean function (tested against real Go, not proved from fmt's source: count such statements apart). THE CARD IS WHAT COUNTS. Prove the row's statement (the work); the ties are given (YthnajefdiljneaaDoorTie.lean); close each card by the builder's one call (the guide's Derived/Test/ToyasCard.lean, 'card_holds'). Laid BY PROGRAM, IN A SANDBOX (cutbox-door.mjs). By AI agents, Wed Nov 11 2026. No macro, syntax, notation, axiom, sorry.
-/
import Derived.Test.YthnajefdiljneaaDoorRows
import GoSem.ClaimSeven
namespace Go.Proofs.YthnajefdiljneaaDoor
namespace Rows

/-- THE TIED CARD OF 'hornbooklaw03.PoolOnes'. -/
def poolOnesCard : Claim7 := { stood := { row := poolOnesRow, standIns := [], harness := (true, "a9c6b8ab06e3f779afe848ee15d498557a0178c1ba5655f6494bdfda95ab5158"), looks := false }, kinds := [], alts := [], laidByText := true, laidKinds := [.data, .pinned], laidTests := true, laidLooks := .later }
def PoolOnesCardSaid : Prop := Claim7.holds Tryd.pinned (.plain (OpenSpec.ofChange poolOnesSpec)) poolOnesCard

/-- THE TIED CARD OF 'hornbooklaw03.PoolLists'. -/
def poolListsCard : Claim7 := { stood := { row := poolListsRow, standIns := [], harness := (true, "a9c6b8ab06e3f779afe848ee15d498557a0178c1ba5655f6494bdfda95ab5158"), looks := false }, kinds := [], alts := [], laidByText := true, laidKinds := [.data, .pinned], laidTests := true, laidLooks := .later }
def PoolListsCardSaid : Prop := Claim7.holds Tryd.pinned (.plain (OpenSpec.ofChange poolListsSpec)) poolListsCard

/-- THE SECOND FORM's CARD OF 'hornbooklaw03.PoolOnes'. -/
def poolOnesUptoCard : Claim7 := { stood := { row := poolOnesUptoRow, standIns := [], harness := (true, "a9c6b8ab06e3f779afe848ee15d498557a0178c1ba5655f6494bdfda95ab5158"), looks := false }, kinds := [], alts := [], laidByText := true, laidKinds := [.data, .pinned], laidTests := true, laidLooks := .later }
def PoolOnesUptoCardSaid : Prop := Claim7.holds Tryd.pinned (.plain (OpenSpec.upto poolOnesSpec)) poolOnesUptoCard

/-- THE SECOND FORM's CARD OF 'hornbooklaw03.PoolLists'. -/
def poolListsUptoCard : Claim7 := { stood := { row := poolListsUptoRow, standIns := [], harness := (true, "a9c6b8ab06e3f779afe848ee15d498557a0178c1ba5655f6494bdfda95ab5158"), looks := false }, kinds := [], alts := [], laidByText := true, laidKinds := [.data, .pinned], laidTests := true, laidLooks := .later }
def PoolListsUptoCardSaid : Prop := Claim7.holds Tryd.pinned (.plain (OpenSpec.upto poolListsSpec)) poolListsUptoCard
end Rows
end Go.Proofs.YthnajefdiljneaaDoor
