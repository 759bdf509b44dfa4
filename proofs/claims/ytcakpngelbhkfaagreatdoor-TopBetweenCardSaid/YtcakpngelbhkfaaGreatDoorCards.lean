/-
  DERIVED. GIVEN WITH THE SEED: THE CARDS: each row of YtcakpngelbhkfaaGreatDoorRows.lean that lists a variable, with what it lists TIED to the program's text (the seventh form; the later family's looks); each row that meets fmt, with fmt's text TOLD by the authors' own Lean function (tested against real Go, not proved from fmt's source: count such statements apart). THE CARD IS WHAT COUNTS. Prove the row's statement (the work); the ties are given (YtcakpngelbhkfaaGreatDoorTie.lean); close each card by the builder's one call (the guide's Derived/Test/ToyasCard.lean, 'card_holds'). Laid BY PROGRAM, IN A SANDBOX (cutbox-door.mjs). By AI agents, Wed Nov 11 2026. No macro, syntax, notation, axiom, sorry.
-/
import Derived.Test.YtcakpngelbhkfaaGreatDoorRows
import GoSem.ClaimSeven
namespace Go.Proofs.YtcakpngelbhkfaaGreatDoor
namespace Rows

/-- THE TIED CARD OF 'bindletop.TopBetween'. -/
def topBetweenCard : Claim7 := { stood := { row := topBetweenRow, standIns := [], harness := (true, "0eed23ea33d2c73885365ac9374aa61e7b7a2f56985a0599817b9c41c49ab55b"), looks := true }, kinds := [], alts := [], laidByText := true, laidKinds := [.data, .pinned], laidTests := true, laidLooks := .later }
def TopBetweenCardSaid : Prop := Claim7.holds Tryz.pinned (.plain (OpenSpec.ofChange topBetweenSpec)) topBetweenCard

/-- THE SECOND FORM's CARD OF 'bindletop.TopBetween'. -/
def topBetweenUptoCard : Claim7 := { stood := { row := topBetweenUptoRow, standIns := [], harness := (true, "0eed23ea33d2c73885365ac9374aa61e7b7a2f56985a0599817b9c41c49ab55b"), looks := true }, kinds := [], alts := [], laidByText := true, laidKinds := [.data, .pinned], laidTests := true, laidLooks := .later }
def TopBetweenUptoCardSaid : Prop := Claim7.holds Tryz.pinned (.plain (OpenSpec.upto topBetweenSpec)) topBetweenUptoCard
end Rows
end Go.Proofs.YtcakpngelbhkfaaGreatDoor
