/-
  DERIVED. GIVEN WITH THE SEED: THE CARDS: each row of YthhfljldbfgpcaaGreatDoorRows.lean that lists a variable, with what it lists TIED to the program's text (the seventh form; the later family's looks); each row that meets fmt, with fmt's text TOLD by the authors' own Lean function (tested against real Go, not proved from fmt's source: count such statements apart). THE CARD IS WHAT COUNTS. Prove the row's statement (the work); the ties are given (YthhfljldbfgpcaaGreatDoorTie.lean); close each card by the builder's one call (the guide's Derived/Test/ToyasCard.lean, 'card_holds'). Laid BY PROGRAM, IN A SANDBOX (cutbox-door.mjs). By AI agents, Wed Nov 11 2026. No macro, syntax, notation, axiom, sorry.
-/
import Derived.Test.YthhfljldbfgpcaaGreatDoorRows
import GoSem.ClaimSeven
namespace Go.Proofs.YthhfljldbfgpcaaGreatDoor
namespace Rows

/-- THE TIED CARD OF 'laws.FnTile'. -/
def fnTileCard : Claim7 := { stood := { row := fnTileRow, standIns := [], harness := (true, "5ca2bd5ddac2156e2295daf8ad4e8c69edeb4c4851a07a3be9b3d4de85b9dbd9"), looks := false }, kinds := [], alts := [], goes := true, laidByText := true, laidKinds := [.data], laidTests := true, laidLooks := .later }
def FnTileCardSaid : Prop := Claim7.holds Tryz.pinned (.plain (OpenSpec.ofChange fnTileSpec)) fnTileCard

/-- THE SECOND FORM's CARD OF 'laws.FnTile'. -/
def fnTileUptoCard : Claim7 := { stood := { row := fnTileUptoRow, standIns := [], harness := (true, "5ca2bd5ddac2156e2295daf8ad4e8c69edeb4c4851a07a3be9b3d4de85b9dbd9"), looks := false }, kinds := [], alts := [], goes := true, laidByText := true, laidKinds := [.data], laidTests := true, laidLooks := .later }
def FnTileUptoCardSaid : Prop := Claim7.holds Tryz.pinned (.plain (OpenSpec.upto fnTileSpec)) fnTileUptoCard
end Rows
end Go.Proofs.YthhfljldbfgpcaaGreatDoor
