/-
  DERIVED. GIVEN WITH THE SEED: THE CARDS: each row of YtdfoobemgdiobaaDoorRows.lean that lists a variable, with what it lists TIED to the program's text (the seventh form; the later family's looks); each row that meets fmt, with fmt's text TOLD by the authors' own Lean function (tested against real Go, not proved from fmt's source: count such statements apart). THE CARD IS WHAT COUNTS. Prove the row's statement (the work); the ties are given (YtdfoobemgdiobaaDoorTie.lean); close each card by the builder's one call (the guide's Derived/Test/ToyasCard.lean, 'card_holds'). Laid BY PROGRAM, IN A SANDBOX (cutbox-door.mjs). By AI agents, Wed Nov 11 2026. No macro, syntax, notation, axiom, sorry.
-/
import Derived.Test.YtdfoobemgdiobaaDoorRows
import GoSem.ClaimSeven
namespace Go.Proofs.YtdfoobemgdiobaaDoor
namespace Rows

/-- THE TIED CARD OF 'laws.FnPoint'. -/
def fnPointCard : Claim7 := { stood := { row := fnPointRow, standIns := [], harness := (true, "88bdb890ddba7335e640c7b1d1ea0b511256b9c151987171765d51162666c949"), looks := false }, kinds := [], alts := [], laidByText := true, laidKinds := [.data], laidTests := true, laidLooks := .later }
def FnPointCardSaid : Prop := Claim7.holds Tryd.pinned (.plain (OpenSpec.ofChange fnPointSpec)) fnPointCard

/-- THE TIED CARD OF 'laws.FnSame'. -/
def fnSameCard : Claim7 := { stood := { row := fnSameRow, standIns := [], harness := (true, "88bdb890ddba7335e640c7b1d1ea0b511256b9c151987171765d51162666c949"), looks := false }, kinds := [], alts := [], laidByText := true, laidKinds := [.data, .data, .data], laidTests := true, laidLooks := .later }
def FnSameCardSaid : Prop := Claim7.holds Tryd.pinned (.plain (OpenSpec.ofChange fnSameSpec)) fnSameCard

/-- THE SECOND FORM's CARD OF 'laws.FnPoint'. -/
def fnPointUptoCard : Claim7 := { stood := { row := fnPointUptoRow, standIns := [], harness := (true, "88bdb890ddba7335e640c7b1d1ea0b511256b9c151987171765d51162666c949"), looks := false }, kinds := [], alts := [], laidByText := true, laidKinds := [.data], laidTests := true, laidLooks := .later }
def FnPointUptoCardSaid : Prop := Claim7.holds Tryd.pinned (.plain (OpenSpec.upto fnPointSpec)) fnPointUptoCard

/-- THE SECOND FORM's CARD OF 'laws.FnSame'. -/
def fnSameUptoCard : Claim7 := { stood := { row := fnSameUptoRow, standIns := [], harness := (true, "88bdb890ddba7335e640c7b1d1ea0b511256b9c151987171765d51162666c949"), looks := false }, kinds := [], alts := [], laidByText := true, laidKinds := [.data, .data, .data], laidTests := true, laidLooks := .later }
def FnSameUptoCardSaid : Prop := Claim7.holds Tryd.pinned (.plain (OpenSpec.upto fnSameSpec)) fnSameUptoCard
end Rows
end Go.Proofs.YtdfoobemgdiobaaDoor
