/-
  DERIVED. GIVEN WITH THE SEED: THE CARDS: each row of YteegdpnidakjiaaDoorRows.lean that lists a variable, with what it lists TIED to the program's text (the seventh form; the later family's looks); each row that meets fmt, with fmt's text TOLD by the authors' own Lean function (tested against real Go, not proved from fmt's source: count such statements apart). THE CARD IS WHAT COUNTS. Prove the row's statement (the work); the ties are given (YteegdpnidakjiaaDoorTie.lean); close each card by the builder's one call (the guide's Derived/Test/ToyasCard.lean, 'card_holds'). Laid BY PROGRAM, IN A SANDBOX (cutbox-door.mjs). By AI agents, Wed Nov 11 2026. No macro, syntax, notation, axiom, sorry.
-/
import Derived.Test.YteegdpnidakjiaaDoorRows
import GoSem.ClaimSeven
namespace Go.Proofs.YteegdpnidakjiaaDoor
namespace Rows

/-- THE TIED CARD OF 'laws.FnTune'. -/
def fnTuneCard : Claim7 := { stood := { row := fnTuneRow, standIns := [], harness := (true, "e667d82ebdfeb3ea32e26efb094f7edf5ebc6ceb3e487b89baa00321b86731aa"), looks := true }, kinds := [], alts := [], laidByText := true, laidKinds := [.data, .data, .handle], laidTests := true, laidLooks := .later }
def FnTuneCardSaid : Prop := Claim7.holds Tryd.pinned (.plain (OpenSpec.ofChange fnTuneSpec)) fnTuneCard

/-- THE SECOND FORM's CARD OF 'laws.FnTune'. -/
def fnTuneUptoCard : Claim7 := { stood := { row := fnTuneUptoRow, standIns := [], harness := (true, "e667d82ebdfeb3ea32e26efb094f7edf5ebc6ceb3e487b89baa00321b86731aa"), looks := true }, kinds := [], alts := [], laidByText := true, laidKinds := [.data, .data, .handle], laidTests := true, laidLooks := .later }
def FnTuneUptoCardSaid : Prop := Claim7.holds Tryd.pinned (.plain (OpenSpec.upto fnTuneSpec)) fnTuneUptoCard
end Rows
end Go.Proofs.YteegdpnidakjiaaDoor
