/-
  DERIVED. GIVEN WITH THE SEED: THE CARDS: each row of YtjaehldnlamgkaaGreatDoorRows.lean that lists a variable, with what it lists TIED to the program's text (the seventh form; the later family's looks); each row that meets fmt, with fmt's text TOLD by the authors' own Lean function (tested against real Go, not proved from fmt's source: count such statements apart). THE CARD IS WHAT COUNTS. Prove the row's statement (the work); the ties are given (YtjaehldnlamgkaaGreatDoorTie.lean); close each card by the builder's one call (the guide's Derived/Test/ToyasCard.lean, 'card_holds'). Laid BY PROGRAM, IN A SANDBOX (cutbox-door.mjs). By AI agents, Wed Nov 11 2026. No macro, syntax, notation, axiom, sorry.
-/
import Derived.Test.YtjaehldnlamgkaaGreatDoorRows
import GoSem.ClaimSeven
namespace Go.Proofs.YtjaehldnlamgkaaGreatDoor
namespace Rows

/-- THE TIED CARD OF 'laws.FnExecuteExact'. -/
def fnExecuteExactCard : Claim7 := { stood := { row := fnExecuteExactRow, standIns := [], harness := (true, "4d704ef7771bd0ef4777e2f9fb203a127913a1f06f1dee61426d191b684392e1"), looks := true }, kinds := [], alts := [], goes := true, laidByText := true, laidKinds := [.data, .data, .data, .data, .pinned], laidTests := true, laidLooks := .later }
def FnExecuteExactCardSaid : Prop := Claim7.holds Tryz.pinned (.plain (OpenSpec.ofChange fnExecuteExactSpec)) fnExecuteExactCard

/-- THE TIED CARD OF 'laws.FnExecuteTile'. -/
def fnExecuteTileCard : Claim7 := { stood := { row := fnExecuteTileRow, standIns := [], harness := (true, "4d704ef7771bd0ef4777e2f9fb203a127913a1f06f1dee61426d191b684392e1"), looks := true }, kinds := [], alts := [], goes := true, laidByText := true, laidKinds := [.data, .data, .data, .data, .pinned], laidTests := true, laidLooks := .later }
def FnExecuteTileCardSaid : Prop := Claim7.holds Tryz.pinned (.plain (OpenSpec.ofChange fnExecuteTileSpec)) fnExecuteTileCard

/-- THE SECOND FORM's CARD OF 'laws.FnExecuteExact'. -/
def fnExecuteExactUptoCard : Claim7 := { stood := { row := fnExecuteExactUptoRow, standIns := [], harness := (true, "4d704ef7771bd0ef4777e2f9fb203a127913a1f06f1dee61426d191b684392e1"), looks := true }, kinds := [], alts := [], goes := true, laidByText := true, laidKinds := [.data, .data, .data, .data, .pinned], laidTests := true, laidLooks := .later }
def FnExecuteExactUptoCardSaid : Prop := Claim7.holds Tryz.pinned (.plain (OpenSpec.upto fnExecuteExactSpec)) fnExecuteExactUptoCard

/-- THE SECOND FORM's CARD OF 'laws.FnExecuteTile'. -/
def fnExecuteTileUptoCard : Claim7 := { stood := { row := fnExecuteTileUptoRow, standIns := [], harness := (true, "4d704ef7771bd0ef4777e2f9fb203a127913a1f06f1dee61426d191b684392e1"), looks := true }, kinds := [], alts := [], goes := true, laidByText := true, laidKinds := [.data, .data, .data, .data, .pinned], laidTests := true, laidLooks := .later }
def FnExecuteTileUptoCardSaid : Prop := Claim7.holds Tryz.pinned (.plain (OpenSpec.upto fnExecuteTileSpec)) fnExecuteTileUptoCard
end Rows
end Go.Proofs.YtjaehldnlamgkaaGreatDoor
