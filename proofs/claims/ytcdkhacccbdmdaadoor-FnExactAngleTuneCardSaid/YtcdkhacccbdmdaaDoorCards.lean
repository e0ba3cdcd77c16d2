/-
  DERIVED. GIVEN WITH THE SEED: THE CARDS: each row of YtcdkhacccbdmdaaDoorRows.lean that lists a variable, with what it lists TIED to the program's text (the seventh form; the later family's looks); each row that meets fmt, with fmt's text TOLD by the authors' own Lean function (tested against real Go, not proved from fmt's source: count such statements apart). THE CARD IS WHAT COUNTS. Prove the row's statement (the work); the ties are given (YtcdkhacccbdmdaaDoorTie.lean); close each card by the builder's one call (the guide's Derived/Test/ToyasCard.lean, 'card_holds'). Laid BY PROGRAM, IN A SANDBOX (cutbox-door.mjs). By AI agents, Wed Nov 11 2026. No macro, syntax, notation, axiom, sorry.
-/
import Derived.Test.YtcdkhacccbdmdaaDoorRows
import GoSem.ClaimSeven
namespace Go.Proofs.YtcdkhacccbdmdaaDoor
namespace Rows

/-- THE TIED CARD OF 'laws.FnPeriod'. -/
def fnPeriodCard : Claim7 := { stood := { row := fnPeriodRow, standIns := [], harness := (true, "d31833e6c8b4aadbd4d9ac5345fe0f917091863d434d68837b2571e5db0d7eb2"), looks := true }, kinds := [], alts := [], laidByText := true, laidKinds := [.data, .data], laidTests := true, laidLooks := .later }
def FnPeriodCardSaid : Prop := Claim7.holds Tryd.pinned (.plain (OpenSpec.ofChange fnPeriodSpec)) fnPeriodCard

/-- THE TIED CARD OF 'laws.FnMirrorAngle'. -/
def fnMirrorAngleCard : Claim7 := { stood := { row := fnMirrorAngleRow, standIns := [], harness := (true, "d31833e6c8b4aadbd4d9ac5345fe0f917091863d434d68837b2571e5db0d7eb2"), looks := true }, kinds := [], alts := [], laidByText := true, laidKinds := [.data, .data], laidTests := true, laidLooks := .later }
def FnMirrorAngleCardSaid : Prop := Claim7.holds Tryd.pinned (.plain (OpenSpec.ofChange fnMirrorAngleSpec)) fnMirrorAngleCard

/-- THE TIED CARD OF 'laws.FnKneading'. -/
def fnKneadingCard : Claim7 := { stood := { row := fnKneadingRow, standIns := [], harness := (true, "d31833e6c8b4aadbd4d9ac5345fe0f917091863d434d68837b2571e5db0d7eb2"), looks := true }, kinds := [], alts := [], laidByText := true, laidKinds := [.data, .data], laidTests := true, laidLooks := .later }
def FnKneadingCardSaid : Prop := Claim7.holds Tryd.pinned (.plain (OpenSpec.ofChange fnKneadingSpec)) fnKneadingCard

/-- THE TIED CARD OF 'laws.FnExactAngleOf'. -/
def fnExactAngleOfCard : Claim7 := { stood := { row := fnExactAngleOfRow, standIns := [], harness := (true, "d31833e6c8b4aadbd4d9ac5345fe0f917091863d434d68837b2571e5db0d7eb2"), looks := true }, kinds := [], alts := [], laidByText := true, laidKinds := [.handle], laidTests := true, laidLooks := .later }
def FnExactAngleOfCardSaid : Prop := Claim7.holds Tryd.pinned (.plain (OpenSpec.ofChange fnExactAngleOfSpec)) fnExactAngleOfCard

/-- THE TIED CARD OF 'laws.FnAngleOf'. -/
def fnAngleOfCard : Claim7 := { stood := { row := fnAngleOfRow, standIns := [], harness := (true, "d31833e6c8b4aadbd4d9ac5345fe0f917091863d434d68837b2571e5db0d7eb2"), looks := true }, kinds := [], alts := [], laidByText := true, laidKinds := [.handle], laidTests := true, laidLooks := .later }
def FnAngleOfCardSaid : Prop := Claim7.holds Tryd.pinned (.plain (OpenSpec.ofChange fnAngleOfSpec)) fnAngleOfCard

/-- THE TIED CARD OF 'laws.FnAngleBits'. -/
def fnAngleBitsCard : Claim7 := { stood := { row := fnAngleBitsRow, standIns := [], harness := (true, "d31833e6c8b4aadbd4d9ac5345fe0f917091863d434d68837b2571e5db0d7eb2"), looks := true }, kinds := [], alts := [], laidByText := true, laidKinds := [.data, .data, .handle], laidTests := true, laidLooks := .later }
def FnAngleBitsCardSaid : Prop := Claim7.holds Tryd.pinned (.plain (OpenSpec.ofChange fnAngleBitsSpec)) fnAngleBitsCard

/-- THE TIED CARD OF 'laws.FnExactAngleTune'. -/
def fnExactAngleTuneCard : Claim7 := { stood := { row := fnExactAngleTuneRow, standIns := [], harness := (true, "d31833e6c8b4aadbd4d9ac5345fe0f917091863d434d68837b2571e5db0d7eb2"), looks := true }, kinds := [], alts := [], laidByText := true, laidKinds := [.data, .data, .handle], laidTests := true, laidLooks := .later }
def FnExactAngleTuneCardSaid : Prop := Claim7.holds Tryd.pinned (.plain (OpenSpec.ofChange fnExactAngleTuneSpec)) fnExactAngleTuneCard

/-- THE TIED CARD OF 'laws.FnTune'. -/
def fnTuneCard : Claim7 := { stood := { row := fnTuneRow, standIns := [], harness := (true, "d31833e6c8b4aadbd4d9ac5345fe0f917091863d434d68837b2571e5db0d7eb2"), looks := true }, kinds := [], alts := [], laidByText := true, laidKinds := [.data, .data, .handle], laidTests := true, laidLooks := .later }
def FnTuneCardSaid : Prop := Claim7.holds Tryd.pinned (.plain (OpenSpec.ofChange fnTuneSpec)) fnTuneCard

/-- THE SECOND FORM's CARD OF 'laws.FnPeriod'. -/
def fnPeriodUptoCard : Claim7 := { stood := { row := fnPeriodUptoRow, standIns := [], harness := (true, "d31833e6c8b4aadbd4d9ac5345fe0f917091863d434d68837b2571e5db0d7eb2"), looks := true }, kinds := [], alts := [], laidByText := true, laidKinds := [.data, .data], laidTests := true, laidLooks := .later }
def FnPeriodUptoCardSaid : Prop := Claim7.holds Tryd.pinned (.plain (OpenSpec.upto fnPeriodSpec)) fnPeriodUptoCard

/-- THE SECOND FORM's CARD OF 'laws.FnMirrorAngle'. -/
def fnMirrorAngleUptoCard : Claim7 := { stood := { row := fnMirrorAngleUptoRow, standIns := [], harness := (true, "d31833e6c8b4aadbd4d9ac5345fe0f917091863d434d68837b2571e5db0d7eb2"), looks := true }, kinds := [], alts := [], laidByText := true, laidKinds := [.data, .data], laidTests := true, laidLooks := .later }
def FnMirrorAngleUptoCardSaid : Prop := Claim7.holds Tryd.pinned (.plain (OpenSpec.upto fnMirrorAngleSpec)) fnMirrorAngleUptoCard

/-- THE SECOND FORM's CARD OF 'laws.FnKneading'. -/
def fnKneadingUptoCard : Claim7 := { stood := { row := fnKneadingUptoRow, standIns := [], harness := (true, "d31833e6c8b4aadbd4d9ac5345fe0f917091863d434d68837b2571e5db0d7eb2"), looks := true }, kinds := [], alts := [], laidByText := true, laidKinds := [.data, .data], laidTests := true, laidLooks := .later }
def FnKneadingUptoCardSaid : Prop := Claim7.holds Tryd.pinned (.plain (OpenSpec.upto fnKneadingSpec)) fnKneadingUptoCard

/-- THE SECOND FORM's CARD OF 'laws.FnExactAngleOf'. -/
def fnExactAngleOfUptoCard : Claim7 := { stood := { row := fnExactAngleOfUptoRow, standIns := [], harness := (true, "d31833e6c8b4aadbd4d9ac5345fe0f917091863d434d68837b2571e5db0d7eb2"), looks := true }, kinds := [], alts := [], laidByText := true, laidKinds := [.handle], laidTests := true, laidLooks := .later }
def FnExactAngleOfUptoCardSaid : Prop := Claim7.holds Tryd.pinned (.plain (OpenSpec.upto fnExactAngleOfSpec)) fnExactAngleOfUptoCard

/-- THE SECOND FORM's CARD OF 'laws.FnAngleOf'. -/
def fnAngleOfUptoCard : Claim7 := { stood := { row := fnAngleOfUptoRow, standIns := [], harness := (true, "d31833e6c8b4aadbd4d9ac5345fe0f917091863d434d68837b2571e5db0d7eb2"), looks := true }, kinds := [], alts := [], laidByText := true, laidKinds := [.handle], laidTests := true, laidLooks := .later }
def FnAngleOfUptoCardSaid : Prop := Claim7.holds Tryd.pinned (.plain (OpenSpec.upto fnAngleOfSpec)) fnAngleOfUptoCard

/-- THE SECOND FORM's CARD OF 'laws.FnAngleBits'. -/
def fnAngleBitsUptoCard : Claim7 := { stood := { row := fnAngleBitsUptoRow, standIns := [], harness := (true, "d31833e6c8b4aadbd4d9ac5345fe0f917091863d434d68837b2571e5db0d7eb2"), looks := true }, kinds := [], alts := [], laidByText := true, laidKinds := [.data, .data, .handle], laidTests := true, laidLooks := .later }
def FnAngleBitsUptoCardSaid : Prop := Claim7.holds Tryd.pinned (.plain (OpenSpec.upto fnAngleBitsSpec)) fnAngleBitsUptoCard

/-- THE SECOND FORM's CARD OF 'laws.FnExactAngleTune'. -/
def fnExactAngleTuneUptoCard : Claim7 := { stood := { row := fnExactAngleTuneUptoRow, standIns := [], harness := (true, "d31833e6c8b4aadbd4d9ac5345fe0f917091863d434d68837b2571e5db0d7eb2"), looks := true }, kinds := [], alts := [], laidByText := true, laidKinds := [.data, .data, .handle], laidTests := true, laidLooks := .later }
def FnExactAngleTuneUptoCardSaid : Prop := Claim7.holds Tryd.pinned (.plain (OpenSpec.upto fnExactAngleTuneSpec)) fnExactAngleTuneUptoCard

/-- THE SECOND FORM's CARD OF 'laws.FnTune'. -/
def fnTuneUptoCard : Claim7 := { stood := { row := fnTuneUptoRow, standIns := [], harness := (true, "d31833e6c8b4aadbd4d9ac5345fe0f917091863d434d68837b2571e5db0d7eb2"), looks := true }, kinds := [], alts := [], laidByText := true, laidKinds := [.data, .data, .handle], laidTests := true, laidLooks := .later }
def FnTuneUptoCardSaid : Prop := Claim7.holds Tryd.pinned (.plain (OpenSpec.upto fnTuneSpec)) fnTuneUptoCard
end Rows
end Go.Proofs.YtcdkhacccbdmdaaDoor
