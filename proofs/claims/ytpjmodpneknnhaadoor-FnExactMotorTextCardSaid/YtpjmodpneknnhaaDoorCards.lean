/-
  DERIVED. GIVEN WITH THE SEED: THE CARDS: each row of YtpjmodpneknnhaaDoorRows.lean that lists a variable, with what it lists TIED to the program's text (the seventh form; the later family's looks); each row that meets fmt, with fmt's text TOLD by the authors' own Lean function (tested against real Go, not proved from fmt's source: count such statements apart). THE CARD IS WHAT COUNTS. Prove the row's statement (the work); the ties are given (YtpjmodpneknnhaaDoorTie.lean); close each card by the builder's one call (the guide's Derived/Test/ToyasCard.lean, 'card_holds'). Laid BY PROGRAM, IN A SANDBOX (cutbox-door.mjs). By AI agents, Wed Nov 11 2026. No macro, syntax, notation, axiom, sorry.
-/
import Derived.Test.YtpjmodpneknnhaaDoorRows
import GoSem.ClaimSeven
namespace Go.Proofs.YtpjmodpneknnhaaDoor
namespace Rows

/-- THE TIED CARD OF 'laws.FnExactBrakeText'. -/
def fnExactBrakeTextCard : Claim7 := { stood := { row := fnExactBrakeTextRow, standIns := [], harness := (true, "f8f145e5f2a3715697c1bbf1cf6192aebd2ec30823999b118fcfd6d284941c9d"), looks := true }, kinds := [], alts := [], laidByText := true, laidKinds := [.data, .data, .data], laidTests := true, laidLooks := .later }
def FnExactBrakeTextCardSaid : Prop := Claim7.holds Tryd.pinned (.plain (OpenSpec.ofChange fnExactBrakeTextSpec)) fnExactBrakeTextCard

/-- THE TIED CARD OF 'laws.FnExactDoorText'. -/
def fnExactDoorTextCard : Claim7 := { stood := { row := fnExactDoorTextRow, standIns := [], harness := (true, "f8f145e5f2a3715697c1bbf1cf6192aebd2ec30823999b118fcfd6d284941c9d"), looks := true }, kinds := [], alts := [], laidByText := true, laidKinds := [.data, .data, .data], laidTests := true, laidLooks := .later }
def FnExactDoorTextCardSaid : Prop := Claim7.holds Tryd.pinned (.plain (OpenSpec.ofChange fnExactDoorTextSpec)) fnExactDoorTextCard

/-- THE TIED CARD OF 'laws.FnExactPassingText'. -/
def fnExactPassingTextCard : Claim7 := { stood := { row := fnExactPassingTextRow, standIns := [], harness := (true, "f8f145e5f2a3715697c1bbf1cf6192aebd2ec30823999b118fcfd6d284941c9d"), looks := true }, kinds := [], alts := [], laidByText := true, laidKinds := [.data, .data, .data], laidTests := true, laidLooks := .later }
def FnExactPassingTextCardSaid : Prop := Claim7.holds Tryd.pinned (.plain (OpenSpec.ofChange fnExactPassingTextSpec)) fnExactPassingTextCard

/-- THE TIED CARD OF 'laws.FnExactMotorText'. -/
def fnExactMotorTextCard : Claim7 := { stood := { row := fnExactMotorTextRow, standIns := [], harness := (true, "f8f145e5f2a3715697c1bbf1cf6192aebd2ec30823999b118fcfd6d284941c9d"), looks := true }, kinds := [], alts := [], laidByText := true, laidKinds := [.data, .data, .data], laidTests := true, laidLooks := .later }
def FnExactMotorTextCardSaid : Prop := Claim7.holds Tryd.pinned (.plain (OpenSpec.ofChange fnExactMotorTextSpec)) fnExactMotorTextCard

/-- THE TIED CARD OF 'laws.FnExactWorkerText'. -/
def fnExactWorkerTextCard : Claim7 := { stood := { row := fnExactWorkerTextRow, standIns := [], harness := (true, "f8f145e5f2a3715697c1bbf1cf6192aebd2ec30823999b118fcfd6d284941c9d"), looks := true }, kinds := [], alts := [], laidByText := true, laidKinds := [.data, .data, .data], laidTests := true, laidLooks := .later }
def FnExactWorkerTextCardSaid : Prop := Claim7.holds Tryd.pinned (.plain (OpenSpec.ofChange fnExactWorkerTextSpec)) fnExactWorkerTextCard

/-- THE TIED CARD OF 'laws.FnExactReadDoor'. -/
def fnExactReadDoorCard : Claim7 := { stood := { row := fnExactReadDoorRow, standIns := [], harness := (true, "f8f145e5f2a3715697c1bbf1cf6192aebd2ec30823999b118fcfd6d284941c9d"), looks := true }, kinds := [], alts := [], laidByText := true, laidKinds := [.data, .data, .data], laidTests := true, laidLooks := .later }
def FnExactReadDoorCardSaid : Prop := Claim7.holds Tryd.pinned (.plain (OpenSpec.ofChange fnExactReadDoorSpec)) fnExactReadDoorCard

/-- THE TIED CARD OF 'laws.FnExactReadBrake'. -/
def fnExactReadBrakeCard : Claim7 := { stood := { row := fnExactReadBrakeRow, standIns := [], harness := (true, "f8f145e5f2a3715697c1bbf1cf6192aebd2ec30823999b118fcfd6d284941c9d"), looks := true }, kinds := [], alts := [], laidByText := true, laidKinds := [.data, .data, .data, .sentinel, .sentinel], laidTests := true, laidLooks := .later }
def FnExactReadBrakeCardSaid : Prop := Claim7.holds Tryd.pinned (.plain (OpenSpec.ofChange fnExactReadBrakeSpec)) fnExactReadBrakeCard

/-- THE TIED CARD OF 'laws.FnExactReadPassing'. -/
def fnExactReadPassingCard : Claim7 := { stood := { row := fnExactReadPassingRow, standIns := [], harness := (true, "f8f145e5f2a3715697c1bbf1cf6192aebd2ec30823999b118fcfd6d284941c9d"), looks := true }, kinds := [], alts := [], laidByText := true, laidKinds := [.data, .data, .data, .sentinel, .sentinel], laidTests := true, laidLooks := .later }
def FnExactReadPassingCardSaid : Prop := Claim7.holds Tryd.pinned (.plain (OpenSpec.ofChange fnExactReadPassingSpec)) fnExactReadPassingCard

/-- THE TIED CARD OF 'laws.FnExactReadMotor'. -/
def fnExactReadMotorCard : Claim7 := { stood := { row := fnExactReadMotorRow, standIns := [], harness := (true, "f8f145e5f2a3715697c1bbf1cf6192aebd2ec30823999b118fcfd6d284941c9d"), looks := true }, kinds := [], alts := [], laidByText := true, laidKinds := [.data, .data, .data, .data, .sentinel, .sentinel, .pinned], laidTests := true, laidLooks := .later }
def FnExactReadMotorCardSaid : Prop := Claim7.holds Tryd.pinned (.plain (OpenSpec.ofChange fnExactReadMotorSpec)) fnExactReadMotorCard

/-- THE SECOND FORM's CARD OF 'laws.FnExactBrakeText'. -/
def fnExactBrakeTextUptoCard : Claim7 := { stood := { row := fnExactBrakeTextUptoRow, standIns := [], harness := (true, "f8f145e5f2a3715697c1bbf1cf6192aebd2ec30823999b118fcfd6d284941c9d"), looks := true }, kinds := [], alts := [], laidByText := true, laidKinds := [.data, .data, .data], laidTests := true, laidLooks := .later }
def FnExactBrakeTextUptoCardSaid : Prop := Claim7.holds Tryd.pinned (.plain (OpenSpec.upto fnExactBrakeTextSpec)) fnExactBrakeTextUptoCard

/-- THE SECOND FORM's CARD OF 'laws.FnExactDoorText'. -/
def fnExactDoorTextUptoCard : Claim7 := { stood := { row := fnExactDoorTextUptoRow, standIns := [], harness := (true, "f8f145e5f2a3715697c1bbf1cf6192aebd2ec30823999b118fcfd6d284941c9d"), looks := true }, kinds := [], alts := [], laidByText := true, laidKinds := [.data, .data, .data], laidTests := true, laidLooks := .later }
def FnExactDoorTextUptoCardSaid : Prop := Claim7.holds Tryd.pinned (.plain (OpenSpec.upto fnExactDoorTextSpec)) fnExactDoorTextUptoCard

/-- THE SECOND FORM's CARD OF 'laws.FnExactPassingText'. -/
def fnExactPassingTextUptoCard : Claim7 := { stood := { row := fnExactPassingTextUptoRow, standIns := [], harness := (true, "f8f145e5f2a3715697c1bbf1cf6192aebd2ec30823999b118fcfd6d284941c9d"), looks := true }, kinds := [], alts := [], laidByText := true, laidKinds := [.data, .data, .data], laidTests := true, laidLooks := .later }
def FnExactPassingTextUptoCardSaid : Prop := Claim7.holds Tryd.pinned (.plain (OpenSpec.upto fnExactPassingTextSpec)) fnExactPassingTextUptoCard

/-- THE SECOND FORM's CARD OF 'laws.FnExactMotorText'. -/
def fnExactMotorTextUptoCard : Claim7 := { stood := { row := fnExactMotorTextUptoRow, standIns := [], harness := (true, "f8f145e5f2a3715697c1bbf1cf6192aebd2ec30823999b118fcfd6d284941c9d"), looks := true }, kinds := [], alts := [], laidByText := true, laidKinds := [.data, .data, .data], laidTests := true, laidLooks := .later }
def FnExactMotorTextUptoCardSaid : Prop := Claim7.holds Tryd.pinned (.plain (OpenSpec.upto fnExactMotorTextSpec)) fnExactMotorTextUptoCard

/-- THE SECOND FORM's CARD OF 'laws.FnExactWorkerText'. -/
def fnExactWorkerTextUptoCard : Claim7 := { stood := { row := fnExactWorkerTextUptoRow, standIns := [], harness := (true, "f8f145e5f2a3715697c1bbf1cf6192aebd2ec30823999b118fcfd6d284941c9d"), looks := true }, kinds := [], alts := [], laidByText := true, laidKinds := [.data, .data, .data], laidTests := true, laidLooks := .later }
def FnExactWorkerTextUptoCardSaid : Prop := Claim7.holds Tryd.pinned (.plain (OpenSpec.upto fnExactWorkerTextSpec)) fnExactWorkerTextUptoCard

/-- THE SECOND FORM's CARD OF 'laws.FnExactReadDoor'. -/
def fnExactReadDoorUptoCard : Claim7 := { stood := { row := fnExactReadDoorUptoRow, standIns := [], harness := (true, "f8f145e5f2a3715697c1bbf1cf6192aebd2ec30823999b118fcfd6d284941c9d"), looks := true }, kinds := [], alts := [], laidByText := true, laidKinds := [.data, .data, .data], laidTests := true, laidLooks := .later }
def FnExactReadDoorUptoCardSaid : Prop := Claim7.holds Tryd.pinned (.plain (OpenSpec.upto fnExactReadDoorSpec)) fnExactReadDoorUptoCard

/-- THE SECOND FORM's CARD OF 'laws.FnExactReadBrake'. -/
def fnExactReadBrakeUptoCard : Claim7 := { stood := { row := fnExactReadBrakeUptoRow, standIns := [], harness := (true, "f8f145e5f2a3715697c1bbf1cf6192aebd2ec30823999b118fcfd6d284941c9d"), looks := true }, kinds := [], alts := [], laidByText := true, laidKinds := [.data, .data, .data, .sentinel, .sentinel], laidTests := true, laidLooks := .later }
def FnExactReadBrakeUptoCardSaid : Prop := Claim7.holds Tryd.pinned (.plain (OpenSpec.upto fnExactReadBrakeSpec)) fnExactReadBrakeUptoCard

/-- THE SECOND FORM's CARD OF 'laws.FnExactReadPassing'. -/
def fnExactReadPassingUptoCard : Claim7 := { stood := { row := fnExactReadPassingUptoRow, standIns := [], harness := (true, "f8f145e5f2a3715697c1bbf1cf6192aebd2ec30823999b118fcfd6d284941c9d"), looks := true }, kinds := [], alts := [], laidByText := true, laidKinds := [.data, .data, .data, .sentinel, .sentinel], laidTests := true, laidLooks := .later }
def FnExactReadPassingUptoCardSaid : Prop := Claim7.holds Tryd.pinned (.plain (OpenSpec.upto fnExactReadPassingSpec)) fnExactReadPassingUptoCard

/-- THE SECOND FORM's CARD OF 'laws.FnExactReadMotor'. -/
def fnExactReadMotorUptoCard : Claim7 := { stood := { row := fnExactReadMotorUptoRow, standIns := [], harness := (true, "f8f145e5f2a3715697c1bbf1cf6192aebd2ec30823999b118fcfd6d284941c9d"), looks := true }, kinds := [], alts := [], laidByText := true, laidKinds := [.data, .data, .data, .data, .sentinel, .sentinel, .pinned], laidTests := true, laidLooks := .later }
def FnExactReadMotorUptoCardSaid : Prop := Claim7.holds Tryd.pinned (.plain (OpenSpec.upto fnExactReadMotorSpec)) fnExactReadMotorUptoCard
end Rows
end Go.Proofs.YtpjmodpneknnhaaDoor
