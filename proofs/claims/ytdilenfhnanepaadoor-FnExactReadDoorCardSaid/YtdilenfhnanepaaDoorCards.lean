/-
  DERIVED. GIVEN WITH THE SEED: THE CARDS: each row of YtdilenfhnanepaaDoorRows.lean that lists a variable, with what it lists TIED to the program's text (the seventh form; the later family's looks); each row that meets fmt, with fmt's text TOLD by the authors' own Lean function (tested against real Go, not proved from fmt's source: count such statements apart). THE CARD IS WHAT COUNTS. Prove the row's statement (the work); the ties are given (YtdilenfhnanepaaDoorTie.lean); close each card by the builder's one call (the guide's Derived/Test/ToyasCard.lean, 'card_holds'). Laid BY PROGRAM, IN A SANDBOX (cutbox-door.mjs). By AI agents, Wed Nov 11 2026. No macro, syntax, notation, axiom, sorry.
-/
import Derived.Test.YtdilenfhnanepaaDoorRows
import GoSem.ClaimSeven
namespace Go.Proofs.YtdilenfhnanepaaDoor
namespace Rows

/-- THE TIED CARD OF 'laws.FnExactReadDoor'. -/
def fnExactReadDoorCard : Claim7 := { stood := { row := fnExactReadDoorRow, standIns := [], harness := (true, "7e134f6abb71274dc48d5d9ecfea2a038ea9297febe5dec9994d4eb9977f7511"), looks := true }, kinds := [], alts := [], laidByText := true, laidKinds := [.data, .data, .data], laidTests := true, laidLooks := .later }
def FnExactReadDoorCardSaid : Prop := Claim7.holds Tryd.pinned (.plain (OpenSpec.ofChange fnExactReadDoorSpec)) fnExactReadDoorCard

/-- THE TIED CARD OF 'laws.FnExactReadBrake'. -/
def fnExactReadBrakeCard : Claim7 := { stood := { row := fnExactReadBrakeRow, standIns := [], harness := (true, "7e134f6abb71274dc48d5d9ecfea2a038ea9297febe5dec9994d4eb9977f7511"), looks := true }, kinds := [], alts := [], laidByText := true, laidKinds := [.data, .data, .data, .sentinel, .sentinel], laidTests := true, laidLooks := .later }
def FnExactReadBrakeCardSaid : Prop := Claim7.holds Tryd.pinned (.plain (OpenSpec.ofChange fnExactReadBrakeSpec)) fnExactReadBrakeCard

/-- THE TIED CARD OF 'laws.FnExactReadPassing'. -/
def fnExactReadPassingCard : Claim7 := { stood := { row := fnExactReadPassingRow, standIns := [], harness := (true, "7e134f6abb71274dc48d5d9ecfea2a038ea9297febe5dec9994d4eb9977f7511"), looks := true }, kinds := [], alts := [], laidByText := true, laidKinds := [.data, .data, .data, .sentinel, .sentinel], laidTests := true, laidLooks := .later }
def FnExactReadPassingCardSaid : Prop := Claim7.holds Tryd.pinned (.plain (OpenSpec.ofChange fnExactReadPassingSpec)) fnExactReadPassingCard

/-- THE TIED CARD OF 'laws.FnExactReadMotor'. -/
def fnExactReadMotorCard : Claim7 := { stood := { row := fnExactReadMotorRow, standIns := [], harness := (true, "7e134f6abb71274dc48d5d9ecfea2a038ea9297febe5dec9994d4eb9977f7511"), looks := true }, kinds := [], alts := [], laidByText := true, laidKinds := [.data, .data, .data, .data, .sentinel, .sentinel, .pinned], laidTests := true, laidLooks := .later }
def FnExactReadMotorCardSaid : Prop := Claim7.holds Tryd.pinned (.plain (OpenSpec.ofChange fnExactReadMotorSpec)) fnExactReadMotorCard

/-- THE SECOND FORM's CARD OF 'laws.FnExactReadDoor'. -/
def fnExactReadDoorUptoCard : Claim7 := { stood := { row := fnExactReadDoorUptoRow, standIns := [], harness := (true, "7e134f6abb71274dc48d5d9ecfea2a038ea9297febe5dec9994d4eb9977f7511"), looks := true }, kinds := [], alts := [], laidByText := true, laidKinds := [.data, .data, .data], laidTests := true, laidLooks := .later }
def FnExactReadDoorUptoCardSaid : Prop := Claim7.holds Tryd.pinned (.plain (OpenSpec.upto fnExactReadDoorSpec)) fnExactReadDoorUptoCard

/-- THE SECOND FORM's CARD OF 'laws.FnExactReadBrake'. -/
def fnExactReadBrakeUptoCard : Claim7 := { stood := { row := fnExactReadBrakeUptoRow, standIns := [], harness := (true, "7e134f6abb71274dc48d5d9ecfea2a038ea9297febe5dec9994d4eb9977f7511"), looks := true }, kinds := [], alts := [], laidByText := true, laidKinds := [.data, .data, .data, .sentinel, .sentinel], laidTests := true, laidLooks := .later }
def FnExactReadBrakeUptoCardSaid : Prop := Claim7.holds Tryd.pinned (.plain (OpenSpec.upto fnExactReadBrakeSpec)) fnExactReadBrakeUptoCard

/-- THE SECOND FORM's CARD OF 'laws.FnExactReadPassing'. -/
def fnExactReadPassingUptoCard : Claim7 := { stood := { row := fnExactReadPassingUptoRow, standIns := [], harness := (true, "7e134f6abb71274dc48d5d9ecfea2a038ea9297febe5dec9994d4eb9977f7511"), looks := true }, kinds := [], alts := [], laidByText := true, laidKinds := [.data, .data, .data, .sentinel, .sentinel], laidTests := true, laidLooks := .later }
def FnExactReadPassingUptoCardSaid : Prop := Claim7.holds Tryd.pinned (.plain (OpenSpec.upto fnExactReadPassingSpec)) fnExactReadPassingUptoCard

/-- THE SECOND FORM's CARD OF 'laws.FnExactReadMotor'. -/
def fnExactReadMotorUptoCard : Claim7 := { stood := { row := fnExactReadMotorUptoRow, standIns := [], harness := (true, "7e134f6abb71274dc48d5d9ecfea2a038ea9297febe5dec9994d4eb9977f7511"), looks := true }, kinds := [], alts := [], laidByText := true, laidKinds := [.data, .data, .data, .data, .sentinel, .sentinel, .pinned], laidTests := true, laidLooks := .later }
def FnExactReadMotorUptoCardSaid : Prop := Claim7.holds Tryd.pinned (.plain (OpenSpec.upto fnExactReadMotorSpec)) fnExactReadMotorUptoCard
end Rows
end Go.Proofs.YtdilenfhnanepaaDoor
