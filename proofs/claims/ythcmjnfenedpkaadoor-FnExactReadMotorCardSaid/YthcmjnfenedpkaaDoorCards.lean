/-
  DERIVED. GIVEN WITH THE SEED: THE CARDS: each row of YthcmjnfenedpkaaDoorRows.lean that lists a variable, with what it lists TIED to the program's text (the seventh form; the later family's looks); each row that meets fmt, with fmt's text TOLD by the authors' own Lean function (tested against real Go, not proved from fmt's source: count such statements apart). THE CARD IS WHAT COUNTS. Prove the row's statement (the work); the ties are given (YthcmjnfenedpkaaDoorTie.lean); close each card by the builder's one call (the guide's Derived/Test/ToyasCard.lean, 'card_holds'). Laid BY PROGRAM, IN A SANDBOX (cutbox-door.mjs). By AI agents, Wed Nov 11 2026. No macro, syntax, notation, axiom, sorry.
-/
import Derived.Test.YthcmjnfenedpkaaDoorRows
import GoSem.ClaimSeven
namespace Go.Proofs.YthcmjnfenedpkaaDoor
namespace Rows

/-- THE TIED CARD OF 'laws.FnExactReadMotor'. -/
def fnExactReadMotorCard : Claim7 := { stood := { row := fnExactReadMotorRow, standIns := [], harness := (true, "4f8800b4c66c57ae19b984c2d3e1dfb91266d52188b6fdab2039cfef1c8edf0b"), looks := true }, kinds := [], alts := [], laidByText := true, laidKinds := [.data, .data, .data, .data, .sentinel, .sentinel, .pinned], laidTests := true, laidLooks := .later }
def FnExactReadMotorCardSaid : Prop := Claim7.holds Tryd.pinned (.plain (OpenSpec.ofChange fnExactReadMotorSpec)) fnExactReadMotorCard

/-- THE SECOND FORM's CARD OF 'laws.FnExactReadMotor'. -/
def fnExactReadMotorUptoCard : Claim7 := { stood := { row := fnExactReadMotorUptoRow, standIns := [], harness := (true, "4f8800b4c66c57ae19b984c2d3e1dfb91266d52188b6fdab2039cfef1c8edf0b"), looks := true }, kinds := [], alts := [], laidByText := true, laidKinds := [.data, .data, .data, .data, .sentinel, .sentinel, .pinned], laidTests := true, laidLooks := .later }
def FnExactReadMotorUptoCardSaid : Prop := Claim7.holds Tryd.pinned (.plain (OpenSpec.upto fnExactReadMotorSpec)) fnExactReadMotorUptoCard
end Rows
end Go.Proofs.YthcmjnfenedpkaaDoor
