/-
  DERIVED. GIVEN WITH THE SEED: THE CARDS: each row of YtejhngkbkcalaaaGreatDoorRows.lean that lists a variable, with what it lists TIED to the program's text (the seventh form; the later family's looks); each row that meets fmt, with fmt's text TOLD by the authors' own Lean function (tested against real Go, not proved from fmt's source: count such statements apart). THE CARD IS WHAT COUNTS. Prove the row's statement (the work); the ties are given (YtejhngkbkcalaaaGreatDoorTie.lean); close each card by the builder's one call (the guide's Derived/Test/ToyasCard.lean, 'card_holds'). Laid BY PROGRAM, IN A SANDBOX (cutbox-door.mjs). By AI agents, Wed Nov 11 2026. No macro, syntax, notation, axiom, sorry.
-/
import Derived.Test.YtejhngkbkcalaaaGreatDoorRows
import GoSem.ClaimSeven
namespace Go.Proofs.YtejhngkbkcalaaaGreatDoor
namespace Rows

/-- THE TIED CARD OF 'laws.FnMotors'. -/
def fnMotorsCard : Claim7 := { stood := { row := fnMotorsRow, standIns := [], harness := (true, "4942dd9810db4f46c946d17d621a7c8d161d45921ad8377009729354e5f68db5"), looks := true }, kinds := [], alts := [], laidByText := true, laidKinds := [.data, .data, .data, .data, .sentinel, .sentinel, .pinned], laidTests := true, laidLooks := .later }
def FnMotorsCardSaid : Prop := Claim7.holds Tryz.pinned (.plain (OpenSpec.ofChange fnMotorsSpec)) fnMotorsCard

/-- THE SECOND FORM's CARD OF 'laws.FnMotors'. -/
def fnMotorsUptoCard : Claim7 := { stood := { row := fnMotorsUptoRow, standIns := [], harness := (true, "4942dd9810db4f46c946d17d621a7c8d161d45921ad8377009729354e5f68db5"), looks := true }, kinds := [], alts := [], laidByText := true, laidKinds := [.data, .data, .data, .data, .sentinel, .sentinel, .pinned], laidTests := true, laidLooks := .later }
def FnMotorsUptoCardSaid : Prop := Claim7.holds Tryz.pinned (.plain (OpenSpec.upto fnMotorsSpec)) fnMotorsUptoCard
end Rows
end Go.Proofs.YtejhngkbkcalaaaGreatDoor
