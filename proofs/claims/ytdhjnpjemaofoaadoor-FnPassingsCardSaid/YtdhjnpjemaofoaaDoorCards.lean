/-
  DERIVED. GIVEN WITH THE SEED: THE CARDS: each row of YtdhjnpjemaofoaaDoorRows.lean that lists a variable, with what it lists TIED to the program's text (the seventh form; the later family's looks); each row that meets fmt, with fmt's text TOLD by the authors' own Lean function (tested against real Go, not proved from fmt's source: count such statements apart). THE CARD IS WHAT COUNTS. Prove the row's statement (the work); the ties are given (YtdhjnpjemaofoaaDoorTie.lean); close each card by the builder's one call (the guide's Derived/Test/ToyasCard.lean, 'card_holds'). Laid BY PROGRAM, IN A SANDBOX (cutbox-door.mjs). By AI agents, Wed Nov 11 2026. No macro, syntax, notation, axiom, sorry.
-/
import Derived.Test.YtdhjnpjemaofoaaDoorRows
import GoSem.ClaimSeven
namespace Go.Proofs.YtdhjnpjemaofoaaDoor
namespace Rows

/-- THE TIED CARD OF 'laws.FnDoors'. -/
def fnDoorsCard : Claim7 := { stood := { row := fnDoorsRow, standIns := [], harness := (true, "6dd0e76408ffd6750ea85bfb168c91b08b97dc55005fb477ba959e2b306beb9b"), looks := true }, kinds := [], alts := [], laidByText := true, laidKinds := [.data, .data, .data], laidTests := true, laidLooks := .later }
def FnDoorsCardSaid : Prop := Claim7.holds Tryd.pinned (.plain (OpenSpec.ofChange fnDoorsSpec)) fnDoorsCard

/-- THE TIED CARD OF 'laws.FnPassings'. -/
def fnPassingsCard : Claim7 := { stood := { row := fnPassingsRow, standIns := [], harness := (true, "6dd0e76408ffd6750ea85bfb168c91b08b97dc55005fb477ba959e2b306beb9b"), looks := true }, kinds := [], alts := [], laidByText := true, laidKinds := [.data, .data, .data, .sentinel, .sentinel], laidTests := true, laidLooks := .later }
def FnPassingsCardSaid : Prop := Claim7.holds Tryd.pinned (.plain (OpenSpec.ofChange fnPassingsSpec)) fnPassingsCard

/-- THE SECOND FORM's CARD OF 'laws.FnDoors'. -/
def fnDoorsUptoCard : Claim7 := { stood := { row := fnDoorsUptoRow, standIns := [], harness := (true, "6dd0e76408ffd6750ea85bfb168c91b08b97dc55005fb477ba959e2b306beb9b"), looks := true }, kinds := [], alts := [], laidByText := true, laidKinds := [.data, .data, .data], laidTests := true, laidLooks := .later }
def FnDoorsUptoCardSaid : Prop := Claim7.holds Tryd.pinned (.plain (OpenSpec.upto fnDoorsSpec)) fnDoorsUptoCard

/-- THE SECOND FORM's CARD OF 'laws.FnPassings'. -/
def fnPassingsUptoCard : Claim7 := { stood := { row := fnPassingsUptoRow, standIns := [], harness := (true, "6dd0e76408ffd6750ea85bfb168c91b08b97dc55005fb477ba959e2b306beb9b"), looks := true }, kinds := [], alts := [], laidByText := true, laidKinds := [.data, .data, .data, .sentinel, .sentinel], laidTests := true, laidLooks := .later }
def FnPassingsUptoCardSaid : Prop := Claim7.holds Tryd.pinned (.plain (OpenSpec.upto fnPassingsSpec)) fnPassingsUptoCard
end Rows
end Go.Proofs.YtdhjnpjemaofoaaDoor
