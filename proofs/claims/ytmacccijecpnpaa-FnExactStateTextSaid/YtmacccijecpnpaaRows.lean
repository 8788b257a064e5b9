/-
  No cell of these rows narrows 'for every input' (looked for: loops, veiled, ifaces, maps, wideKeys, modest, calm, conditions, laid).
  DERIVED. THE GIVEN ROWS OF THIS SEAT. 12 by the template 'for every input the law returns true; each argument reads behind the call as it read before'; 0 by the template 'total and deterministic' (their statements: YtmacccijecpnpaaTotals.lean).
  GIVEN WITH THE SEED: the statements are not yours to turn. If you find one false, say at which input.
  Laid BY PROGRAM, IN A SANDBOX (cutbox-rows.mjs): the forced cells as the released guide's own fill.sh prints them over the translation ae94ab604a2032bc… (all of the seat's roots in one cut). By AI agents, Wed Nov 11 2026. No macro, syntax, notation, axiom, sorry.
-/
import Derived.Test.YtmacccijecpnpaaChecked
import GoSem.Claim
import GoSem.ClaimJoined
import GoSem.ClaimMapViews
import Derived.JoinedTies
import Derived.KernelRfl
namespace Go.Proofs.Ytmacccijecpnpaa
/- THE CELL 'sum', in the pinned program and in every row, IS THE sha256 OF THE DUMP (.gsa) THAT YtmacccijecpnpaaProg.lean LOADS. Nothing in Lean hashes anything: it is a label: what it is worth is what the hold of that sum in a sandbox is worth. -/
noncomputable def Try.pinned : Pinned := { name := "ytmacccijecpnpaa", sum := "ae94ab604a2032bc841386710dd976d4ed2e1ed83bfd27dddcea9c7963f53f19", checked := Try.checked }
namespace Rows
def none {H : Type} : Left H := { results := [], args := [] }

/-- 'laws.FnExactValidBrake': WHATEVER THE INPUT: true; the input reads as it did. -/
def fnExactValidBrakeSpec : ChangeSpec := { name := "fnExactValidBrake", fn := fun _ => fun
  | [d] => { results := [.lit (.bool true)], args := [d] }
  | _ => none }
def fnExactValidBrakeRow : OpenClaim := { program := "ytmacccijecpnpaa", sum := "ae94ab604a2032bc841386710dd976d4ed2e1ed83bfd27dddcea9c7963f53f19", func := "loop.example/g01057/laws.FnExactValidBrake", spec := "fnExactValidBrake", apart := false }
def FnExactValidBrakeSaid : Prop := fnExactValidBrakeRow.holds Try.pinned (OpenSpec.ofChange fnExactValidBrakeSpec)

/-- ITS FALSE NEIGHBOUR: 'it returns false'. Refute it at one input. -/
def fnExactValidBrakeWrong : ChangeSpec := { name := "fnExactValidBrake", fn := fun _ => fun
  | [d] => { results := [.lit (.bool false)], args := [d] }
  | _ => none }
def FnExactValidBrakeWrongFalsely : Prop := fnExactValidBrakeRow.holds Try.pinned (OpenSpec.ofChange fnExactValidBrakeWrong)

/-- 'laws.FnExactDoorName': WHATEVER THE INPUT: true; the input reads as it did. -/
def fnExactDoorNameSpec : ChangeSpec := { name := "fnExactDoorName", fn := fun _ => fun
  | [d] => { results := [.lit (.bool true)], args := [d] }
  | _ => none }
def fnExactDoorNameRow : OpenClaim := { program := "ytmacccijecpnpaa", sum := "ae94ab604a2032bc841386710dd976d4ed2e1ed83bfd27dddcea9c7963f53f19", func := "loop.example/g01057/laws.FnExactDoorName", spec := "fnExactDoorName", apart := false }
def FnExactDoorNameSaid : Prop := fnExactDoorNameRow.holds Try.pinned (OpenSpec.ofChange fnExactDoorNameSpec)

/-- ITS FALSE NEIGHBOUR: 'it returns false'. Refute it at one input. -/
def fnExactDoorNameWrong : ChangeSpec := { name := "fnExactDoorName", fn := fun _ => fun
  | [d] => { results := [.lit (.bool false)], args := [d] }
  | _ => none }
def FnExactDoorNameWrongFalsely : Prop := fnExactDoorNameRow.holds Try.pinned (OpenSpec.ofChange fnExactDoorNameWrong)

/-- 'laws.FnExactValidControl': WHATEVER THE INPUT: true; the input reads as it did. -/
def fnExactValidControlSpec : ChangeSpec := { name := "fnExactValidControl", fn := fun _ => fun
  | [d] => { results := [.lit (.bool true)], args := [d] }
  | _ => none }
def fnExactValidControlRow : OpenClaim := { program := "ytmacccijecpnpaa", sum := "ae94ab604a2032bc841386710dd976d4ed2e1ed83bfd27dddcea9c7963f53f19", func := "loop.example/g01057/laws.FnExactValidControl", spec := "fnExactValidControl", apart := false }
def FnExactValidControlSaid : Prop := fnExactValidControlRow.holds Try.pinned (OpenSpec.ofChange fnExactValidControlSpec)

/-- ITS FALSE NEIGHBOUR: 'it returns false'. Refute it at one input. -/
def fnExactValidControlWrong : ChangeSpec := { name := "fnExactValidControl", fn := fun _ => fun
  | [d] => { results := [.lit (.bool false)], args := [d] }
  | _ => none }
def FnExactValidControlWrongFalsely : Prop := fnExactValidControlRow.holds Try.pinned (OpenSpec.ofChange fnExactValidControlWrong)

/-- 'laws.FnExactModeName': WHATEVER THE INPUT: true; the input reads as it did. -/
def fnExactModeNameSpec : ChangeSpec := { name := "fnExactModeName", fn := fun _ => fun
  | [d] => { results := [.lit (.bool true)], args := [d] }
  | _ => none }
def fnExactModeNameRow : OpenClaim := { program := "ytmacccijecpnpaa", sum := "ae94ab604a2032bc841386710dd976d4ed2e1ed83bfd27dddcea9c7963f53f19", func := "loop.example/g01057/laws.FnExactModeName", spec := "fnExactModeName", apart := false }
def FnExactModeNameSaid : Prop := fnExactModeNameRow.holds Try.pinned (OpenSpec.ofChange fnExactModeNameSpec)

/-- ITS FALSE NEIGHBOUR: 'it returns false'. Refute it at one input. -/
def fnExactModeNameWrong : ChangeSpec := { name := "fnExactModeName", fn := fun _ => fun
  | [d] => { results := [.lit (.bool false)], args := [d] }
  | _ => none }
def FnExactModeNameWrongFalsely : Prop := fnExactModeNameRow.holds Try.pinned (OpenSpec.ofChange fnExactModeNameWrong)

/-- 'laws.FnExactEventName': WHATEVER THE INPUT: true; the input reads as it did. -/
def fnExactEventNameSpec : ChangeSpec := { name := "fnExactEventName", fn := fun _ => fun
  | [d] => { results := [.lit (.bool true)], args := [d] }
  | _ => none }
def fnExactEventNameRow : OpenClaim := { program := "ytmacccijecpnpaa", sum := "ae94ab604a2032bc841386710dd976d4ed2e1ed83bfd27dddcea9c7963f53f19", func := "loop.example/g01057/laws.FnExactEventName", spec := "fnExactEventName", apart := false }
def FnExactEventNameSaid : Prop := fnExactEventNameRow.holds Try.pinned (OpenSpec.ofChange fnExactEventNameSpec)

/-- ITS FALSE NEIGHBOUR: 'it returns false'. Refute it at one input. -/
def fnExactEventNameWrong : ChangeSpec := { name := "fnExactEventName", fn := fun _ => fun
  | [d] => { results := [.lit (.bool false)], args := [d] }
  | _ => none }
def FnExactEventNameWrongFalsely : Prop := fnExactEventNameRow.holds Try.pinned (OpenSpec.ofChange fnExactEventNameWrong)

/-- 'laws.FnExactIsSafeState': WHATEVER THE INPUT: true; the input reads as it did. -/
def fnExactIsSafeStateSpec : ChangeSpec := { name := "fnExactIsSafeState", fn := fun _ => fun
  | [d] => { results := [.lit (.bool true)], args := [d] }
  | _ => none }
def fnExactIsSafeStateRow : OpenClaim := { program := "ytmacccijecpnpaa", sum := "ae94ab604a2032bc841386710dd976d4ed2e1ed83bfd27dddcea9c7963f53f19", func := "loop.example/g01057/laws.FnExactIsSafeState", spec := "fnExactIsSafeState", apart := false }
def FnExactIsSafeStateSaid : Prop := fnExactIsSafeStateRow.holds Try.pinned (OpenSpec.ofChange fnExactIsSafeStateSpec)

/-- ITS FALSE NEIGHBOUR: 'it returns false'. Refute it at one input. -/
def fnExactIsSafeStateWrong : ChangeSpec := { name := "fnExactIsSafeState", fn := fun _ => fun
  | [d] => { results := [.lit (.bool false)], args := [d] }
  | _ => none }
def FnExactIsSafeStateWrongFalsely : Prop := fnExactIsSafeStateRow.holds Try.pinned (OpenSpec.ofChange fnExactIsSafeStateWrong)

/-- 'laws.FnExactFirstState': WHATEVER THE INPUT: true; the input reads as it did. -/
def fnExactFirstStateSpec : ChangeSpec := { name := "fnExactFirstState", fn := fun _ => fun
  | [] => { results := [.lit (.bool true)], args := [] }
  | _ => none }
def fnExactFirstStateRow : OpenClaim := { program := "ytmacccijecpnpaa", sum := "ae94ab604a2032bc841386710dd976d4ed2e1ed83bfd27dddcea9c7963f53f19", func := "loop.example/g01057/laws.FnExactFirstState", spec := "fnExactFirstState", apart := false }
def FnExactFirstStateSaid : Prop := fnExactFirstStateRow.holds Try.pinned (OpenSpec.ofChange fnExactFirstStateSpec)

/-- ITS FALSE NEIGHBOUR: 'it returns false'. Refute it at one input. -/
def fnExactFirstStateWrong : ChangeSpec := { name := "fnExactFirstState", fn := fun _ => fun
  | [] => { results := [.lit (.bool false)], args := [] }
  | _ => none }
def FnExactFirstStateWrongFalsely : Prop := fnExactFirstStateRow.holds Try.pinned (OpenSpec.ofChange fnExactFirstStateWrong)

/-- 'laws.FnBrakes': WHATEVER THE INPUT: true; the input reads as it did. -/
def fnBrakesSpec : ChangeSpec := { name := "fnBrakes", fn := fun _ => fun
  | [d1, d2] => { results := [.lit (.bool true)], args := [d1, d2] }
  | _ => none }
def fnBrakesRow : OpenClaim := { program := "ytmacccijecpnpaa", sum := "ae94ab604a2032bc841386710dd976d4ed2e1ed83bfd27dddcea9c7963f53f19", func := "loop.example/g01057/laws.FnBrakes", spec := "fnBrakes", unfollowed := true, recurses := true, apart := false }
def FnBrakesSaid : Prop := fnBrakesRow.holds Try.pinned (OpenSpec.ofChange fnBrakesSpec)

/-- ITS FALSE NEIGHBOUR: 'it returns false'. Refute it at one input. -/
def fnBrakesWrong : ChangeSpec := { name := "fnBrakes", fn := fun _ => fun
  | [d1, d2] => { results := [.lit (.bool false)], args := [d1, d2] }
  | _ => none }
def FnBrakesWrongFalsely : Prop := fnBrakesRow.holds Try.pinned (OpenSpec.ofChange fnBrakesWrong)

/-- 'laws.FnExactValidDoor': WHATEVER THE INPUT: true; the input reads as it did. -/
def fnExactValidDoorSpec : ChangeSpec := { name := "fnExactValidDoor", fn := fun _ => fun
  | [d] => { results := [.lit (.bool true)], args := [d] }
  | _ => none }
def fnExactValidDoorRow : OpenClaim := { program := "ytmacccijecpnpaa", sum := "ae94ab604a2032bc841386710dd976d4ed2e1ed83bfd27dddcea9c7963f53f19", func := "loop.example/g01057/laws.FnExactValidDoor", spec := "fnExactValidDoor", apart := false }
def FnExactValidDoorSaid : Prop := fnExactValidDoorRow.holds Try.pinned (OpenSpec.ofChange fnExactValidDoorSpec)

/-- ITS FALSE NEIGHBOUR: 'it returns false'. Refute it at one input. -/
def fnExactValidDoorWrong : ChangeSpec := { name := "fnExactValidDoor", fn := fun _ => fun
  | [d] => { results := [.lit (.bool false)], args := [d] }
  | _ => none }
def FnExactValidDoorWrongFalsely : Prop := fnExactValidDoorRow.holds Try.pinned (OpenSpec.ofChange fnExactValidDoorWrong)

/-- 'laws.FnExactValidPlaces': WHATEVER THE INPUT: true; the input reads as it did. -/
def fnExactValidPlacesSpec : ChangeSpec := { name := "fnExactValidPlaces", fn := fun _ => fun
  | [d] => { results := [.lit (.bool true)], args := [d] }
  | _ => none }
def fnExactValidPlacesRow : OpenClaim := { program := "ytmacccijecpnpaa", sum := "ae94ab604a2032bc841386710dd976d4ed2e1ed83bfd27dddcea9c7963f53f19", func := "loop.example/g01057/laws.FnExactValidPlaces", spec := "fnExactValidPlaces", apart := false }
def FnExactValidPlacesSaid : Prop := fnExactValidPlacesRow.holds Try.pinned (OpenSpec.ofChange fnExactValidPlacesSpec)

/-- ITS FALSE NEIGHBOUR: 'it returns false'. Refute it at one input. -/
def fnExactValidPlacesWrong : ChangeSpec := { name := "fnExactValidPlaces", fn := fun _ => fun
  | [d] => { results := [.lit (.bool false)], args := [d] }
  | _ => none }
def FnExactValidPlacesWrongFalsely : Prop := fnExactValidPlacesRow.holds Try.pinned (OpenSpec.ofChange fnExactValidPlacesWrong)

/-- 'laws.FnExactBothBrakes': WHATEVER THE INPUT: true; the input reads as it did. -/
def fnExactBothBrakesSpec : ChangeSpec := { name := "fnExactBothBrakes", fn := fun _ => fun
  | [d1, d2] => { results := [.lit (.bool true)], args := [d1, d2] }
  | _ => none }
def fnExactBothBrakesRow : OpenClaim := { program := "ytmacccijecpnpaa", sum := "ae94ab604a2032bc841386710dd976d4ed2e1ed83bfd27dddcea9c7963f53f19", func := "loop.example/g01057/laws.FnExactBothBrakes", spec := "fnExactBothBrakes", apart := false }
def FnExactBothBrakesSaid : Prop := fnExactBothBrakesRow.holds Try.pinned (OpenSpec.ofChange fnExactBothBrakesSpec)

/-- ITS FALSE NEIGHBOUR: 'it returns false'. Refute it at one input. -/
def fnExactBothBrakesWrong : ChangeSpec := { name := "fnExactBothBrakes", fn := fun _ => fun
  | [d1, d2] => { results := [.lit (.bool false)], args := [d1, d2] }
  | _ => none }
def FnExactBothBrakesWrongFalsely : Prop := fnExactBothBrakesRow.holds Try.pinned (OpenSpec.ofChange fnExactBothBrakesWrong)

/-- 'laws.FnExactStateText': WHATEVER THE INPUT: true; the input reads as it did. -/
def fnExactStateTextSpec : ChangeSpec := { name := "fnExactStateText", fn := fun _ => fun
  | [d] => { results := [.lit (.bool true)], args := [d] }
  | _ => none }
def fnExactStateTextRow : OpenClaim := { program := "ytmacccijecpnpaa", sum := "ae94ab604a2032bc841386710dd976d4ed2e1ed83bfd27dddcea9c7963f53f19", func := "loop.example/g01057/laws.FnExactStateText", spec := "fnExactStateText", apart := false }
def FnExactStateTextSaid : Prop := fnExactStateTextRow.holds Try.pinned (OpenSpec.ofChange fnExactStateTextSpec)

/-- ITS FALSE NEIGHBOUR: 'it returns false'. Refute it at one input. -/
def fnExactStateTextWrong : ChangeSpec := { name := "fnExactStateText", fn := fun _ => fun
  | [d] => { results := [.lit (.bool false)], args := [d] }
  | _ => none }
def FnExactStateTextWrongFalsely : Prop := fnExactStateTextRow.holds Try.pinned (OpenSpec.ofChange fnExactStateTextWrong)

/- THE SECOND FORM. 'bulk': how many values and letters a reading holds, each counted each time it is reached (what is shared counts as often as it is met; a slice's spare places count too). A statement '..UptoSaid' is the law's where the arguments, and the package variables that the reading takes, are together of bulk at most 1048576: NARROWER than '..Said'. Prove '..Said' where nothing that the law and all that it calls make is longer than what came in: it says more and counts as full. Else prove '..UptoSaid'. A law counts once. -/
mutual
def uptoBulk {H : Type} : DataW H → Nat
  | .lit (.string bytes) => bytes.length + 1
  | .lit _ => 1
  | .nil => 1
  | .ptr d => uptoBulk d + 1
  | .slice elems spare => uptoBulkAll elems + uptoBulkAll spare + 1
  | .agg parts => uptoBulkAll parts + 1
  | .iface _ d => uptoBulk d + 1
  | .map entries => uptoBulkEntries entries + 1
  | .held _ => 1
def uptoBulkAll {H : Type} : List (DataW H) → Nat
  | [] => 0
  | d :: r => uptoBulk d + uptoBulkAll r
def uptoBulkEntries {H : Type} : List (Lit × DataW H) → Nat
  | [] => 0
  | x :: r => uptoBulkEntry x + uptoBulkEntries r
def uptoBulkEntry {H : Type} : Lit × DataW H → Nat
  | (.string bytes, d) => bytes.length + uptoBulk d + 1
  | (_, d) => uptoBulk d + 1
 end
def uptoSmall : (H : Type) → List (DataW H) → Bool := fun _ ds => decide (uptoBulkAll ds ≤ 1048576)
def OpenSpec.upto (s : _root_.Go.ChangeSpec) : _root_.Go.OpenSpec := { _root_.Go.OpenSpec.ofChange s with cond := some uptoSmall }

/-- 'laws.FnExactValidBrake', WHERE WHAT IT READS IS OF BULK AT MOST 1048576: true; the input reads as it did. -/
def fnExactValidBrakeUptoRow : OpenClaim := { program := "ytmacccijecpnpaa", sum := "ae94ab604a2032bc841386710dd976d4ed2e1ed83bfd27dddcea9c7963f53f19", func := "loop.example/g01057/laws.FnExactValidBrake", spec := "fnExactValidBrake", apart := false, narrowed := true }
def FnExactValidBrakeUptoSaid : Prop := fnExactValidBrakeUptoRow.holds Try.pinned (OpenSpec.upto fnExactValidBrakeSpec)

/-- 'laws.FnExactDoorName', WHERE WHAT IT READS IS OF BULK AT MOST 1048576: true; the input reads as it did. -/
def fnExactDoorNameUptoRow : OpenClaim := { program := "ytmacccijecpnpaa", sum := "ae94ab604a2032bc841386710dd976d4ed2e1ed83bfd27dddcea9c7963f53f19", func := "loop.example/g01057/laws.FnExactDoorName", spec := "fnExactDoorName", apart := false, narrowed := true }
def FnExactDoorNameUptoSaid : Prop := fnExactDoorNameUptoRow.holds Try.pinned (OpenSpec.upto fnExactDoorNameSpec)

/-- 'laws.FnExactValidControl', WHERE WHAT IT READS IS OF BULK AT MOST 1048576: true; the input reads as it did. -/
def fnExactValidControlUptoRow : OpenClaim := { program := "ytmacccijecpnpaa", sum := "ae94ab604a2032bc841386710dd976d4ed2e1ed83bfd27dddcea9c7963f53f19", func := "loop.example/g01057/laws.FnExactValidControl", spec := "fnExactValidControl", apart := false, narrowed := true }
def FnExactValidControlUptoSaid : Prop := fnExactValidControlUptoRow.holds Try.pinned (OpenSpec.upto fnExactValidControlSpec)

/-- 'laws.FnExactModeName', WHERE WHAT IT READS IS OF BULK AT MOST 1048576: true; the input reads as it did. -/
def fnExactModeNameUptoRow : OpenClaim := { program := "ytmacccijecpnpaa", sum := "ae94ab604a2032bc841386710dd976d4ed2e1ed83bfd27dddcea9c7963f53f19", func := "loop.example/g01057/laws.FnExactModeName", spec := "fnExactModeName", apart := false, narrowed := true }
def FnExactModeNameUptoSaid : Prop := fnExactModeNameUptoRow.holds Try.pinned (OpenSpec.upto fnExactModeNameSpec)

/-- 'laws.FnExactEventName', WHERE WHAT IT READS IS OF BULK AT MOST 1048576: true; the input reads as it did. -/
def fnExactEventNameUptoRow : OpenClaim := { program := "ytmacccijecpnpaa", sum := "ae94ab604a2032bc841386710dd976d4ed2e1ed83bfd27dddcea9c7963f53f19", func := "loop.example/g01057/laws.FnExactEventName", spec := "fnExactEventName", apart := false, narrowed := true }
def FnExactEventNameUptoSaid : Prop := fnExactEventNameUptoRow.holds Try.pinned (OpenSpec.upto fnExactEventNameSpec)

/-- 'laws.FnExactIsSafeState', WHERE WHAT IT READS IS OF BULK AT MOST 1048576: true; the input reads as it did. -/
def fnExactIsSafeStateUptoRow : OpenClaim := { program := "ytmacccijecpnpaa", sum := "ae94ab604a2032bc841386710dd976d4ed2e1ed83bfd27dddcea9c7963f53f19", func := "loop.example/g01057/laws.FnExactIsSafeState", spec := "fnExactIsSafeState", apart := false, narrowed := true }
def FnExactIsSafeStateUptoSaid : Prop := fnExactIsSafeStateUptoRow.holds Try.pinned (OpenSpec.upto fnExactIsSafeStateSpec)

/-- 'laws.FnExactFirstState', WHERE WHAT IT READS IS OF BULK AT MOST 1048576: true; the input reads as it did. -/
def fnExactFirstStateUptoRow : OpenClaim := { program := "ytmacccijecpnpaa", sum := "ae94ab604a2032bc841386710dd976d4ed2e1ed83bfd27dddcea9c7963f53f19", func := "loop.example/g01057/laws.FnExactFirstState", spec := "fnExactFirstState", apart := false, narrowed := true }
def FnExactFirstStateUptoSaid : Prop := fnExactFirstStateUptoRow.holds Try.pinned (OpenSpec.upto fnExactFirstStateSpec)

/-- 'laws.FnBrakes', WHERE WHAT IT READS IS OF BULK AT MOST 1048576: true; the input reads as it did. -/
def fnBrakesUptoRow : OpenClaim := { program := "ytmacccijecpnpaa", sum := "ae94ab604a2032bc841386710dd976d4ed2e1ed83bfd27dddcea9c7963f53f19", func := "loop.example/g01057/laws.FnBrakes", spec := "fnBrakes", unfollowed := true, recurses := true, apart := false, narrowed := true }
def FnBrakesUptoSaid : Prop := fnBrakesUptoRow.holds Try.pinned (OpenSpec.upto fnBrakesSpec)

/-- 'laws.FnExactValidDoor', WHERE WHAT IT READS IS OF BULK AT MOST 1048576: true; the input reads as it did. -/
def fnExactValidDoorUptoRow : OpenClaim := { program := "ytmacccijecpnpaa", sum := "ae94ab604a2032bc841386710dd976d4ed2e1ed83bfd27dddcea9c7963f53f19", func := "loop.example/g01057/laws.FnExactValidDoor", spec := "fnExactValidDoor", apart := false, narrowed := true }
def FnExactValidDoorUptoSaid : Prop := fnExactValidDoorUptoRow.holds Try.pinned (OpenSpec.upto fnExactValidDoorSpec)

/-- 'laws.FnExactValidPlaces', WHERE WHAT IT READS IS OF BULK AT MOST 1048576: true; the input reads as it did. -/
def fnExactValidPlacesUptoRow : OpenClaim := { program := "ytmacccijecpnpaa", sum := "ae94ab604a2032bc841386710dd976d4ed2e1ed83bfd27dddcea9c7963f53f19", func := "loop.example/g01057/laws.FnExactValidPlaces", spec := "fnExactValidPlaces", apart := false, narrowed := true }
def FnExactValidPlacesUptoSaid : Prop := fnExactValidPlacesUptoRow.holds Try.pinned (OpenSpec.upto fnExactValidPlacesSpec)

/-- 'laws.FnExactBothBrakes', WHERE WHAT IT READS IS OF BULK AT MOST 1048576: true; the input reads as it did. -/
def fnExactBothBrakesUptoRow : OpenClaim := { program := "ytmacccijecpnpaa", sum := "ae94ab604a2032bc841386710dd976d4ed2e1ed83bfd27dddcea9c7963f53f19", func := "loop.example/g01057/laws.FnExactBothBrakes", spec := "fnExactBothBrakes", apart := false, narrowed := true }
def FnExactBothBrakesUptoSaid : Prop := fnExactBothBrakesUptoRow.holds Try.pinned (OpenSpec.upto fnExactBothBrakesSpec)

/-- 'laws.FnExactStateText', WHERE WHAT IT READS IS OF BULK AT MOST 1048576: true; the input reads as it did. -/
def fnExactStateTextUptoRow : OpenClaim := { program := "ytmacccijecpnpaa", sum := "ae94ab604a2032bc841386710dd976d4ed2e1ed83bfd27dddcea9c7963f53f19", func := "loop.example/g01057/laws.FnExactStateText", spec := "fnExactStateText", apart := false, narrowed := true }
def FnExactStateTextUptoSaid : Prop := fnExactStateTextUptoRow.holds Try.pinned (OpenSpec.upto fnExactStateTextSpec)

end Rows
end Go.Proofs.Ytmacccijecpnpaa
