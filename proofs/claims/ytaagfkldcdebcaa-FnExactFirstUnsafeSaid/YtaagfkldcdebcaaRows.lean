/-
  No cell of these rows narrows 'for every input' (looked for: loops, veiled, ifaces, maps, wideKeys, modest, calm, conditions, laid).
  DERIVED. THE GIVEN ROWS OF THIS SEAT. 5 by the template 'for every input the law returns true; each argument reads behind the call as it read before'; 0 by the template 'total and deterministic' (their statements: YtaagfkldcdebcaaTotals.lean).
  GIVEN WITH THE SEED: the statements are not yours to turn. If you find one false, say at which input.
  Laid BY PROGRAM, IN A SANDBOX (cutbox-rows.mjs): the forced cells as the released guide's own fill.sh prints them over the translation 79c510e5b4a9cc2f… (all of the seat's roots in one cut). By AI agents, Wed Nov 11 2026. No macro, syntax, notation, axiom, sorry.
-/
import Derived.Test.YtaagfkldcdebcaaChecked
import GoSem.Claim
import GoSem.ClaimJoined
import GoSem.ClaimMapViews
import Derived.JoinedTies
import Derived.KernelRfl
namespace Go.Proofs.Ytaagfkldcdebcaa
/- THE CELL 'sum', in the pinned program and in every row, IS THE sha256 OF THE DUMP (.gsa) THAT YtaagfkldcdebcaaProg.lean LOADS. Nothing in Lean hashes anything: it is a label: what it is worth is what the hold of that sum in a sandbox is worth. -/
noncomputable def Try.pinned : Pinned := { name := "ytaagfkldcdebcaa", sum := "79c510e5b4a9cc2ff4ddb3d25e048b568b2797a9f13d8aef578e6962ab802bb2", checked := Try.checked }
namespace Rows
def none {H : Type} : Left H := { results := [], args := [] }

/-- 'laws.FnExactStopsOn': WHATEVER THE INPUT: true; the input reads as it did. -/
def fnExactStopsOnSpec : ChangeSpec := { name := "fnExactStopsOn", fn := fun _ => fun
  | [d1, d2, d3, d4, d5] => { results := [.lit (.bool true)], args := [d1, d2, d3, d4, d5] }
  | _ => none }
def fnExactStopsOnRow : OpenClaim := { program := "ytaagfkldcdebcaa", sum := "79c510e5b4a9cc2ff4ddb3d25e048b568b2797a9f13d8aef578e6962ab802bb2", func := "loop.example/g01057/laws.FnExactStopsOn", spec := "fnExactStopsOn", apart := false }
def FnExactStopsOnSaid : Prop := fnExactStopsOnRow.holds Try.pinned (OpenSpec.ofChange fnExactStopsOnSpec)

/-- ITS FALSE NEIGHBOUR: 'it returns false'. Refute it at one input. -/
def fnExactStopsOnWrong : ChangeSpec := { name := "fnExactStopsOn", fn := fun _ => fun
  | [d1, d2, d3, d4, d5] => { results := [.lit (.bool false)], args := [d1, d2, d3, d4, d5] }
  | _ => none }
def FnExactStopsOnWrongFalsely : Prop := fnExactStopsOnRow.holds Try.pinned (OpenSpec.ofChange fnExactStopsOnWrong)

/-- 'laws.FnExactStopsInTime': WHATEVER THE INPUT: true; the input reads as it did. -/
def fnExactStopsInTimeSpec : ChangeSpec := { name := "fnExactStopsInTime", fn := fun _ => fun
  | [d1, d2, d3, d4, d5] => { results := [.lit (.bool true)], args := [d1, d2, d3, d4, d5] }
  | _ => none }
def fnExactStopsInTimeRow : OpenClaim := { program := "ytaagfkldcdebcaa", sum := "79c510e5b4a9cc2ff4ddb3d25e048b568b2797a9f13d8aef578e6962ab802bb2", func := "loop.example/g01057/laws.FnExactStopsInTime", spec := "fnExactStopsInTime", apart := false }
def FnExactStopsInTimeSaid : Prop := fnExactStopsInTimeRow.holds Try.pinned (OpenSpec.ofChange fnExactStopsInTimeSpec)

/-- ITS FALSE NEIGHBOUR: 'it returns false'. Refute it at one input. -/
def fnExactStopsInTimeWrong : ChangeSpec := { name := "fnExactStopsInTime", fn := fun _ => fun
  | [d1, d2, d3, d4, d5] => { results := [.lit (.bool false)], args := [d1, d2, d3, d4, d5] }
  | _ => none }
def FnExactStopsInTimeWrongFalsely : Prop := fnExactStopsInTimeRow.holds Try.pinned (OpenSpec.ofChange fnExactStopsInTimeWrong)

/-- 'laws.FnExactFirstUnsafe': WHATEVER THE INPUT: true; the input reads as it did. -/
def fnExactFirstUnsafeSpec : ChangeSpec := { name := "fnExactFirstUnsafe", fn := fun _ => fun
  | [d1, d2, d3, d4] => { results := [.lit (.bool true)], args := [d1, d2, d3, d4] }
  | _ => none }
def fnExactFirstUnsafeRow : OpenClaim := { program := "ytaagfkldcdebcaa", sum := "79c510e5b4a9cc2ff4ddb3d25e048b568b2797a9f13d8aef578e6962ab802bb2", func := "loop.example/g01057/laws.FnExactFirstUnsafe", spec := "fnExactFirstUnsafe", unfollowed := true, recurses := true, apart := false }
def FnExactFirstUnsafeSaid : Prop := fnExactFirstUnsafeRow.holds Try.pinned (OpenSpec.ofChange fnExactFirstUnsafeSpec)

/-- ITS FALSE NEIGHBOUR: 'it returns false'. Refute it at one input. -/
def fnExactFirstUnsafeWrong : ChangeSpec := { name := "fnExactFirstUnsafe", fn := fun _ => fun
  | [d1, d2, d3, d4] => { results := [.lit (.bool false)], args := [d1, d2, d3, d4] }
  | _ => none }
def FnExactFirstUnsafeWrongFalsely : Prop := fnExactFirstUnsafeRow.holds Try.pinned (OpenSpec.ofChange fnExactFirstUnsafeWrong)

/-- 'laws.FnBrakes': WHATEVER THE INPUT: true; the input reads as it did. -/
def fnBrakesSpec : ChangeSpec := { name := "fnBrakes", fn := fun _ => fun
  | [d1, d2] => { results := [.lit (.bool true)], args := [d1, d2] }
  | _ => none }
def fnBrakesRow : OpenClaim := { program := "ytaagfkldcdebcaa", sum := "79c510e5b4a9cc2ff4ddb3d25e048b568b2797a9f13d8aef578e6962ab802bb2", func := "loop.example/g01057/laws.FnBrakes", spec := "fnBrakes", unfollowed := true, recurses := true, apart := false }
def FnBrakesSaid : Prop := fnBrakesRow.holds Try.pinned (OpenSpec.ofChange fnBrakesSpec)

/-- ITS FALSE NEIGHBOUR: 'it returns false'. Refute it at one input. -/
def fnBrakesWrong : ChangeSpec := { name := "fnBrakes", fn := fun _ => fun
  | [d1, d2] => { results := [.lit (.bool false)], args := [d1, d2] }
  | _ => none }
def FnBrakesWrongFalsely : Prop := fnBrakesRow.holds Try.pinned (OpenSpec.ofChange fnBrakesWrong)

/-- 'laws.FnStops': WHATEVER THE INPUT: true; the input reads as it did. -/
def fnStopsSpec : ChangeSpec := { name := "fnStops", fn := fun _ => fun
  | [d1, d2] => { results := [.lit (.bool true)], args := [d1, d2] }
  | _ => none }
def fnStopsRow : OpenClaim := { program := "ytaagfkldcdebcaa", sum := "79c510e5b4a9cc2ff4ddb3d25e048b568b2797a9f13d8aef578e6962ab802bb2", func := "loop.example/g01057/laws.FnStops", spec := "fnStops", unfollowed := true, recurses := true, apart := false }
def FnStopsSaid : Prop := fnStopsRow.holds Try.pinned (OpenSpec.ofChange fnStopsSpec)

/-- ITS FALSE NEIGHBOUR: 'it returns false'. Refute it at one input. -/
def fnStopsWrong : ChangeSpec := { name := "fnStops", fn := fun _ => fun
  | [d1, d2] => { results := [.lit (.bool false)], args := [d1, d2] }
  | _ => none }
def FnStopsWrongFalsely : Prop := fnStopsRow.holds Try.pinned (OpenSpec.ofChange fnStopsWrong)

/- THE SECOND FORM. 'bulk': how many values and letters a reading holds, each counted each time it is reached (what is shared counts as often as it is met; a slice's spare places count too). A statement '..UptoSaid' is the law's where the arguments, and the package variables that the reading takes, are together of bulk at most 1048576: NARROWER than '..Said'. Prove '..Said' where nothing that the law and all that it calls make is longer than what came in: it says more and counts as full. Else prove '..UptoSaid'. A law counts once. -/
mutual
def uptoBulk {H : Type} : DataW H → Nat
  | .lit (.string bytes) => bytes.length + 1
  | .lit _ => 1
  | .nil => 1
  | .ptr d => uptoBulk d + 1
  | .slice elems spare => uptoBulkAll elems + uptoBulkAll spare + 1
  | .agg parts => uptoBulkAll parts + 1
  | .iface _ d => uptoBulk d + 1
  | .map entries => uptoBulkEntries entries + 1
  | .held _ => 1
def uptoBulkAll {H : Type} : List (DataW H) → Nat
  | [] => 0
  | d :: r => uptoBulk d + uptoBulkAll r
def uptoBulkEntries {H : Type} : List (Lit × DataW H) → Nat
  | [] => 0
  | x :: r => uptoBulkEntry x + uptoBulkEntries r
def uptoBulkEntry {H : Type} : Lit × DataW H → Nat
  | (.string bytes, d) => bytes.length + uptoBulk d + 1
  | (_, d) => uptoBulk d + 1
 end
def uptoSmall : (H : Type) → List (DataW H) → Bool := fun _ ds => decide (uptoBulkAll ds ≤ 1048576)
def OpenSpec.upto (s : _root_.Go.ChangeSpec) : _root_.Go.OpenSpec := { _root_.Go.OpenSpec.ofChange s with cond := some uptoSmall }

/-- 'laws.FnExactStopsOn', WHERE WHAT IT READS IS OF BULK AT MOST 1048576: true; the input reads as it did. -/
def fnExactStopsOnUptoRow : OpenClaim := { program := "ytaagfkldcdebcaa", sum := "79c510e5b4a9cc2ff4ddb3d25e048b568b2797a9f13d8aef578e6962ab802bb2", func := "loop.example/g01057/laws.FnExactStopsOn", spec := "fnExactStopsOn", apart := false, narrowed := true }
def FnExactStopsOnUptoSaid : Prop := fnExactStopsOnUptoRow.holds Try.pinned (OpenSpec.upto fnExactStopsOnSpec)

/-- 'laws.FnExactStopsInTime', WHERE WHAT IT READS IS OF BULK AT MOST 1048576: true; the input reads as it did. -/
def fnExactStopsInTimeUptoRow : OpenClaim := { program := "ytaagfkldcdebcaa", sum := "79c510e5b4a9cc2ff4ddb3d25e048b568b2797a9f13d8aef578e6962ab802bb2", func := "loop.example/g01057/laws.FnExactStopsInTime", spec := "fnExactStopsInTime", apart := false, narrowed := true }
def FnExactStopsInTimeUptoSaid : Prop := fnExactStopsInTimeUptoRow.holds Try.pinned (OpenSpec.upto fnExactStopsInTimeSpec)

/-- 'laws.FnExactFirstUnsafe', WHERE WHAT IT READS IS OF BULK AT MOST 1048576: true; the input reads as it did. -/
def fnExactFirstUnsafeUptoRow : OpenClaim := { program := "ytaagfkldcdebcaa", sum := "79c510e5b4a9cc2ff4ddb3d25e048b568b2797a9f13d8aef578e6962ab802bb2", func := "loop.example/g01057/laws.FnExactFirstUnsafe", spec := "fnExactFirstUnsafe", unfollowed := true, recurses := true, apart := false, narrowed := true }
def FnExactFirstUnsafeUptoSaid : Prop := fnExactFirstUnsafeUptoRow.holds Try.pinned (OpenSpec.upto fnExactFirstUnsafeSpec)

/-- 'laws.FnBrakes', WHERE WHAT IT READS IS OF BULK AT MOST 1048576: true; the input reads as it did. -/
def fnBrakesUptoRow : OpenClaim := { program := "ytaagfkldcdebcaa", sum := "79c510e5b4a9cc2ff4ddb3d25e048b568b2797a9f13d8aef578e6962ab802bb2", func := "loop.example/g01057/laws.FnBrakes", spec := "fnBrakes", unfollowed := true, recurses := true, apart := false, narrowed := true }
def FnBrakesUptoSaid : Prop := fnBrakesUptoRow.holds Try.pinned (OpenSpec.upto fnBrakesSpec)

/-- 'laws.FnStops', WHERE WHAT IT READS IS OF BULK AT MOST 1048576: true; the input reads as it did. -/
def fnStopsUptoRow : OpenClaim := { program := "ytaagfkldcdebcaa", sum := "79c510e5b4a9cc2ff4ddb3d25e048b568b2797a9f13d8aef578e6962ab802bb2", func := "loop.example/g01057/laws.FnStops", spec := "fnStops", unfollowed := true, recurses := true, apart := false, narrowed := true }
def FnStopsUptoSaid : Prop := fnStopsUptoRow.holds Try.pinned (OpenSpec.upto fnStopsSpec)

end Rows
end Go.Proofs.Ytaagfkldcdebcaa
