/-
  No cell of these rows narrows 'for every input' (looked for: loops, veiled, ifaces, maps, wideKeys, modest, calm, conditions, laid).
  DERIVED. THE GIVEN ROWS OF THIS SEAT. 8 by the template 'for every input the law returns true; each argument reads behind the call as it read before'; 0 by the template 'total and deterministic' (their statements: YtchbhobiefidcaaTotals.lean).
  GIVEN WITH THE SEED: the statements are not yours to turn. If you find one false, say at which input.
  Laid BY PROGRAM, IN A SANDBOX (cutbox-rows.mjs): the forced cells as the released guide's own fill.sh prints them over the translation e6f06882773e3fd9… (all of the seat's roots in one cut). By AI agents, Wed Nov 11 2026. No macro, syntax, notation, axiom, sorry.
-/
import Derived.Test.YtchbhobiefidcaaChecked
import GoSem.Claim
import GoSem.ClaimJoined
import GoSem.ClaimMapViews
import Derived.JoinedTies
import Derived.KernelRfl
namespace Go.Proofs.Ytchbhobiefidcaa
/- THE CELL 'sum', in the pinned program and in every row, IS THE sha256 OF THE DUMP (.gsa) THAT YtchbhobiefidcaaProg.lean LOADS. Nothing in Lean hashes anything: it is a label: what it is worth is what the hold of that sum in a sandbox is worth. -/
noncomputable def Try.pinned : Pinned := { name := "ytchbhobiefidcaa", sum := "e6f06882773e3fd90da204faa1194460a2e5529be79416650acc112dceddd3ba", checked := Try.checked }
namespace Rows
def none {H : Type} : Left H := { results := [], args := [] }

/-- 'laws.FnExactStopTenths': WHATEVER THE INPUT: true; the input reads as it did. -/
def fnExactStopTenthsSpec : ChangeSpec := { name := "fnExactStopTenths", fn := fun _ => fun
  | [d1, d2, d3, d4] => { results := [.lit (.bool true)], args := [d1, d2, d3, d4] }
  | _ => none }
def fnExactStopTenthsRow : OpenClaim := { program := "ytchbhobiefidcaa", sum := "e6f06882773e3fd90da204faa1194460a2e5529be79416650acc112dceddd3ba", func := "loop.example/g01057/laws.FnExactStopTenths", spec := "fnExactStopTenths", apart := false }
def FnExactStopTenthsSaid : Prop := fnExactStopTenthsRow.holds Try.pinned (OpenSpec.ofChange fnExactStopTenthsSpec)

/-- ITS FALSE NEIGHBOUR: 'it returns false'. Refute it at one input. -/
def fnExactStopTenthsWrong : ChangeSpec := { name := "fnExactStopTenths", fn := fun _ => fun
  | [d1, d2, d3, d4] => { results := [.lit (.bool false)], args := [d1, d2, d3, d4] }
  | _ => none }
def FnExactStopTenthsWrongFalsely : Prop := fnExactStopTenthsRow.holds Try.pinned (OpenSpec.ofChange fnExactStopTenthsWrong)

/-- 'laws.FnExactStopWay': WHATEVER THE INPUT: true; the input reads as it did. -/
def fnExactStopWaySpec : ChangeSpec := { name := "fnExactStopWay", fn := fun _ => fun
  | [d1, d2, d3, d4] => { results := [.lit (.bool true)], args := [d1, d2, d3, d4] }
  | _ => none }
def fnExactStopWayRow : OpenClaim := { program := "ytchbhobiefidcaa", sum := "e6f06882773e3fd90da204faa1194460a2e5529be79416650acc112dceddd3ba", func := "loop.example/g01057/laws.FnExactStopWay", spec := "fnExactStopWay", apart := false }
def FnExactStopWaySaid : Prop := fnExactStopWayRow.holds Try.pinned (OpenSpec.ofChange fnExactStopWaySpec)

/-- ITS FALSE NEIGHBOUR: 'it returns false'. Refute it at one input. -/
def fnExactStopWayWrong : ChangeSpec := { name := "fnExactStopWay", fn := fun _ => fun
  | [d1, d2, d3, d4] => { results := [.lit (.bool false)], args := [d1, d2, d3, d4] }
  | _ => none }
def FnExactStopWayWrongFalsely : Prop := fnExactStopWayRow.holds Try.pinned (OpenSpec.ofChange fnExactStopWayWrong)

/-- 'laws.FnExactLeastDecel': WHATEVER THE INPUT: true; the input reads as it did. -/
def fnExactLeastDecelSpec : ChangeSpec := { name := "fnExactLeastDecel", fn := fun _ => fun
  | [d1, d2, d3, d4, d5] => { results := [.lit (.bool true)], args := [d1, d2, d3, d4, d5] }
  | _ => none }
def fnExactLeastDecelRow : OpenClaim := { program := "ytchbhobiefidcaa", sum := "e6f06882773e3fd90da204faa1194460a2e5529be79416650acc112dceddd3ba", func := "loop.example/g01057/laws.FnExactLeastDecel", spec := "fnExactLeastDecel", unfollowed := true, recurses := true, apart := false }
def FnExactLeastDecelSaid : Prop := fnExactLeastDecelRow.holds Try.pinned (OpenSpec.ofChange fnExactLeastDecelSpec)

/-- ITS FALSE NEIGHBOUR: 'it returns false'. Refute it at one input. -/
def fnExactLeastDecelWrong : ChangeSpec := { name := "fnExactLeastDecel", fn := fun _ => fun
  | [d1, d2, d3, d4, d5] => { results := [.lit (.bool false)], args := [d1, d2, d3, d4, d5] }
  | _ => none }
def FnExactLeastDecelWrongFalsely : Prop := fnExactLeastDecelRow.holds Try.pinned (OpenSpec.ofChange fnExactLeastDecelWrong)

/-- 'laws.FnExactSafeSpeed': WHATEVER THE INPUT: true; the input reads as it did. -/
def fnExactSafeSpeedSpec : ChangeSpec := { name := "fnExactSafeSpeed", fn := fun _ => fun
  | [d1, d2, d3, d4] => { results := [.lit (.bool true)], args := [d1, d2, d3, d4] }
  | _ => none }
def fnExactSafeSpeedRow : OpenClaim := { program := "ytchbhobiefidcaa", sum := "e6f06882773e3fd90da204faa1194460a2e5529be79416650acc112dceddd3ba", func := "loop.example/g01057/laws.FnExactSafeSpeed", spec := "fnExactSafeSpeed", unfollowed := true, recurses := true, apart := false }
def FnExactSafeSpeedSaid : Prop := fnExactSafeSpeedRow.holds Try.pinned (OpenSpec.ofChange fnExactSafeSpeedSpec)

/-- ITS FALSE NEIGHBOUR: 'it returns false'. Refute it at one input. -/
def fnExactSafeSpeedWrong : ChangeSpec := { name := "fnExactSafeSpeed", fn := fun _ => fun
  | [d1, d2, d3, d4] => { results := [.lit (.bool false)], args := [d1, d2, d3, d4] }
  | _ => none }
def FnExactSafeSpeedWrongFalsely : Prop := fnExactSafeSpeedRow.holds Try.pinned (OpenSpec.ofChange fnExactSafeSpeedWrong)

/-- 'laws.FnExactStopsOn': WHATEVER THE INPUT: true; the input reads as it did. -/
def fnExactStopsOnSpec : ChangeSpec := { name := "fnExactStopsOn", fn := fun _ => fun
  | [d1, d2, d3, d4, d5] => { results := [.lit (.bool true)], args := [d1, d2, d3, d4, d5] }
  | _ => none }
def fnExactStopsOnRow : OpenClaim := { program := "ytchbhobiefidcaa", sum := "e6f06882773e3fd90da204faa1194460a2e5529be79416650acc112dceddd3ba", func := "loop.example/g01057/laws.FnExactStopsOn", spec := "fnExactStopsOn", apart := false }
def FnExactStopsOnSaid : Prop := fnExactStopsOnRow.holds Try.pinned (OpenSpec.ofChange fnExactStopsOnSpec)

/-- ITS FALSE NEIGHBOUR: 'it returns false'. Refute it at one input. -/
def fnExactStopsOnWrong : ChangeSpec := { name := "fnExactStopsOn", fn := fun _ => fun
  | [d1, d2, d3, d4, d5] => { results := [.lit (.bool false)], args := [d1, d2, d3, d4, d5] }
  | _ => none }
def FnExactStopsOnWrongFalsely : Prop := fnExactStopsOnRow.holds Try.pinned (OpenSpec.ofChange fnExactStopsOnWrong)

/-- 'laws.FnExactStopsInTime': WHATEVER THE INPUT: true; the input reads as it did. -/
def fnExactStopsInTimeSpec : ChangeSpec := { name := "fnExactStopsInTime", fn := fun _ => fun
  | [d1, d2, d3, d4, d5] => { results := [.lit (.bool true)], args := [d1, d2, d3, d4, d5] }
  | _ => none }
def fnExactStopsInTimeRow : OpenClaim := { program := "ytchbhobiefidcaa", sum := "e6f06882773e3fd90da204faa1194460a2e5529be79416650acc112dceddd3ba", func := "loop.example/g01057/laws.FnExactStopsInTime", spec := "fnExactStopsInTime", apart := false }
def FnExactStopsInTimeSaid : Prop := fnExactStopsInTimeRow.holds Try.pinned (OpenSpec.ofChange fnExactStopsInTimeSpec)

/-- ITS FALSE NEIGHBOUR: 'it returns false'. Refute it at one input. -/
def fnExactStopsInTimeWrong : ChangeSpec := { name := "fnExactStopsInTime", fn := fun _ => fun
  | [d1, d2, d3, d4, d5] => { results := [.lit (.bool false)], args := [d1, d2, d3, d4, d5] }
  | _ => none }
def FnExactStopsInTimeWrongFalsely : Prop := fnExactStopsInTimeRow.holds Try.pinned (OpenSpec.ofChange fnExactStopsInTimeWrong)

/-- 'laws.FnExactFirstUnsafe': WHATEVER THE INPUT: true; the input reads as it did. -/
def fnExactFirstUnsafeSpec : ChangeSpec := { name := "fnExactFirstUnsafe", fn := fun _ => fun
  | [d1, d2, d3, d4] => { results := [.lit (.bool true)], args := [d1, d2, d3, d4] }
  | _ => none }
def fnExactFirstUnsafeRow : OpenClaim := { program := "ytchbhobiefidcaa", sum := "e6f06882773e3fd90da204faa1194460a2e5529be79416650acc112dceddd3ba", func := "loop.example/g01057/laws.FnExactFirstUnsafe", spec := "fnExactFirstUnsafe", unfollowed := true, recurses := true, apart := false }
def FnExactFirstUnsafeSaid : Prop := fnExactFirstUnsafeRow.holds Try.pinned (OpenSpec.ofChange fnExactFirstUnsafeSpec)

/-- ITS FALSE NEIGHBOUR: 'it returns false'. Refute it at one input. -/
def fnExactFirstUnsafeWrong : ChangeSpec := { name := "fnExactFirstUnsafe", fn := fun _ => fun
  | [d1, d2, d3, d4] => { results := [.lit (.bool false)], args := [d1, d2, d3, d4] }
  | _ => none }
def FnExactFirstUnsafeWrongFalsely : Prop := fnExactFirstUnsafeRow.holds Try.pinned (OpenSpec.ofChange fnExactFirstUnsafeWrong)

/-- 'laws.FnStops': WHATEVER THE INPUT: true; the input reads as it did. -/
def fnStopsSpec : ChangeSpec := { name := "fnStops", fn := fun _ => fun
  | [d1, d2] => { results := [.lit (.bool true)], args := [d1, d2] }
  | _ => none }
def fnStopsRow : OpenClaim := { program := "ytchbhobiefidcaa", sum := "e6f06882773e3fd90da204faa1194460a2e5529be79416650acc112dceddd3ba", func := "loop.example/g01057/laws.FnStops", spec := "fnStops", unfollowed := true, recurses := true, apart := false }
def FnStopsSaid : Prop := fnStopsRow.holds Try.pinned (OpenSpec.ofChange fnStopsSpec)

/-- ITS FALSE NEIGHBOUR: 'it returns false'. Refute it at one input. -/
def fnStopsWrong : ChangeSpec := { name := "fnStops", fn := fun _ => fun
  | [d1, d2] => { results := [.lit (.bool false)], args := [d1, d2] }
  | _ => none }
def FnStopsWrongFalsely : Prop := fnStopsRow.holds Try.pinned (OpenSpec.ofChange fnStopsWrong)

/- THE SECOND FORM. 'bulk': how many values and letters a reading holds, each counted each time it is reached (what is shared counts as often as it is met; a slice's spare places count too). A statement '..UptoSaid' is the law's where the arguments, and the package variables that the reading takes, are together of bulk at most 1048576: NARROWER than '..Said'. Prove '..Said' where nothing that the law and all that it calls make is longer than what came in: it says more and counts as full. Else prove '..UptoSaid'. A law counts once. -/
mutual
def uptoBulk {H : Type} : DataW H → Nat
  | .lit (.string bytes) => bytes.length + 1
  | .lit _ => 1
  | .nil => 1
  | .ptr d => uptoBulk d + 1
  | .slice elems spare => uptoBulkAll elems + uptoBulkAll spare + 1
  | .agg parts => uptoBulkAll parts + 1
  | .iface _ d => uptoBulk d + 1
  | .map entries => uptoBulkEntries entries + 1
  | .held _ => 1
def uptoBulkAll {H : Type} : List (DataW H) → Nat
  | [] => 0
  | d :: r => uptoBulk d + uptoBulkAll r
def uptoBulkEntries {H : Type} : List (Lit × DataW H) → Nat
  | [] => 0
  | x :: r => uptoBulkEntry x + uptoBulkEntries r
def uptoBulkEntry {H : Type} : Lit × DataW H → Nat
  | (.string bytes, d) => bytes.length + uptoBulk d + 1
  | (_, d) => uptoBulk d + 1
 end
def uptoSmall : (H : Type) → List (DataW H) → Bool := fun _ ds => decide (uptoBulkAll ds ≤ 1048576)
def OpenSpec.upto (s : _root_.Go.ChangeSpec) : _root_.Go.OpenSpec := { _root_.Go.OpenSpec.ofChange s with cond := some uptoSmall }

/-- 'laws.FnExactStopTenths', WHERE WHAT IT READS IS OF BULK AT MOST 1048576: true; the input reads as it did. -/
def fnExactStopTenthsUptoRow : OpenClaim := { program := "ytchbhobiefidcaa", sum := "e6f06882773e3fd90da204faa1194460a2e5529be79416650acc112dceddd3ba", func := "loop.example/g01057/laws.FnExactStopTenths", spec := "fnExactStopTenths", apart := false, narrowed := true }
def FnExactStopTenthsUptoSaid : Prop := fnExactStopTenthsUptoRow.holds Try.pinned (OpenSpec.upto fnExactStopTenthsSpec)

/-- 'laws.FnExactStopWay', WHERE WHAT IT READS IS OF BULK AT MOST 1048576: true; the input reads as it did. -/
def fnExactStopWayUptoRow : OpenClaim := { program := "ytchbhobiefidcaa", sum := "e6f06882773e3fd90da204faa1194460a2e5529be79416650acc112dceddd3ba", func := "loop.example/g01057/laws.FnExactStopWay", spec := "fnExactStopWay", apart := false, narrowed := true }
def FnExactStopWayUptoSaid : Prop := fnExactStopWayUptoRow.holds Try.pinned (OpenSpec.upto fnExactStopWaySpec)

/-- 'laws.FnExactLeastDecel', WHERE WHAT IT READS IS OF BULK AT MOST 1048576: true; the input reads as it did. -/
def fnExactLeastDecelUptoRow : OpenClaim := { program := "ytchbhobiefidcaa", sum := "e6f06882773e3fd90da204faa1194460a2e5529be79416650acc112dceddd3ba", func := "loop.example/g01057/laws.FnExactLeastDecel", spec := "fnExactLeastDecel", unfollowed := true, recurses := true, apart := false, narrowed := true }
def FnExactLeastDecelUptoSaid : Prop := fnExactLeastDecelUptoRow.holds Try.pinned (OpenSpec.upto fnExactLeastDecelSpec)

/-- 'laws.FnExactSafeSpeed', WHERE WHAT IT READS IS OF BULK AT MOST 1048576: true; the input reads as it did. -/
def fnExactSafeSpeedUptoRow : OpenClaim := { program := "ytchbhobiefidcaa", sum := "e6f06882773e3fd90da204faa1194460a2e5529be79416650acc112dceddd3ba", func := "loop.example/g01057/laws.FnExactSafeSpeed", spec := "fnExactSafeSpeed", unfollowed := true, recurses := true, apart := false, narrowed := true }
def FnExactSafeSpeedUptoSaid : Prop := fnExactSafeSpeedUptoRow.holds Try.pinned (OpenSpec.upto fnExactSafeSpeedSpec)

/-- 'laws.FnExactStopsOn', WHERE WHAT IT READS IS OF BULK AT MOST 1048576: true; the input reads as it did. -/
def fnExactStopsOnUptoRow : OpenClaim := { program := "ytchbhobiefidcaa", sum := "e6f06882773e3fd90da204faa1194460a2e5529be79416650acc112dceddd3ba", func := "loop.example/g01057/laws.FnExactStopsOn", spec := "fnExactStopsOn", apart := false, narrowed := true }
def FnExactStopsOnUptoSaid : Prop := fnExactStopsOnUptoRow.holds Try.pinned (OpenSpec.upto fnExactStopsOnSpec)

/-- 'laws.FnExactStopsInTime', WHERE WHAT IT READS IS OF BULK AT MOST 1048576: true; the input reads as it did. -/
def fnExactStopsInTimeUptoRow : OpenClaim := { program := "ytchbhobiefidcaa", sum := "e6f06882773e3fd90da204faa1194460a2e5529be79416650acc112dceddd3ba", func := "loop.example/g01057/laws.FnExactStopsInTime", spec := "fnExactStopsInTime", apart := false, narrowed := true }
def FnExactStopsInTimeUptoSaid : Prop := fnExactStopsInTimeUptoRow.holds Try.pinned (OpenSpec.upto fnExactStopsInTimeSpec)

/-- 'laws.FnExactFirstUnsafe', WHERE WHAT IT READS IS OF BULK AT MOST 1048576: true; the input reads as it did. -/
def fnExactFirstUnsafeUptoRow : OpenClaim := { program := "ytchbhobiefidcaa", sum := "e6f06882773e3fd90da204faa1194460a2e5529be79416650acc112dceddd3ba", func := "loop.example/g01057/laws.FnExactFirstUnsafe", spec := "fnExactFirstUnsafe", unfollowed := true, recurses := true, apart := false, narrowed := true }
def FnExactFirstUnsafeUptoSaid : Prop := fnExactFirstUnsafeUptoRow.holds Try.pinned (OpenSpec.upto fnExactFirstUnsafeSpec)

/-- 'laws.FnStops', WHERE WHAT IT READS IS OF BULK AT MOST 1048576: true; the input reads as it did. -/
def fnStopsUptoRow : OpenClaim := { program := "ytchbhobiefidcaa", sum := "e6f06882773e3fd90da204faa1194460a2e5529be79416650acc112dceddd3ba", func := "loop.example/g01057/laws.FnStops", spec := "fnStops", unfollowed := true, recurses := true, apart := false, narrowed := true }
def FnStopsUptoSaid : Prop := fnStopsUptoRow.holds Try.pinned (OpenSpec.upto fnStopsSpec)

end Rows
end Go.Proofs.Ytchbhobiefidcaa
