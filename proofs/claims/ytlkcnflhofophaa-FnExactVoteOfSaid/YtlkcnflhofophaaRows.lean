/-
  No cell of these rows narrows 'for every input' (looked for: loops, veiled, ifaces, maps, wideKeys, modest, calm, conditions, laid).
  DERIVED. THE GIVEN ROWS OF THIS SEAT. 11 by the template 'for every input the law returns true; each argument reads behind the call as it read before'; 0 by the template 'total and deterministic' (their statements: YtlkcnflhofophaaTotals.lean).
  GIVEN WITH THE SEED: the statements are not yours to turn. If you find one false, say at which input.
  Laid BY PROGRAM, IN A SANDBOX (cutbox-rows.mjs): the forced cells as the released guide's own fill.sh prints them over the translation a2dd692d921e42a6… (all of the seat's roots in one cut). By AI agents, Wed Nov 11 2026. No macro, syntax, notation, axiom, sorry.
-/
import Derived.Test.YtlkcnflhofophaaChecked
import GoSem.Claim
import GoSem.ClaimJoined
import GoSem.ClaimMapViews
import Derived.JoinedTies
import Derived.KernelRfl
namespace Go.Proofs.Ytlkcnflhofophaa
/- THE CELL 'sum', in the pinned program and in every row, IS THE sha256 OF THE DUMP (.gsa) THAT YtlkcnflhofophaaProg.lean LOADS. Nothing in Lean hashes anything: it is a label: what it is worth is what the hold of that sum in a sandbox is worth. -/
noncomputable def Try.pinned : Pinned := { name := "ytlkcnflhofophaa", sum := "a2dd692d921e42a68bb71226e2a1d9d5c1d490d4dcf01e0e525b55b286277829", checked := Try.checked }
namespace Rows
def none {H : Type} : Left H := { results := [], args := [] }

/-- 'laws.FnExactNearestSwitch': WHATEVER THE INPUT: true; the input reads as it did. -/
def fnExactNearestSwitchSpec : ChangeSpec := { name := "fnExactNearestSwitch", fn := fun _ => fun
  | [d1, d2] => { results := [.lit (.bool true)], args := [d1, d2] }
  | _ => none }
def fnExactNearestSwitchRow : OpenClaim := { program := "ytlkcnflhofophaa", sum := "a2dd692d921e42a68bb71226e2a1d9d5c1d490d4dcf01e0e525b55b286277829", func := "loop.example/g01057/laws.FnExactNearestSwitch", spec := "fnExactNearestSwitch", apart := false }
def FnExactNearestSwitchSaid : Prop := fnExactNearestSwitchRow.holds Try.pinned (OpenSpec.ofChange fnExactNearestSwitchSpec)

/-- ITS FALSE NEIGHBOUR: 'it returns false'. Refute it at one input. -/
def fnExactNearestSwitchWrong : ChangeSpec := { name := "fnExactNearestSwitch", fn := fun _ => fun
  | [d1, d2] => { results := [.lit (.bool false)], args := [d1, d2] }
  | _ => none }
def FnExactNearestSwitchWrongFalsely : Prop := fnExactNearestSwitchRow.holds Try.pinned (OpenSpec.ofChange fnExactNearestSwitchWrong)

/-- 'laws.FnExactValidPassings': WHATEVER THE INPUT: true; the input reads as it did. -/
def fnExactValidPassingsSpec : ChangeSpec := { name := "fnExactValidPassings", fn := fun _ => fun
  | [d1, d2] => { results := [.lit (.bool true)], args := [d1, d2] }
  | _ => none }
def fnExactValidPassingsRow : OpenClaim := { program := "ytlkcnflhofophaa", sum := "a2dd692d921e42a68bb71226e2a1d9d5c1d490d4dcf01e0e525b55b286277829", func := "loop.example/g01057/laws.FnExactValidPassings", spec := "fnExactValidPassings", apart := false }
def FnExactValidPassingsSaid : Prop := fnExactValidPassingsRow.holds Try.pinned (OpenSpec.ofChange fnExactValidPassingsSpec)

/-- ITS FALSE NEIGHBOUR: 'it returns false'. Refute it at one input. -/
def fnExactValidPassingsWrong : ChangeSpec := { name := "fnExactValidPassings", fn := fun _ => fun
  | [d1, d2] => { results := [.lit (.bool false)], args := [d1, d2] }
  | _ => none }
def FnExactValidPassingsWrongFalsely : Prop := fnExactValidPassingsRow.holds Try.pinned (OpenSpec.ofChange fnExactValidPassingsWrong)

/-- 'laws.FnExactOffsetOf': WHATEVER THE INPUT: true; the input reads as it did. -/
def fnExactOffsetOfSpec : ChangeSpec := { name := "fnExactOffsetOf", fn := fun _ => fun
  | [d1, d2] => { results := [.lit (.bool true)], args := [d1, d2] }
  | _ => none }
def fnExactOffsetOfRow : OpenClaim := { program := "ytlkcnflhofophaa", sum := "a2dd692d921e42a68bb71226e2a1d9d5c1d490d4dcf01e0e525b55b286277829", func := "loop.example/g01057/laws.FnExactOffsetOf", spec := "fnExactOffsetOf", unfollowed := true, recurses := true, apart := false }
def FnExactOffsetOfSaid : Prop := fnExactOffsetOfRow.holds Try.pinned (OpenSpec.ofChange fnExactOffsetOfSpec)

/-- ITS FALSE NEIGHBOUR: 'it returns false'. Refute it at one input. -/
def fnExactOffsetOfWrong : ChangeSpec := { name := "fnExactOffsetOf", fn := fun _ => fun
  | [d1, d2] => { results := [.lit (.bool false)], args := [d1, d2] }
  | _ => none }
def FnExactOffsetOfWrongFalsely : Prop := fnExactOffsetOfRow.holds Try.pinned (OpenSpec.ofChange fnExactOffsetOfWrong)

/-- 'laws.FnExactSettled': WHATEVER THE INPUT: true; the input reads as it did. -/
def fnExactSettledSpec : ChangeSpec := { name := "fnExactSettled", fn := fun _ => fun
  | [d1, d2] => { results := [.lit (.bool true)], args := [d1, d2] }
  | _ => none }
def fnExactSettledRow : OpenClaim := { program := "ytlkcnflhofophaa", sum := "a2dd692d921e42a68bb71226e2a1d9d5c1d490d4dcf01e0e525b55b286277829", func := "loop.example/g01057/laws.FnExactSettled", spec := "fnExactSettled", unfollowed := true, recurses := true, apart := false }
def FnExactSettledSaid : Prop := fnExactSettledRow.holds Try.pinned (OpenSpec.ofChange fnExactSettledSpec)

/-- ITS FALSE NEIGHBOUR: 'it returns false'. Refute it at one input. -/
def fnExactSettledWrong : ChangeSpec := { name := "fnExactSettled", fn := fun _ => fun
  | [d1, d2] => { results := [.lit (.bool false)], args := [d1, d2] }
  | _ => none }
def FnExactSettledWrongFalsely : Prop := fnExactSettledRow.holds Try.pinned (OpenSpec.ofChange fnExactSettledWrong)

/-- 'laws.FnExactVoteOf': WHATEVER THE INPUT: true; the input reads as it did. -/
def fnExactVoteOfSpec : ChangeSpec := { name := "fnExactVoteOf", fn := fun _ => fun
  | [d1, d2] => { results := [.lit (.bool true)], args := [d1, d2] }
  | _ => none }
def fnExactVoteOfRow : OpenClaim := { program := "ytlkcnflhofophaa", sum := "a2dd692d921e42a68bb71226e2a1d9d5c1d490d4dcf01e0e525b55b286277829", func := "loop.example/g01057/laws.FnExactVoteOf", spec := "fnExactVoteOf", unfollowed := true, recurses := true, apart := false }
def FnExactVoteOfSaid : Prop := fnExactVoteOfRow.holds Try.pinned (OpenSpec.ofChange fnExactVoteOfSpec)

/-- ITS FALSE NEIGHBOUR: 'it returns false'. Refute it at one input. -/
def fnExactVoteOfWrong : ChangeSpec := { name := "fnExactVoteOf", fn := fun _ => fun
  | [d1, d2] => { results := [.lit (.bool false)], args := [d1, d2] }
  | _ => none }
def FnExactVoteOfWrongFalsely : Prop := fnExactVoteOfRow.holds Try.pinned (OpenSpec.ofChange fnExactVoteOfWrong)

/-- 'laws.FnExactOddReading': WHATEVER THE INPUT: true; the input reads as it did. -/
def fnExactOddReadingSpec : ChangeSpec := { name := "fnExactOddReading", fn := fun _ => fun
  | [d1, d2] => { results := [.lit (.bool true)], args := [d1, d2] }
  | _ => none }
def fnExactOddReadingRow : OpenClaim := { program := "ytlkcnflhofophaa", sum := "a2dd692d921e42a68bb71226e2a1d9d5c1d490d4dcf01e0e525b55b286277829", func := "loop.example/g01057/laws.FnExactOddReading", spec := "fnExactOddReading", unfollowed := true, recurses := true, apart := false }
def FnExactOddReadingSaid : Prop := fnExactOddReadingRow.holds Try.pinned (OpenSpec.ofChange fnExactOddReadingSpec)

/-- ITS FALSE NEIGHBOUR: 'it returns false'. Refute it at one input. -/
def fnExactOddReadingWrong : ChangeSpec := { name := "fnExactOddReading", fn := fun _ => fun
  | [d1, d2] => { results := [.lit (.bool false)], args := [d1, d2] }
  | _ => none }
def FnExactOddReadingWrongFalsely : Prop := fnExactOddReadingRow.holds Try.pinned (OpenSpec.ofChange fnExactOddReadingWrong)

/-- 'laws.FnExactTurnsOf': WHATEVER THE INPUT: true; the input reads as it did. -/
def fnExactTurnsOfSpec : ChangeSpec := { name := "fnExactTurnsOf", fn := fun _ => fun
  | [d1, d2] => { results := [.lit (.bool true)], args := [d1, d2] }
  | _ => none }
def fnExactTurnsOfRow : OpenClaim := { program := "ytlkcnflhofophaa", sum := "a2dd692d921e42a68bb71226e2a1d9d5c1d490d4dcf01e0e525b55b286277829", func := "loop.example/g01057/laws.FnExactTurnsOf", spec := "fnExactTurnsOf", apart := false }
def FnExactTurnsOfSaid : Prop := fnExactTurnsOfRow.holds Try.pinned (OpenSpec.ofChange fnExactTurnsOfSpec)

/-- ITS FALSE NEIGHBOUR: 'it returns false'. Refute it at one input. -/
def fnExactTurnsOfWrong : ChangeSpec := { name := "fnExactTurnsOf", fn := fun _ => fun
  | [d1, d2] => { results := [.lit (.bool false)], args := [d1, d2] }
  | _ => none }
def FnExactTurnsOfWrongFalsely : Prop := fnExactTurnsOfRow.holds Try.pinned (OpenSpec.ofChange fnExactTurnsOfWrong)

/-- 'laws.FnExactPlaceAtSecond': WHATEVER THE INPUT: true; the input reads as it did. -/
def fnExactPlaceAtSecondSpec : ChangeSpec := { name := "fnExactPlaceAtSecond", fn := fun _ => fun
  | [d1, d2, d3] => { results := [.lit (.bool true)], args := [d1, d2, d3] }
  | _ => none }
def fnExactPlaceAtSecondRow : OpenClaim := { program := "ytlkcnflhofophaa", sum := "a2dd692d921e42a68bb71226e2a1d9d5c1d490d4dcf01e0e525b55b286277829", func := "loop.example/g01057/laws.FnExactPlaceAtSecond", spec := "fnExactPlaceAtSecond", apart := false }
def FnExactPlaceAtSecondSaid : Prop := fnExactPlaceAtSecondRow.holds Try.pinned (OpenSpec.ofChange fnExactPlaceAtSecondSpec)

/-- ITS FALSE NEIGHBOUR: 'it returns false'. Refute it at one input. -/
def fnExactPlaceAtSecondWrong : ChangeSpec := { name := "fnExactPlaceAtSecond", fn := fun _ => fun
  | [d1, d2, d3] => { results := [.lit (.bool false)], args := [d1, d2, d3] }
  | _ => none }
def FnExactPlaceAtSecondWrongFalsely : Prop := fnExactPlaceAtSecondRow.holds Try.pinned (OpenSpec.ofChange fnExactPlaceAtSecondWrong)

/-- 'laws.FnExactMissedSwitches': WHATEVER THE INPUT: true; the input reads as it did. -/
def fnExactMissedSwitchesSpec : ChangeSpec := { name := "fnExactMissedSwitches", fn := fun _ => fun
  | [d1, d2] => { results := [.lit (.bool true)], args := [d1, d2] }
  | _ => none }
def fnExactMissedSwitchesRow : OpenClaim := { program := "ytlkcnflhofophaa", sum := "a2dd692d921e42a68bb71226e2a1d9d5c1d490d4dcf01e0e525b55b286277829", func := "loop.example/g01057/laws.FnExactMissedSwitches", spec := "fnExactMissedSwitches", apart := false }
def FnExactMissedSwitchesSaid : Prop := fnExactMissedSwitchesRow.holds Try.pinned (OpenSpec.ofChange fnExactMissedSwitchesSpec)

/-- ITS FALSE NEIGHBOUR: 'it returns false'. Refute it at one input. -/
def fnExactMissedSwitchesWrong : ChangeSpec := { name := "fnExactMissedSwitches", fn := fun _ => fun
  | [d1, d2] => { results := [.lit (.bool false)], args := [d1, d2] }
  | _ => none }
def FnExactMissedSwitchesWrongFalsely : Prop := fnExactMissedSwitchesRow.holds Try.pinned (OpenSpec.ofChange fnExactMissedSwitchesWrong)

/-- 'laws.FnExactSpeedsBetween': WHATEVER THE INPUT: true; the input reads as it did. -/
def fnExactSpeedsBetweenSpec : ChangeSpec := { name := "fnExactSpeedsBetween", fn := fun _ => fun
  | [d1, d2] => { results := [.lit (.bool true)], args := [d1, d2] }
  | _ => none }
def fnExactSpeedsBetweenRow : OpenClaim := { program := "ytlkcnflhofophaa", sum := "a2dd692d921e42a68bb71226e2a1d9d5c1d490d4dcf01e0e525b55b286277829", func := "loop.example/g01057/laws.FnExactSpeedsBetween", spec := "fnExactSpeedsBetween", apart := false }
def FnExactSpeedsBetweenSaid : Prop := fnExactSpeedsBetweenRow.holds Try.pinned (OpenSpec.ofChange fnExactSpeedsBetweenSpec)

/-- ITS FALSE NEIGHBOUR: 'it returns false'. Refute it at one input. -/
def fnExactSpeedsBetweenWrong : ChangeSpec := { name := "fnExactSpeedsBetween", fn := fun _ => fun
  | [d1, d2] => { results := [.lit (.bool false)], args := [d1, d2] }
  | _ => none }
def FnExactSpeedsBetweenWrongFalsely : Prop := fnExactSpeedsBetweenRow.holds Try.pinned (OpenSpec.ofChange fnExactSpeedsBetweenWrong)

/-- 'laws.FnExactTooFast': WHATEVER THE INPUT: true; the input reads as it did. -/
def fnExactTooFastSpec : ChangeSpec := { name := "fnExactTooFast", fn := fun _ => fun
  | [d1, d2, d3] => { results := [.lit (.bool true)], args := [d1, d2, d3] }
  | _ => none }
def fnExactTooFastRow : OpenClaim := { program := "ytlkcnflhofophaa", sum := "a2dd692d921e42a68bb71226e2a1d9d5c1d490d4dcf01e0e525b55b286277829", func := "loop.example/g01057/laws.FnExactTooFast", spec := "fnExactTooFast", apart := false }
def FnExactTooFastSaid : Prop := fnExactTooFastRow.holds Try.pinned (OpenSpec.ofChange fnExactTooFastSpec)

/-- ITS FALSE NEIGHBOUR: 'it returns false'. Refute it at one input. -/
def fnExactTooFastWrong : ChangeSpec := { name := "fnExactTooFast", fn := fun _ => fun
  | [d1, d2, d3] => { results := [.lit (.bool false)], args := [d1, d2, d3] }
  | _ => none }
def FnExactTooFastWrongFalsely : Prop := fnExactTooFastRow.holds Try.pinned (OpenSpec.ofChange fnExactTooFastWrong)

/- THE SECOND FORM. 'bulk': how many values and letters a reading holds, each counted each time it is reached (what is shared counts as often as it is met; a slice's spare places count too). A statement '..UptoSaid' is the law's where the arguments, and the package variables that the reading takes, are together of bulk at most 1048576: NARROWER than '..Said'. Prove '..Said' where nothing that the law and all that it calls make is longer than what came in: it says more and counts as full. Else prove '..UptoSaid'. A law counts once. -/
mutual
def uptoBulk {H : Type} : DataW H → Nat
  | .lit (.string bytes) => bytes.length + 1
  | .lit _ => 1
  | .nil => 1
  | .ptr d => uptoBulk d + 1
  | .slice elems spare => uptoBulkAll elems + uptoBulkAll spare + 1
  | .agg parts => uptoBulkAll parts + 1
  | .iface _ d => uptoBulk d + 1
  | .map entries => uptoBulkEntries entries + 1
  | .held _ => 1
def uptoBulkAll {H : Type} : List (DataW H) → Nat
  | [] => 0
  | d :: r => uptoBulk d + uptoBulkAll r
def uptoBulkEntries {H : Type} : List (Lit × DataW H) → Nat
  | [] => 0
  | x :: r => uptoBulkEntry x + uptoBulkEntries r
def uptoBulkEntry {H : Type} : Lit × DataW H → Nat
  | (.string bytes, d) => bytes.length + uptoBulk d + 1
  | (_, d) => uptoBulk d + 1
 end
def uptoSmall : (H : Type) → List (DataW H) → Bool := fun _ ds => decide (uptoBulkAll ds ≤ 1048576)
def OpenSpec.upto (s : _root_.Go.ChangeSpec) : _root_.Go.OpenSpec := { _root_.Go.OpenSpec.ofChange s with cond := some uptoSmall }

/-- 'laws.FnExactNearestSwitch', WHERE WHAT IT READS IS OF BULK AT MOST 1048576: true; the input reads as it did. -/
def fnExactNearestSwitchUptoRow : OpenClaim := { program := "ytlkcnflhofophaa", sum := "a2dd692d921e42a68bb71226e2a1d9d5c1d490d4dcf01e0e525b55b286277829", func := "loop.example/g01057/laws.FnExactNearestSwitch", spec := "fnExactNearestSwitch", apart := false, narrowed := true }
def FnExactNearestSwitchUptoSaid : Prop := fnExactNearestSwitchUptoRow.holds Try.pinned (OpenSpec.upto fnExactNearestSwitchSpec)

/-- 'laws.FnExactValidPassings', WHERE WHAT IT READS IS OF BULK AT MOST 1048576: true; the input reads as it did. -/
def fnExactValidPassingsUptoRow : OpenClaim := { program := "ytlkcnflhofophaa", sum := "a2dd692d921e42a68bb71226e2a1d9d5c1d490d4dcf01e0e525b55b286277829", func := "loop.example/g01057/laws.FnExactValidPassings", spec := "fnExactValidPassings", apart := false, narrowed := true }
def FnExactValidPassingsUptoSaid : Prop := fnExactValidPassingsUptoRow.holds Try.pinned (OpenSpec.upto fnExactValidPassingsSpec)

/-- 'laws.FnExactOffsetOf', WHERE WHAT IT READS IS OF BULK AT MOST 1048576: true; the input reads as it did. -/
def fnExactOffsetOfUptoRow : OpenClaim := { program := "ytlkcnflhofophaa", sum := "a2dd692d921e42a68bb71226e2a1d9d5c1d490d4dcf01e0e525b55b286277829", func := "loop.example/g01057/laws.FnExactOffsetOf", spec := "fnExactOffsetOf", unfollowed := true, recurses := true, apart := false, narrowed := true }
def FnExactOffsetOfUptoSaid : Prop := fnExactOffsetOfUptoRow.holds Try.pinned (OpenSpec.upto fnExactOffsetOfSpec)

/-- 'laws.FnExactSettled', WHERE WHAT IT READS IS OF BULK AT MOST 1048576: true; the input reads as it did. -/
def fnExactSettledUptoRow : OpenClaim := { program := "ytlkcnflhofophaa", sum := "a2dd692d921e42a68bb71226e2a1d9d5c1d490d4dcf01e0e525b55b286277829", func := "loop.example/g01057/laws.FnExactSettled", spec := "fnExactSettled", unfollowed := true, recurses := true, apart := false, narrowed := true }
def FnExactSettledUptoSaid : Prop := fnExactSettledUptoRow.holds Try.pinned (OpenSpec.upto fnExactSettledSpec)

/-- 'laws.FnExactVoteOf', WHERE WHAT IT READS IS OF BULK AT MOST 1048576: true; the input reads as it did. -/
def fnExactVoteOfUptoRow : OpenClaim := { program := "ytlkcnflhofophaa", sum := "a2dd692d921e42a68bb71226e2a1d9d5c1d490d4dcf01e0e525b55b286277829", func := "loop.example/g01057/laws.FnExactVoteOf", spec := "fnExactVoteOf", unfollowed := true, recurses := true, apart := false, narrowed := true }
def FnExactVoteOfUptoSaid : Prop := fnExactVoteOfUptoRow.holds Try.pinned (OpenSpec.upto fnExactVoteOfSpec)

/-- 'laws.FnExactOddReading', WHERE WHAT IT READS IS OF BULK AT MOST 1048576: true; the input reads as it did. -/
def fnExactOddReadingUptoRow : OpenClaim := { program := "ytlkcnflhofophaa", sum := "a2dd692d921e42a68bb71226e2a1d9d5c1d490d4dcf01e0e525b55b286277829", func := "loop.example/g01057/laws.FnExactOddReading", spec := "fnExactOddReading", unfollowed := true, recurses := true, apart := false, narrowed := true }
def FnExactOddReadingUptoSaid : Prop := fnExactOddReadingUptoRow.holds Try.pinned (OpenSpec.upto fnExactOddReadingSpec)

/-- 'laws.FnExactTurnsOf', WHERE WHAT IT READS IS OF BULK AT MOST 1048576: true; the input reads as it did. -/
def fnExactTurnsOfUptoRow : OpenClaim := { program := "ytlkcnflhofophaa", sum := "a2dd692d921e42a68bb71226e2a1d9d5c1d490d4dcf01e0e525b55b286277829", func := "loop.example/g01057/laws.FnExactTurnsOf", spec := "fnExactTurnsOf", apart := false, narrowed := true }
def FnExactTurnsOfUptoSaid : Prop := fnExactTurnsOfUptoRow.holds Try.pinned (OpenSpec.upto fnExactTurnsOfSpec)

/-- 'laws.FnExactPlaceAtSecond', WHERE WHAT IT READS IS OF BULK AT MOST 1048576: true; the input reads as it did. -/
def fnExactPlaceAtSecondUptoRow : OpenClaim := { program := "ytlkcnflhofophaa", sum := "a2dd692d921e42a68bb71226e2a1d9d5c1d490d4dcf01e0e525b55b286277829", func := "loop.example/g01057/laws.FnExactPlaceAtSecond", spec := "fnExactPlaceAtSecond", apart := false, narrowed := true }
def FnExactPlaceAtSecondUptoSaid : Prop := fnExactPlaceAtSecondUptoRow.holds Try.pinned (OpenSpec.upto fnExactPlaceAtSecondSpec)

/-- 'laws.FnExactMissedSwitches', WHERE WHAT IT READS IS OF BULK AT MOST 1048576: true; the input reads as it did. -/
def fnExactMissedSwitchesUptoRow : OpenClaim := { program := "ytlkcnflhofophaa", sum := "a2dd692d921e42a68bb71226e2a1d9d5c1d490d4dcf01e0e525b55b286277829", func := "loop.example/g01057/laws.FnExactMissedSwitches", spec := "fnExactMissedSwitches", apart := false, narrowed := true }
def FnExactMissedSwitchesUptoSaid : Prop := fnExactMissedSwitchesUptoRow.holds Try.pinned (OpenSpec.upto fnExactMissedSwitchesSpec)

/-- 'laws.FnExactSpeedsBetween', WHERE WHAT IT READS IS OF BULK AT MOST 1048576: true; the input reads as it did. -/
def fnExactSpeedsBetweenUptoRow : OpenClaim := { program := "ytlkcnflhofophaa", sum := "a2dd692d921e42a68bb71226e2a1d9d5c1d490d4dcf01e0e525b55b286277829", func := "loop.example/g01057/laws.FnExactSpeedsBetween", spec := "fnExactSpeedsBetween", apart := false, narrowed := true }
def FnExactSpeedsBetweenUptoSaid : Prop := fnExactSpeedsBetweenUptoRow.holds Try.pinned (OpenSpec.upto fnExactSpeedsBetweenSpec)

/-- 'laws.FnExactTooFast', WHERE WHAT IT READS IS OF BULK AT MOST 1048576: true; the input reads as it did. -/
def fnExactTooFastUptoRow : OpenClaim := { program := "ytlkcnflhofophaa", sum := "a2dd692d921e42a68bb71226e2a1d9d5c1d490d4dcf01e0e525b55b286277829", func := "loop.example/g01057/laws.FnExactTooFast", spec := "fnExactTooFast", apart := false, narrowed := true }
def FnExactTooFastUptoSaid : Prop := fnExactTooFastUptoRow.holds Try.pinned (OpenSpec.upto fnExactTooFastSpec)

end Rows
end Go.Proofs.Ytlkcnflhofophaa
