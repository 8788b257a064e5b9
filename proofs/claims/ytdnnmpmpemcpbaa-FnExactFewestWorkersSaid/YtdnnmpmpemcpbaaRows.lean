/-
  No cell of these rows narrows 'for every input' (looked for: loops, veiled, ifaces, maps, wideKeys, modest, calm, conditions, laid).
  DERIVED. THE GIVEN ROWS OF THIS SEAT. 6 by the template 'for every input the law returns true; each argument reads behind the call as it read before'; 0 by the template 'total and deterministic' (their statements: YtdnnmpmpemcpbaaTotals.lean).
  GIVEN WITH THE SEED: the statements are not yours to turn. If you find one false, say at which input.
  Laid BY PROGRAM, IN A SANDBOX (cutbox-rows.mjs): the forced cells as the released guide's own fill.sh prints them over the translation 3ec3e0105baacce9… (all of the seat's roots in one cut). By AI agents, Wed Nov 11 2026. No macro, syntax, notation, axiom, sorry.
-/
import Derived.Test.YtdnnmpmpemcpbaaChecked
import GoSem.Claim
import GoSem.ClaimJoined
import GoSem.ClaimMapViews
import Derived.JoinedTies
import Derived.KernelRfl
namespace Go.Proofs.Ytdnnmpmpemcpbaa
/- THE CELL 'sum', in the pinned program and in every row, IS THE sha256 OF THE DUMP (.gsa) THAT YtdnnmpmpemcpbaaProg.lean LOADS. Nothing in Lean hashes anything: it is a label: what it is worth is what the hold of that sum in a sandbox is worth. -/
noncomputable def Try.pinned : Pinned := { name := "ytdnnmpmpemcpbaa", sum := "3ec3e0105baacce9de110ecd1af284c283cbc059943a6f4bc75d3e28990d8c4f", checked := Try.checked }
namespace Rows
def none {H : Type} : Left H := { results := [], args := [] }

/-- 'laws.FnExactDoorRun': WHATEVER THE INPUT: true; the input reads as it did. -/
def fnExactDoorRunSpec : ChangeSpec := { name := "fnExactDoorRun", fn := fun _ => fun
  | [d1, d2] => { results := [.lit (.bool true)], args := [d1, d2] }
  | _ => none }
def fnExactDoorRunRow : OpenClaim := { program := "ytdnnmpmpemcpbaa", sum := "3ec3e0105baacce9de110ecd1af284c283cbc059943a6f4bc75d3e28990d8c4f", func := "loop.example/g01057/laws.FnExactDoorRun", spec := "fnExactDoorRun", unfollowed := true, recurses := true, apart := false }
def FnExactDoorRunSaid : Prop := fnExactDoorRunRow.holds Try.pinned (OpenSpec.ofChange fnExactDoorRunSpec)

/-- ITS FALSE NEIGHBOUR: 'it returns false'. Refute it at one input. -/
def fnExactDoorRunWrong : ChangeSpec := { name := "fnExactDoorRun", fn := fun _ => fun
  | [d1, d2] => { results := [.lit (.bool false)], args := [d1, d2] }
  | _ => none }
def FnExactDoorRunWrongFalsely : Prop := fnExactDoorRunRow.holds Try.pinned (OpenSpec.ofChange fnExactDoorRunWrong)

/-- 'laws.FnExactRefusedEvents': WHATEVER THE INPUT: true; the input reads as it did. -/
def fnExactRefusedEventsSpec : ChangeSpec := { name := "fnExactRefusedEvents", fn := fun _ => fun
  | [d1, d2] => { results := [.lit (.bool true)], args := [d1, d2] }
  | _ => none }
def fnExactRefusedEventsRow : OpenClaim := { program := "ytdnnmpmpemcpbaa", sum := "3ec3e0105baacce9de110ecd1af284c283cbc059943a6f4bc75d3e28990d8c4f", func := "loop.example/g01057/laws.FnExactRefusedEvents", spec := "fnExactRefusedEvents", unfollowed := true, recurses := true, apart := false }
def FnExactRefusedEventsSaid : Prop := fnExactRefusedEventsRow.holds Try.pinned (OpenSpec.ofChange fnExactRefusedEventsSpec)

/-- ITS FALSE NEIGHBOUR: 'it returns false'. Refute it at one input. -/
def fnExactRefusedEventsWrong : ChangeSpec := { name := "fnExactRefusedEvents", fn := fun _ => fun
  | [d1, d2] => { results := [.lit (.bool false)], args := [d1, d2] }
  | _ => none }
def FnExactRefusedEventsWrongFalsely : Prop := fnExactRefusedEventsRow.holds Try.pinned (OpenSpec.ofChange fnExactRefusedEventsWrong)

/-- 'laws.FnExactValidWorkers': WHATEVER THE INPUT: true; the input reads as it did. -/
def fnExactValidWorkersSpec : ChangeSpec := { name := "fnExactValidWorkers", fn := fun _ => fun
  | [d] => { results := [.lit (.bool true)], args := [d] }
  | _ => none }
def fnExactValidWorkersRow : OpenClaim := { program := "ytdnnmpmpemcpbaa", sum := "3ec3e0105baacce9de110ecd1af284c283cbc059943a6f4bc75d3e28990d8c4f", func := "loop.example/g01057/laws.FnExactValidWorkers", spec := "fnExactValidWorkers", apart := false }
def FnExactValidWorkersSaid : Prop := fnExactValidWorkersRow.holds Try.pinned (OpenSpec.ofChange fnExactValidWorkersSpec)

/-- ITS FALSE NEIGHBOUR: 'it returns false'. Refute it at one input. -/
def fnExactValidWorkersWrong : ChangeSpec := { name := "fnExactValidWorkers", fn := fun _ => fun
  | [d] => { results := [.lit (.bool false)], args := [d] }
  | _ => none }
def FnExactValidWorkersWrongFalsely : Prop := fnExactValidWorkersRow.holds Try.pinned (OpenSpec.ofChange fnExactValidWorkersWrong)

/-- 'laws.FnExactWorkersAt': WHATEVER THE INPUT: true; the input reads as it did. -/
def fnExactWorkersAtSpec : ChangeSpec := { name := "fnExactWorkersAt", fn := fun _ => fun
  | [d1, d2] => { results := [.lit (.bool true)], args := [d1, d2] }
  | _ => none }
def fnExactWorkersAtRow : OpenClaim := { program := "ytdnnmpmpemcpbaa", sum := "3ec3e0105baacce9de110ecd1af284c283cbc059943a6f4bc75d3e28990d8c4f", func := "loop.example/g01057/laws.FnExactWorkersAt", spec := "fnExactWorkersAt", apart := false }
def FnExactWorkersAtSaid : Prop := fnExactWorkersAtRow.holds Try.pinned (OpenSpec.ofChange fnExactWorkersAtSpec)

/-- ITS FALSE NEIGHBOUR: 'it returns false'. Refute it at one input. -/
def fnExactWorkersAtWrong : ChangeSpec := { name := "fnExactWorkersAt", fn := fun _ => fun
  | [d1, d2] => { results := [.lit (.bool false)], args := [d1, d2] }
  | _ => none }
def FnExactWorkersAtWrongFalsely : Prop := fnExactWorkersAtRow.holds Try.pinned (OpenSpec.ofChange fnExactWorkersAtWrong)

/-- 'laws.FnExactFewestWorkers': WHATEVER THE INPUT: true; the input reads as it did. -/
def fnExactFewestWorkersSpec : ChangeSpec := { name := "fnExactFewestWorkers", fn := fun _ => fun
  | [d1, d2, d3] => { results := [.lit (.bool true)], args := [d1, d2, d3] }
  | _ => none }
def fnExactFewestWorkersRow : OpenClaim := { program := "ytdnnmpmpemcpbaa", sum := "3ec3e0105baacce9de110ecd1af284c283cbc059943a6f4bc75d3e28990d8c4f", func := "loop.example/g01057/laws.FnExactFewestWorkers", spec := "fnExactFewestWorkers", apart := false }
def FnExactFewestWorkersSaid : Prop := fnExactFewestWorkersRow.holds Try.pinned (OpenSpec.ofChange fnExactFewestWorkersSpec)

/-- ITS FALSE NEIGHBOUR: 'it returns false'. Refute it at one input. -/
def fnExactFewestWorkersWrong : ChangeSpec := { name := "fnExactFewestWorkers", fn := fun _ => fun
  | [d1, d2, d3] => { results := [.lit (.bool false)], args := [d1, d2, d3] }
  | _ => none }
def FnExactFewestWorkersWrongFalsely : Prop := fnExactFewestWorkersRow.holds Try.pinned (OpenSpec.ofChange fnExactFewestWorkersWrong)

/-- 'laws.FnExactAloneMinutes': WHATEVER THE INPUT: true; the input reads as it did. -/
def fnExactAloneMinutesSpec : ChangeSpec := { name := "fnExactAloneMinutes", fn := fun _ => fun
  | [d1, d2, d3, d4] => { results := [.lit (.bool true)], args := [d1, d2, d3, d4] }
  | _ => none }
def fnExactAloneMinutesRow : OpenClaim := { program := "ytdnnmpmpemcpbaa", sum := "3ec3e0105baacce9de110ecd1af284c283cbc059943a6f4bc75d3e28990d8c4f", func := "loop.example/g01057/laws.FnExactAloneMinutes", spec := "fnExactAloneMinutes", apart := false }
def FnExactAloneMinutesSaid : Prop := fnExactAloneMinutesRow.holds Try.pinned (OpenSpec.ofChange fnExactAloneMinutesSpec)

/-- ITS FALSE NEIGHBOUR: 'it returns false'. Refute it at one input. -/
def fnExactAloneMinutesWrong : ChangeSpec := { name := "fnExactAloneMinutes", fn := fun _ => fun
  | [d1, d2, d3, d4] => { results := [.lit (.bool false)], args := [d1, d2, d3, d4] }
  | _ => none }
def FnExactAloneMinutesWrongFalsely : Prop := fnExactAloneMinutesRow.holds Try.pinned (OpenSpec.ofChange fnExactAloneMinutesWrong)

/- THE SECOND FORM. 'bulk': how many values and letters a reading holds, each counted each time it is reached (what is shared counts as often as it is met; a slice's spare places count too). A statement '..UptoSaid' is the law's where the arguments, and the package variables that the reading takes, are together of bulk at most 1048576: NARROWER than '..Said'. Prove '..Said' where nothing that the law and all that it calls make is longer than what came in: it says more and counts as full. Else prove '..UptoSaid'. A law counts once. -/
mutual
def uptoBulk {H : Type} : DataW H → Nat
  | .lit (.string bytes) => bytes.length + 1
  | .lit _ => 1
  | .nil => 1
  | .ptr d => uptoBulk d + 1
  | .slice elems spare => uptoBulkAll elems + uptoBulkAll spare + 1
  | .agg parts => uptoBulkAll parts + 1
  | .iface _ d => uptoBulk d + 1
  | .map entries => uptoBulkEntries entries + 1
  | .held _ => 1
def uptoBulkAll {H : Type} : List (DataW H) → Nat
  | [] => 0
  | d :: r => uptoBulk d + uptoBulkAll r
def uptoBulkEntries {H : Type} : List (Lit × DataW H) → Nat
  | [] => 0
  | x :: r => uptoBulkEntry x + uptoBulkEntries r
def uptoBulkEntry {H : Type} : Lit × DataW H → Nat
  | (.string bytes, d) => bytes.length + uptoBulk d + 1
  | (_, d) => uptoBulk d + 1
 end
def uptoSmall : (H : Type) → List (DataW H) → Bool := fun _ ds => decide (uptoBulkAll ds ≤ 1048576)
def OpenSpec.upto (s : _root_.Go.ChangeSpec) : _root_.Go.OpenSpec := { _root_.Go.OpenSpec.ofChange s with cond := some uptoSmall }

/-- 'laws.FnExactDoorRun', WHERE WHAT IT READS IS OF BULK AT MOST 1048576: true; the input reads as it did. -/
def fnExactDoorRunUptoRow : OpenClaim := { program := "ytdnnmpmpemcpbaa", sum := "3ec3e0105baacce9de110ecd1af284c283cbc059943a6f4bc75d3e28990d8c4f", func := "loop.example/g01057/laws.FnExactDoorRun", spec := "fnExactDoorRun", unfollowed := true, recurses := true, apart := false, narrowed := true }
def FnExactDoorRunUptoSaid : Prop := fnExactDoorRunUptoRow.holds Try.pinned (OpenSpec.upto fnExactDoorRunSpec)

/-- 'laws.FnExactRefusedEvents', WHERE WHAT IT READS IS OF BULK AT MOST 1048576: true; the input reads as it did. -/
def fnExactRefusedEventsUptoRow : OpenClaim := { program := "ytdnnmpmpemcpbaa", sum := "3ec3e0105baacce9de110ecd1af284c283cbc059943a6f4bc75d3e28990d8c4f", func := "loop.example/g01057/laws.FnExactRefusedEvents", spec := "fnExactRefusedEvents", unfollowed := true, recurses := true, apart := false, narrowed := true }
def FnExactRefusedEventsUptoSaid : Prop := fnExactRefusedEventsUptoRow.holds Try.pinned (OpenSpec.upto fnExactRefusedEventsSpec)

/-- 'laws.FnExactValidWorkers', WHERE WHAT IT READS IS OF BULK AT MOST 1048576: true; the input reads as it did. -/
def fnExactValidWorkersUptoRow : OpenClaim := { program := "ytdnnmpmpemcpbaa", sum := "3ec3e0105baacce9de110ecd1af284c283cbc059943a6f4bc75d3e28990d8c4f", func := "loop.example/g01057/laws.FnExactValidWorkers", spec := "fnExactValidWorkers", apart := false, narrowed := true }
def FnExactValidWorkersUptoSaid : Prop := fnExactValidWorkersUptoRow.holds Try.pinned (OpenSpec.upto fnExactValidWorkersSpec)

/-- 'laws.FnExactWorkersAt', WHERE WHAT IT READS IS OF BULK AT MOST 1048576: true; the input reads as it did. -/
def fnExactWorkersAtUptoRow : OpenClaim := { program := "ytdnnmpmpemcpbaa", sum := "3ec3e0105baacce9de110ecd1af284c283cbc059943a6f4bc75d3e28990d8c4f", func := "loop.example/g01057/laws.FnExactWorkersAt", spec := "fnExactWorkersAt", apart := false, narrowed := true }
def FnExactWorkersAtUptoSaid : Prop := fnExactWorkersAtUptoRow.holds Try.pinned (OpenSpec.upto fnExactWorkersAtSpec)

/-- 'laws.FnExactFewestWorkers', WHERE WHAT IT READS IS OF BULK AT MOST 1048576: true; the input reads as it did. -/
def fnExactFewestWorkersUptoRow : OpenClaim := { program := "ytdnnmpmpemcpbaa", sum := "3ec3e0105baacce9de110ecd1af284c283cbc059943a6f4bc75d3e28990d8c4f", func := "loop.example/g01057/laws.FnExactFewestWorkers", spec := "fnExactFewestWorkers", apart := false, narrowed := true }
def FnExactFewestWorkersUptoSaid : Prop := fnExactFewestWorkersUptoRow.holds Try.pinned (OpenSpec.upto fnExactFewestWorkersSpec)

/-- 'laws.FnExactAloneMinutes', WHERE WHAT IT READS IS OF BULK AT MOST 1048576: true; the input reads as it did. -/
def fnExactAloneMinutesUptoRow : OpenClaim := { program := "ytdnnmpmpemcpbaa", sum := "3ec3e0105baacce9de110ecd1af284c283cbc059943a6f4bc75d3e28990d8c4f", func := "loop.example/g01057/laws.FnExactAloneMinutes", spec := "fnExactAloneMinutes", apart := false, narrowed := true }
def FnExactAloneMinutesUptoSaid : Prop := fnExactAloneMinutesUptoRow.holds Try.pinned (OpenSpec.upto fnExactAloneMinutesSpec)

end Rows
end Go.Proofs.Ytdnnmpmpemcpbaa
