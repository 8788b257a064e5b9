/-
  No cell of these rows narrows 'for every input' (looked for: loops, veiled, ifaces, maps, wideKeys, modest, calm, conditions, laid).
  DERIVED. THE GIVEN ROWS OF THIS SEAT. 4 by the template 'for every input the law returns true; each argument reads behind the call as it read before'; 0 by the template 'total and deterministic' (their statements: YtjfpiadjbhnljaaTotals.lean).
  GIVEN WITH THE SEED: the statements are not yours to turn. If you find one false, say at which input.
  Laid BY PROGRAM, IN A SANDBOX (cutbox-rows.mjs): the forced cells as the released guide's own fill.sh prints them over the translation b49010680b67a7ad… (all of the seat's roots in one cut). By AI agents, Wed Nov 11 2026. No macro, syntax, notation, axiom, sorry.
-/
import Derived.Test.YtjfpiadjbhnljaaChecked
import GoSem.Claim
import GoSem.ClaimJoined
import GoSem.ClaimMapViews
import Derived.JoinedTies
import Derived.KernelRfl
namespace Go.Proofs.Ytjfpiadjbhnljaa
/- THE CELL 'sum', in the pinned program and in every row, IS THE sha256 OF THE DUMP (.gsa) THAT YtjfpiadjbhnljaaProg.lean LOADS. Nothing in Lean hashes anything: it is a label: what it is worth is what the hold of that sum in a sandbox is worth. -/
noncomputable def Try.pinned : Pinned := { name := "ytjfpiadjbhnljaa", sum := "b49010680b67a7ad1d72a6188a4ac421914dc4b0c58b8ba45685475d8c9f1fb0", checked := Try.checked }
namespace Rows
def none {H : Type} : Left H := { results := [], args := [] }

/-- 'laws.FnExactReadState': WHATEVER THE INPUT: true; the input reads as it did. -/
def fnExactReadStateSpec : ChangeSpec := { name := "fnExactReadState", fn := fun _ => fun
  | [d] => { results := [.lit (.bool true)], args := [d] }
  | _ => none }
def fnExactReadStateRow : OpenClaim := { program := "ytjfpiadjbhnljaa", sum := "b49010680b67a7ad1d72a6188a4ac421914dc4b0c58b8ba45685475d8c9f1fb0", func := "loop.example/g01057/laws.FnExactReadState", spec := "fnExactReadState", inPlace := ["internal/bytealg.IndexByteString", "internal/bytealg.IndexString"], named := ["internal/bytealg.MaxLen"], apart := false }
def FnExactReadStateSaid : Prop := fnExactReadStateRow.holds Try.pinned (OpenSpec.ofChange fnExactReadStateSpec)

/-- ITS FALSE NEIGHBOUR: 'it returns false'. Refute it at one input. -/
def fnExactReadStateWrong : ChangeSpec := { name := "fnExactReadState", fn := fun _ => fun
  | [d] => { results := [.lit (.bool false)], args := [d] }
  | _ => none }
def FnExactReadStateWrongFalsely : Prop := fnExactReadStateRow.holds Try.pinned (OpenSpec.ofChange fnExactReadStateWrong)

/-- 'laws.FnExactAllSafe': WHATEVER THE INPUT: true; the input reads as it did. -/
def fnExactAllSafeSpec : ChangeSpec := { name := "fnExactAllSafe", fn := fun _ => fun
  | [d] => { results := [.lit (.bool true)], args := [d] }
  | _ => none }
def fnExactAllSafeRow : OpenClaim := { program := "ytjfpiadjbhnljaa", sum := "b49010680b67a7ad1d72a6188a4ac421914dc4b0c58b8ba45685475d8c9f1fb0", func := "loop.example/g01057/laws.FnExactAllSafe", spec := "fnExactAllSafe", unfollowed := true, recurses := true, apart := false }
def FnExactAllSafeSaid : Prop := fnExactAllSafeRow.holds Try.pinned (OpenSpec.ofChange fnExactAllSafeSpec)

/-- ITS FALSE NEIGHBOUR: 'it returns false'. Refute it at one input. -/
def fnExactAllSafeWrong : ChangeSpec := { name := "fnExactAllSafe", fn := fun _ => fun
  | [d] => { results := [.lit (.bool false)], args := [d] }
  | _ => none }
def FnExactAllSafeWrongFalsely : Prop := fnExactAllSafeRow.holds Try.pinned (OpenSpec.ofChange fnExactAllSafeWrong)

/-- 'laws.FnExactFirstUnsafeState': WHATEVER THE INPUT: true; the input reads as it did. -/
def fnExactFirstUnsafeStateSpec : ChangeSpec := { name := "fnExactFirstUnsafeState", fn := fun _ => fun
  | [d] => { results := [.lit (.bool true)], args := [d] }
  | _ => none }
def fnExactFirstUnsafeStateRow : OpenClaim := { program := "ytjfpiadjbhnljaa", sum := "b49010680b67a7ad1d72a6188a4ac421914dc4b0c58b8ba45685475d8c9f1fb0", func := "loop.example/g01057/laws.FnExactFirstUnsafeState", spec := "fnExactFirstUnsafeState", unfollowed := true, recurses := true, apart := false }
def FnExactFirstUnsafeStateSaid : Prop := fnExactFirstUnsafeStateRow.holds Try.pinned (OpenSpec.ofChange fnExactFirstUnsafeStateSpec)

/-- ITS FALSE NEIGHBOUR: 'it returns false'. Refute it at one input. -/
def fnExactFirstUnsafeStateWrong : ChangeSpec := { name := "fnExactFirstUnsafeState", fn := fun _ => fun
  | [d] => { results := [.lit (.bool false)], args := [d] }
  | _ => none }
def FnExactFirstUnsafeStateWrongFalsely : Prop := fnExactFirstUnsafeStateRow.holds Try.pinned (OpenSpec.ofChange fnExactFirstUnsafeStateWrong)

/-- 'laws.FnController': WHATEVER THE INPUT: true; the input reads as it did. -/
def fnControllerSpec : ChangeSpec := { name := "fnController", fn := fun _ => fun
  | [d1, d2] => { results := [.lit (.bool true)], args := [d1, d2] }
  | _ => none }
def fnControllerRow : OpenClaim := { program := "ytjfpiadjbhnljaa", sum := "b49010680b67a7ad1d72a6188a4ac421914dc4b0c58b8ba45685475d8c9f1fb0", func := "loop.example/g01057/laws.FnController", spec := "fnController", unfollowed := true, recurses := true, apart := false }
def FnControllerSaid : Prop := fnControllerRow.holds Try.pinned (OpenSpec.ofChange fnControllerSpec)

/-- ITS FALSE NEIGHBOUR: 'it returns false'. Refute it at one input. -/
def fnControllerWrong : ChangeSpec := { name := "fnController", fn := fun _ => fun
  | [d1, d2] => { results := [.lit (.bool false)], args := [d1, d2] }
  | _ => none }
def FnControllerWrongFalsely : Prop := fnControllerRow.holds Try.pinned (OpenSpec.ofChange fnControllerWrong)

/- THE SECOND FORM. 'bulk': how many values and letters a reading holds, each counted each time it is reached (what is shared counts as often as it is met; a slice's spare places count too). A statement '..UptoSaid' is the law's where the arguments, and the package variables that the reading takes, are together of bulk at most 1048576: NARROWER than '..Said'. Prove '..Said' where nothing that the law and all that it calls make is longer than what came in: it says more and counts as full. Else prove '..UptoSaid'. A law counts once. -/
mutual
def uptoBulk {H : Type} : DataW H → Nat
  | .lit (.string bytes) => bytes.length + 1
  | .lit _ => 1
  | .nil => 1
  | .ptr d => uptoBulk d + 1
  | .slice elems spare => uptoBulkAll elems + uptoBulkAll spare + 1
  | .agg parts => uptoBulkAll parts + 1
  | .iface _ d => uptoBulk d + 1
  | .map entries => uptoBulkEntries entries + 1
  | .held _ => 1
def uptoBulkAll {H : Type} : List (DataW H) → Nat
  | [] => 0
  | d :: r => uptoBulk d + uptoBulkAll r
def uptoBulkEntries {H : Type} : List (Lit × DataW H) → Nat
  | [] => 0
  | x :: r => uptoBulkEntry x + uptoBulkEntries r
def uptoBulkEntry {H : Type} : Lit × DataW H → Nat
  | (.string bytes, d) => bytes.length + uptoBulk d + 1
  | (_, d) => uptoBulk d + 1
 end
def uptoSmall : (H : Type) → List (DataW H) → Bool := fun _ ds => decide (uptoBulkAll ds ≤ 1048576)
def OpenSpec.upto (s : _root_.Go.ChangeSpec) : _root_.Go.OpenSpec := { _root_.Go.OpenSpec.ofChange s with cond := some uptoSmall }

/-- 'laws.FnExactReadState', WHERE WHAT IT READS IS OF BULK AT MOST 1048576: true; the input reads as it did. -/
def fnExactReadStateUptoRow : OpenClaim := { program := "ytjfpiadjbhnljaa", sum := "b49010680b67a7ad1d72a6188a4ac421914dc4b0c58b8ba45685475d8c9f1fb0", func := "loop.example/g01057/laws.FnExactReadState", spec := "fnExactReadState", inPlace := ["internal/bytealg.IndexByteString", "internal/bytealg.IndexString"], named := ["internal/bytealg.MaxLen"], apart := false, narrowed := true }
def FnExactReadStateUptoSaid : Prop := fnExactReadStateUptoRow.holds Try.pinned (OpenSpec.upto fnExactReadStateSpec)

/-- 'laws.FnExactAllSafe', WHERE WHAT IT READS IS OF BULK AT MOST 1048576: true; the input reads as it did. -/
def fnExactAllSafeUptoRow : OpenClaim := { program := "ytjfpiadjbhnljaa", sum := "b49010680b67a7ad1d72a6188a4ac421914dc4b0c58b8ba45685475d8c9f1fb0", func := "loop.example/g01057/laws.FnExactAllSafe", spec := "fnExactAllSafe", unfollowed := true, recurses := true, apart := false, narrowed := true }
def FnExactAllSafeUptoSaid : Prop := fnExactAllSafeUptoRow.holds Try.pinned (OpenSpec.upto fnExactAllSafeSpec)

/-- 'laws.FnExactFirstUnsafeState', WHERE WHAT IT READS IS OF BULK AT MOST 1048576: true; the input reads as it did. -/
def fnExactFirstUnsafeStateUptoRow : OpenClaim := { program := "ytjfpiadjbhnljaa", sum := "b49010680b67a7ad1d72a6188a4ac421914dc4b0c58b8ba45685475d8c9f1fb0", func := "loop.example/g01057/laws.FnExactFirstUnsafeState", spec := "fnExactFirstUnsafeState", unfollowed := true, recurses := true, apart := false, narrowed := true }
def FnExactFirstUnsafeStateUptoSaid : Prop := fnExactFirstUnsafeStateUptoRow.holds Try.pinned (OpenSpec.upto fnExactFirstUnsafeStateSpec)

/-- 'laws.FnController', WHERE WHAT IT READS IS OF BULK AT MOST 1048576: true; the input reads as it did. -/
def fnControllerUptoRow : OpenClaim := { program := "ytjfpiadjbhnljaa", sum := "b49010680b67a7ad1d72a6188a4ac421914dc4b0c58b8ba45685475d8c9f1fb0", func := "loop.example/g01057/laws.FnController", spec := "fnController", unfollowed := true, recurses := true, apart := false, narrowed := true }
def FnControllerUptoSaid : Prop := fnControllerUptoRow.holds Try.pinned (OpenSpec.upto fnControllerSpec)

end Rows
end Go.Proofs.Ytjfpiadjbhnljaa
