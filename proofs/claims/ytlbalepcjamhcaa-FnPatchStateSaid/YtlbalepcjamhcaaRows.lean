/-
  No cell of these rows narrows 'for every input' (looked for: loops, veiled, ifaces, maps, wideKeys, modest, calm, conditions, laid).
  DERIVED. THE GIVEN ROWS OF THIS SEAT. 8 by the template 'for every input the law returns true; each argument reads behind the call as it read before'; 0 by the template 'total and deterministic' (their statements: YtlbalepcjamhcaaTotals.lean).
  GIVEN WITH THE SEED: the statements are not yours to turn. If you find one false, say at which input.
  Laid BY PROGRAM, IN A SANDBOX (cutbox-rows.mjs): the forced cells as the released guide's own fill.sh prints them over the translation bf4362a19babffe2… (all of the seat's roots in one cut). By AI agents, Wed Nov 11 2026. No macro, syntax, notation, axiom, sorry.
-/
import Derived.Test.YtlbalepcjamhcaaChecked
import GoSem.Claim
import GoSem.ClaimJoined
import GoSem.ClaimMapViews
import Derived.JoinedTies
import Derived.KernelRfl
namespace Go.Proofs.Ytlbalepcjamhcaa
/- THE CELL 'sum', in the pinned program and in every row, IS THE sha256 OF THE DUMP (.gsa) THAT YtlbalepcjamhcaaProg.lean LOADS. Nothing in Lean hashes anything: it is a label: what it is worth is what the hold of that sum in a sandbox is worth. -/
noncomputable def Try.pinned : Pinned := { name := "ytlbalepcjamhcaa", sum := "bf4362a19babffe2894cce5b1f4d6492cc8d4723ed7a6ea122791e80ef3d38c1", checked := Try.checked }
namespace Rows
def none {H : Type} : Left H := { results := [], args := [] }

/-- 'laws.FnExactPatchSize': WHATEVER THE INPUT: true; the input reads as it did. -/
def fnExactPatchSizeSpec : ChangeSpec := { name := "fnExactPatchSize", fn := fun _ => fun
  | [d] => { results := [.lit (.bool true)], args := [d] }
  | _ => none }
def fnExactPatchSizeRow : OpenClaim := { program := "ytlbalepcjamhcaa", sum := "bf4362a19babffe2894cce5b1f4d6492cc8d4723ed7a6ea122791e80ef3d38c1", func := "loop.example/homeconsole/laws.FnExactPatchSize", spec := "fnExactPatchSize", apart := false }
def FnExactPatchSizeSaid : Prop := fnExactPatchSizeRow.holds Try.pinned (OpenSpec.ofChange fnExactPatchSizeSpec)

/-- ITS FALSE NEIGHBOUR: 'it returns false'. Refute it at one input. -/
def fnExactPatchSizeWrong : ChangeSpec := { name := "fnExactPatchSize", fn := fun _ => fun
  | [d] => { results := [.lit (.bool false)], args := [d] }
  | _ => none }
def FnExactPatchSizeWrongFalsely : Prop := fnExactPatchSizeRow.holds Try.pinned (OpenSpec.ofChange fnExactPatchSizeWrong)

/-- 'laws.FnPatchSize': WHATEVER THE INPUT: true; the input reads as it did. -/
def fnPatchSizeSpec : ChangeSpec := { name := "fnPatchSize", fn := fun _ => fun
  | [d] => { results := [.lit (.bool true)], args := [d] }
  | _ => none }
def fnPatchSizeRow : OpenClaim := { program := "ytlbalepcjamhcaa", sum := "bf4362a19babffe2894cce5b1f4d6492cc8d4723ed7a6ea122791e80ef3d38c1", func := "loop.example/homeconsole/laws.FnPatchSize", spec := "fnPatchSize", apart := false }
def FnPatchSizeSaid : Prop := fnPatchSizeRow.holds Try.pinned (OpenSpec.ofChange fnPatchSizeSpec)

/-- ITS FALSE NEIGHBOUR: 'it returns false'. Refute it at one input. -/
def fnPatchSizeWrong : ChangeSpec := { name := "fnPatchSize", fn := fun _ => fun
  | [d] => { results := [.lit (.bool false)], args := [d] }
  | _ => none }
def FnPatchSizeWrongFalsely : Prop := fnPatchSizeRow.holds Try.pinned (OpenSpec.ofChange fnPatchSizeWrong)

/-- 'laws.FnExactDiffStates': WHATEVER THE INPUT: true; the input reads as it did. -/
def fnExactDiffStatesSpec : ChangeSpec := { name := "fnExactDiffStates", fn := fun _ => fun
  | [d1, d2] => { results := [.lit (.bool true)], args := [d1, d2] }
  | _ => none }
def fnExactDiffStatesRow : OpenClaim := { program := "ytlbalepcjamhcaa", sum := "bf4362a19babffe2894cce5b1f4d6492cc8d4723ed7a6ea122791e80ef3d38c1", func := "loop.example/homeconsole/laws.FnExactDiffStates", spec := "fnExactDiffStates", apart := false }
def FnExactDiffStatesSaid : Prop := fnExactDiffStatesRow.holds Try.pinned (OpenSpec.ofChange fnExactDiffStatesSpec)

/-- ITS FALSE NEIGHBOUR: 'it returns false'. Refute it at one input. -/
def fnExactDiffStatesWrong : ChangeSpec := { name := "fnExactDiffStates", fn := fun _ => fun
  | [d1, d2] => { results := [.lit (.bool false)], args := [d1, d2] }
  | _ => none }
def FnExactDiffStatesWrongFalsely : Prop := fnExactDiffStatesRow.holds Try.pinned (OpenSpec.ofChange fnExactDiffStatesWrong)

/-- 'laws.FnExactPatchState': WHATEVER THE INPUT: true; the input reads as it did. -/
def fnExactPatchStateSpec : ChangeSpec := { name := "fnExactPatchState", fn := fun _ => fun
  | [d1, d2] => { results := [.lit (.bool true)], args := [d1, d2] }
  | _ => none }
def fnExactPatchStateRow : OpenClaim := { program := "ytlbalepcjamhcaa", sum := "bf4362a19babffe2894cce5b1f4d6492cc8d4723ed7a6ea122791e80ef3d38c1", func := "loop.example/homeconsole/laws.FnExactPatchState", spec := "fnExactPatchState", apart := false }
def FnExactPatchStateSaid : Prop := fnExactPatchStateRow.holds Try.pinned (OpenSpec.ofChange fnExactPatchStateSpec)

/-- ITS FALSE NEIGHBOUR: 'it returns false'. Refute it at one input. -/
def fnExactPatchStateWrong : ChangeSpec := { name := "fnExactPatchState", fn := fun _ => fun
  | [d1, d2] => { results := [.lit (.bool false)], args := [d1, d2] }
  | _ => none }
def FnExactPatchStateWrongFalsely : Prop := fnExactPatchStateRow.holds Try.pinned (OpenSpec.ofChange fnExactPatchStateWrong)

/-- 'laws.FnDiffStates': WHATEVER THE INPUT: true; the input reads as it did. -/
def fnDiffStatesSpec : ChangeSpec := { name := "fnDiffStates", fn := fun _ => fun
  | [d] => { results := [.lit (.bool true)], args := [d] }
  | _ => none }
def fnDiffStatesRow : OpenClaim := { program := "ytlbalepcjamhcaa", sum := "bf4362a19babffe2894cce5b1f4d6492cc8d4723ed7a6ea122791e80ef3d38c1", func := "loop.example/homeconsole/laws.FnDiffStates", spec := "fnDiffStates", apart := false }
def FnDiffStatesSaid : Prop := fnDiffStatesRow.holds Try.pinned (OpenSpec.ofChange fnDiffStatesSpec)

/-- ITS FALSE NEIGHBOUR: 'it returns false'. Refute it at one input. -/
def fnDiffStatesWrong : ChangeSpec := { name := "fnDiffStates", fn := fun _ => fun
  | [d] => { results := [.lit (.bool false)], args := [d] }
  | _ => none }
def FnDiffStatesWrongFalsely : Prop := fnDiffStatesRow.holds Try.pinned (OpenSpec.ofChange fnDiffStatesWrong)

/-- 'laws.FnRewind': WHATEVER THE INPUT: true; the input reads as it did. -/
def fnRewindSpec : ChangeSpec := { name := "fnRewind", fn := fun _ => fun
  | [d] => { results := [.lit (.bool true)], args := [d] }
  | _ => none }
def fnRewindRow : OpenClaim := { program := "ytlbalepcjamhcaa", sum := "bf4362a19babffe2894cce5b1f4d6492cc8d4723ed7a6ea122791e80ef3d38c1", func := "loop.example/homeconsole/laws.FnRewind", spec := "fnRewind", apart := false }
def FnRewindSaid : Prop := fnRewindRow.holds Try.pinned (OpenSpec.ofChange fnRewindSpec)

/-- ITS FALSE NEIGHBOUR: 'it returns false'. Refute it at one input. -/
def fnRewindWrong : ChangeSpec := { name := "fnRewind", fn := fun _ => fun
  | [d] => { results := [.lit (.bool false)], args := [d] }
  | _ => none }
def FnRewindWrongFalsely : Prop := fnRewindRow.holds Try.pinned (OpenSpec.ofChange fnRewindWrong)

/-- 'laws.FnStateUndo': WHATEVER THE INPUT: true; the input reads as it did. -/
def fnStateUndoSpec : ChangeSpec := { name := "fnStateUndo", fn := fun _ => fun
  | [d] => { results := [.lit (.bool true)], args := [d] }
  | _ => none }
def fnStateUndoRow : OpenClaim := { program := "ytlbalepcjamhcaa", sum := "bf4362a19babffe2894cce5b1f4d6492cc8d4723ed7a6ea122791e80ef3d38c1", func := "loop.example/homeconsole/laws.FnStateUndo", spec := "fnStateUndo", apart := false }
def FnStateUndoSaid : Prop := fnStateUndoRow.holds Try.pinned (OpenSpec.ofChange fnStateUndoSpec)

/-- ITS FALSE NEIGHBOUR: 'it returns false'. Refute it at one input. -/
def fnStateUndoWrong : ChangeSpec := { name := "fnStateUndo", fn := fun _ => fun
  | [d] => { results := [.lit (.bool false)], args := [d] }
  | _ => none }
def FnStateUndoWrongFalsely : Prop := fnStateUndoRow.holds Try.pinned (OpenSpec.ofChange fnStateUndoWrong)

/-- 'laws.FnPatchState': WHATEVER THE INPUT: true; the input reads as it did. -/
def fnPatchStateSpec : ChangeSpec := { name := "fnPatchState", fn := fun _ => fun
  | [d] => { results := [.lit (.bool true)], args := [d] }
  | _ => none }
def fnPatchStateRow : OpenClaim := { program := "ytlbalepcjamhcaa", sum := "bf4362a19babffe2894cce5b1f4d6492cc8d4723ed7a6ea122791e80ef3d38c1", func := "loop.example/homeconsole/laws.FnPatchState", spec := "fnPatchState", apart := false }
def FnPatchStateSaid : Prop := fnPatchStateRow.holds Try.pinned (OpenSpec.ofChange fnPatchStateSpec)

/-- ITS FALSE NEIGHBOUR: 'it returns false'. Refute it at one input. -/
def fnPatchStateWrong : ChangeSpec := { name := "fnPatchState", fn := fun _ => fun
  | [d] => { results := [.lit (.bool false)], args := [d] }
  | _ => none }
def FnPatchStateWrongFalsely : Prop := fnPatchStateRow.holds Try.pinned (OpenSpec.ofChange fnPatchStateWrong)

/- THE SECOND FORM. 'bulk': how many values and letters a reading holds, each counted each time it is reached (what is shared counts as often as it is met; a slice's spare places count too). A statement '..UptoSaid' is the law's where the arguments, and the package variables that the reading takes, are together of bulk at most 1048576: NARROWER than '..Said'. Prove '..Said' where nothing that the law and all that it calls make is longer than what came in: it says more and counts as full. Else prove '..UptoSaid'. A law counts once. -/
mutual
def uptoBulk {H : Type} : DataW H → Nat
  | .lit (.string bytes) => bytes.length + 1
  | .lit _ => 1
  | .nil => 1
  | .ptr d => uptoBulk d + 1
  | .slice elems spare => uptoBulkAll elems + uptoBulkAll spare + 1
  | .agg parts => uptoBulkAll parts + 1
  | .iface _ d => uptoBulk d + 1
  | .map entries => uptoBulkEntries entries + 1
  | .held _ => 1
def uptoBulkAll {H : Type} : List (DataW H) → Nat
  | [] => 0
  | d :: r => uptoBulk d + uptoBulkAll r
def uptoBulkEntries {H : Type} : List (Lit × DataW H) → Nat
  | [] => 0
  | x :: r => uptoBulkEntry x + uptoBulkEntries r
def uptoBulkEntry {H : Type} : Lit × DataW H → Nat
  | (.string bytes, d) => bytes.length + uptoBulk d + 1
  | (_, d) => uptoBulk d + 1
 end
def uptoSmall : (H : Type) → List (DataW H) → Bool := fun _ ds => decide (uptoBulkAll ds ≤ 1048576)
def OpenSpec.upto (s : _root_.Go.ChangeSpec) : _root_.Go.OpenSpec := { _root_.Go.OpenSpec.ofChange s with cond := some uptoSmall }

/-- 'laws.FnExactPatchSize', WHERE WHAT IT READS IS OF BULK AT MOST 1048576: true; the input reads as it did. -/
def fnExactPatchSizeUptoRow : OpenClaim := { program := "ytlbalepcjamhcaa", sum := "bf4362a19babffe2894cce5b1f4d6492cc8d4723ed7a6ea122791e80ef3d38c1", func := "loop.example/homeconsole/laws.FnExactPatchSize", spec := "fnExactPatchSize", apart := false, narrowed := true }
def FnExactPatchSizeUptoSaid : Prop := fnExactPatchSizeUptoRow.holds Try.pinned (OpenSpec.upto fnExactPatchSizeSpec)

/-- 'laws.FnPatchSize', WHERE WHAT IT READS IS OF BULK AT MOST 1048576: true; the input reads as it did. -/
def fnPatchSizeUptoRow : OpenClaim := { program := "ytlbalepcjamhcaa", sum := "bf4362a19babffe2894cce5b1f4d6492cc8d4723ed7a6ea122791e80ef3d38c1", func := "loop.example/homeconsole/laws.FnPatchSize", spec := "fnPatchSize", apart := false, narrowed := true }
def FnPatchSizeUptoSaid : Prop := fnPatchSizeUptoRow.holds Try.pinned (OpenSpec.upto fnPatchSizeSpec)

/-- 'laws.FnExactDiffStates', WHERE WHAT IT READS IS OF BULK AT MOST 1048576: true; the input reads as it did. -/
def fnExactDiffStatesUptoRow : OpenClaim := { program := "ytlbalepcjamhcaa", sum := "bf4362a19babffe2894cce5b1f4d6492cc8d4723ed7a6ea122791e80ef3d38c1", func := "loop.example/homeconsole/laws.FnExactDiffStates", spec := "fnExactDiffStates", apart := false, narrowed := true }
def FnExactDiffStatesUptoSaid : Prop := fnExactDiffStatesUptoRow.holds Try.pinned (OpenSpec.upto fnExactDiffStatesSpec)

/-- 'laws.FnExactPatchState', WHERE WHAT IT READS IS OF BULK AT MOST 1048576: true; the input reads as it did. -/
def fnExactPatchStateUptoRow : OpenClaim := { program := "ytlbalepcjamhcaa", sum := "bf4362a19babffe2894cce5b1f4d6492cc8d4723ed7a6ea122791e80ef3d38c1", func := "loop.example/homeconsole/laws.FnExactPatchState", spec := "fnExactPatchState", apart := false, narrowed := true }
def FnExactPatchStateUptoSaid : Prop := fnExactPatchStateUptoRow.holds Try.pinned (OpenSpec.upto fnExactPatchStateSpec)

/-- 'laws.FnDiffStates', WHERE WHAT IT READS IS OF BULK AT MOST 1048576: true; the input reads as it did. -/
def fnDiffStatesUptoRow : OpenClaim := { program := "ytlbalepcjamhcaa", sum := "bf4362a19babffe2894cce5b1f4d6492cc8d4723ed7a6ea122791e80ef3d38c1", func := "loop.example/homeconsole/laws.FnDiffStates", spec := "fnDiffStates", apart := false, narrowed := true }
def FnDiffStatesUptoSaid : Prop := fnDiffStatesUptoRow.holds Try.pinned (OpenSpec.upto fnDiffStatesSpec)

/-- 'laws.FnRewind', WHERE WHAT IT READS IS OF BULK AT MOST 1048576: true; the input reads as it did. -/
def fnRewindUptoRow : OpenClaim := { program := "ytlbalepcjamhcaa", sum := "bf4362a19babffe2894cce5b1f4d6492cc8d4723ed7a6ea122791e80ef3d38c1", func := "loop.example/homeconsole/laws.FnRewind", spec := "fnRewind", apart := false, narrowed := true }
def FnRewindUptoSaid : Prop := fnRewindUptoRow.holds Try.pinned (OpenSpec.upto fnRewindSpec)

/-- 'laws.FnStateUndo', WHERE WHAT IT READS IS OF BULK AT MOST 1048576: true; the input reads as it did. -/
def fnStateUndoUptoRow : OpenClaim := { program := "ytlbalepcjamhcaa", sum := "bf4362a19babffe2894cce5b1f4d6492cc8d4723ed7a6ea122791e80ef3d38c1", func := "loop.example/homeconsole/laws.FnStateUndo", spec := "fnStateUndo", apart := false, narrowed := true }
def FnStateUndoUptoSaid : Prop := fnStateUndoUptoRow.holds Try.pinned (OpenSpec.upto fnStateUndoSpec)

/-- 'laws.FnPatchState', WHERE WHAT IT READS IS OF BULK AT MOST 1048576: true; the input reads as it did. -/
def fnPatchStateUptoRow : OpenClaim := { program := "ytlbalepcjamhcaa", sum := "bf4362a19babffe2894cce5b1f4d6492cc8d4723ed7a6ea122791e80ef3d38c1", func := "loop.example/homeconsole/laws.FnPatchState", spec := "fnPatchState", apart := false, narrowed := true }
def FnPatchStateUptoSaid : Prop := fnPatchStateUptoRow.holds Try.pinned (OpenSpec.upto fnPatchStateSpec)

end Rows
end Go.Proofs.Ytlbalepcjamhcaa
