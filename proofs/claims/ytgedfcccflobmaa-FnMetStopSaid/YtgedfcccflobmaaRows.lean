/-
  No cell of these rows narrows 'for every input' (looked for: loops, veiled, ifaces, maps, wideKeys, modest, calm, conditions, laid).
  DERIVED. THE GIVEN ROWS OF THIS SEAT. 4 by the template 'for every input the law returns true; each argument reads behind the call as it read before'; 0 by the template 'total and deterministic' (their statements: YtgedfcccflobmaaTotals.lean).
  GIVEN WITH THE SEED: the statements are not yours to turn. If you find one false, say at which input.
  Laid BY PROGRAM, IN A SANDBOX (cutbox-rows.mjs): the forced cells as the released guide's own fill.sh prints them over the translation fa482f3c0bddc8b1… (all of the seat's roots in one cut). By AI agents, Wed Nov 11 2026. No macro, syntax, notation, axiom, sorry.
-/
import Derived.Test.YtgedfcccflobmaaChecked
import GoSem.Claim
import GoSem.ClaimJoined
import GoSem.ClaimMapViews
import Derived.JoinedTies
import Derived.KernelRfl
namespace Go.Proofs.Ytgedfcccflobmaa
/- THE CELL 'sum', in the pinned program and in every row, IS THE sha256 OF THE DUMP (.gsa) THAT YtgedfcccflobmaaProg.lean LOADS. Nothing in Lean hashes anything: it is a label: what it is worth is what the hold of that sum in a sandbox is worth. -/
noncomputable def Try.pinned : Pinned := { name := "ytgedfcccflobmaa", sum := "fa482f3c0bddc8b18b50ba18819ff87f3ac9c261be5dccc036f06802ad56240c", checked := Try.checked }
namespace Rows
def none {H : Type} : Left H := { results := [], args := [] }

/-- 'laws.FnTraceMachine': WHATEVER THE INPUT: true; the input reads as it did. -/
def fnTraceMachineSpec : ChangeSpec := { name := "fnTraceMachine", fn := fun _ => fun
  | [d] => { results := [.lit (.bool true)], args := [d] }
  | _ => none }
def fnTraceMachineRow : OpenClaim := { program := "ytgedfcccflobmaa", sum := "fa482f3c0bddc8b18b50ba18819ff87f3ac9c261be5dccc036f06802ad56240c", func := "loop.example/homeconsole/laws.FnTraceMachine", spec := "fnTraceMachine", apart := false }
def FnTraceMachineSaid : Prop := fnTraceMachineRow.holds Try.pinned (OpenSpec.ofChange fnTraceMachineSpec)

/-- ITS FALSE NEIGHBOUR: 'it returns false'. Refute it at one input. -/
def fnTraceMachineWrong : ChangeSpec := { name := "fnTraceMachine", fn := fun _ => fun
  | [d] => { results := [.lit (.bool false)], args := [d] }
  | _ => none }
def FnTraceMachineWrongFalsely : Prop := fnTraceMachineRow.holds Try.pinned (OpenSpec.ofChange fnTraceMachineWrong)

/-- 'laws.FnExactTraceMachine': WHATEVER THE INPUT: true; the input reads as it did. -/
def fnExactTraceMachineSpec : ChangeSpec := { name := "fnExactTraceMachine", fn := fun _ => fun
  | [d1, d2] => { results := [.lit (.bool true)], args := [d1, d2] }
  | _ => none }
def fnExactTraceMachineRow : OpenClaim := { program := "ytgedfcccflobmaa", sum := "fa482f3c0bddc8b18b50ba18819ff87f3ac9c261be5dccc036f06802ad56240c", func := "loop.example/homeconsole/laws.FnExactTraceMachine", spec := "fnExactTraceMachine", apart := false }
def FnExactTraceMachineSaid : Prop := fnExactTraceMachineRow.holds Try.pinned (OpenSpec.ofChange fnExactTraceMachineSpec)

/-- ITS FALSE NEIGHBOUR: 'it returns false'. Refute it at one input. -/
def fnExactTraceMachineWrong : ChangeSpec := { name := "fnExactTraceMachine", fn := fun _ => fun
  | [d1, d2] => { results := [.lit (.bool false)], args := [d1, d2] }
  | _ => none }
def FnExactTraceMachineWrongFalsely : Prop := fnExactTraceMachineRow.holds Try.pinned (OpenSpec.ofChange fnExactTraceMachineWrong)

/-- 'laws.FnMetStop': WHATEVER THE INPUT: true; the input reads as it did. -/
def fnMetStopSpec : ChangeSpec := { name := "fnMetStop", fn := fun _ => fun
  | [d] => { results := [.lit (.bool true)], args := [d] }
  | _ => none }
def fnMetStopRow : OpenClaim := { program := "ytgedfcccflobmaa", sum := "fa482f3c0bddc8b18b50ba18819ff87f3ac9c261be5dccc036f06802ad56240c", func := "loop.example/homeconsole/laws.FnMetStop", spec := "fnMetStop", unfollowed := true, recurses := true, apart := false }
def FnMetStopSaid : Prop := fnMetStopRow.holds Try.pinned (OpenSpec.ofChange fnMetStopSpec)

/-- ITS FALSE NEIGHBOUR: 'it returns false'. Refute it at one input. -/
def fnMetStopWrong : ChangeSpec := { name := "fnMetStop", fn := fun _ => fun
  | [d] => { results := [.lit (.bool false)], args := [d] }
  | _ => none }
def FnMetStopWrongFalsely : Prop := fnMetStopRow.holds Try.pinned (OpenSpec.ofChange fnMetStopWrong)

/-- 'laws.FnExactMetStop': WHATEVER THE INPUT: true; the input reads as it did. -/
def fnExactMetStopSpec : ChangeSpec := { name := "fnExactMetStop", fn := fun _ => fun
  | [d1, d2] => { results := [.lit (.bool true)], args := [d1, d2] }
  | _ => none }
def fnExactMetStopRow : OpenClaim := { program := "ytgedfcccflobmaa", sum := "fa482f3c0bddc8b18b50ba18819ff87f3ac9c261be5dccc036f06802ad56240c", func := "loop.example/homeconsole/laws.FnExactMetStop", spec := "fnExactMetStop", unfollowed := true, recurses := true, apart := false }
def FnExactMetStopSaid : Prop := fnExactMetStopRow.holds Try.pinned (OpenSpec.ofChange fnExactMetStopSpec)

/-- ITS FALSE NEIGHBOUR: 'it returns false'. Refute it at one input. -/
def fnExactMetStopWrong : ChangeSpec := { name := "fnExactMetStop", fn := fun _ => fun
  | [d1, d2] => { results := [.lit (.bool false)], args := [d1, d2] }
  | _ => none }
def FnExactMetStopWrongFalsely : Prop := fnExactMetStopRow.holds Try.pinned (OpenSpec.ofChange fnExactMetStopWrong)

/- THE SECOND FORM. 'bulk': how many values and letters a reading holds, each counted each time it is reached (what is shared counts as often as it is met; a slice's spare places count too). A statement '..UptoSaid' is the law's where the arguments, and the package variables that the reading takes, are together of bulk at most 1048576: NARROWER than '..Said'. Prove '..Said' where nothing that the law and all that it calls make is longer than what came in: it says more and counts as full. Else prove '..UptoSaid'. A law counts once. -/
mutual
def uptoBulk {H : Type} : DataW H → Nat
  | .lit (.string bytes) => bytes.length + 1
  | .lit _ => 1
  | .nil => 1
  | .ptr d => uptoBulk d + 1
  | .slice elems spare => uptoBulkAll elems + uptoBulkAll spare + 1
  | .agg parts => uptoBulkAll parts + 1
  | .iface _ d => uptoBulk d + 1
  | .map entries => uptoBulkEntries entries + 1
  | .held _ => 1
def uptoBulkAll {H : Type} : List (DataW H) → Nat
  | [] => 0
  | d :: r => uptoBulk d + uptoBulkAll r
def uptoBulkEntries {H : Type} : List (Lit × DataW H) → Nat
  | [] => 0
  | x :: r => uptoBulkEntry x + uptoBulkEntries r
def uptoBulkEntry {H : Type} : Lit × DataW H → Nat
  | (.string bytes, d) => bytes.length + uptoBulk d + 1
  | (_, d) => uptoBulk d + 1
 end
def uptoSmall : (H : Type) → List (DataW H) → Bool := fun _ ds => decide (uptoBulkAll ds ≤ 1048576)
def OpenSpec.upto (s : _root_.Go.ChangeSpec) : _root_.Go.OpenSpec := { _root_.Go.OpenSpec.ofChange s with cond := some uptoSmall }

/-- 'laws.FnTraceMachine', WHERE WHAT IT READS IS OF BULK AT MOST 1048576: true; the input reads as it did. -/
def fnTraceMachineUptoRow : OpenClaim := { program := "ytgedfcccflobmaa", sum := "fa482f3c0bddc8b18b50ba18819ff87f3ac9c261be5dccc036f06802ad56240c", func := "loop.example/homeconsole/laws.FnTraceMachine", spec := "fnTraceMachine", apart := false, narrowed := true }
def FnTraceMachineUptoSaid : Prop := fnTraceMachineUptoRow.holds Try.pinned (OpenSpec.upto fnTraceMachineSpec)

/-- 'laws.FnExactTraceMachine', WHERE WHAT IT READS IS OF BULK AT MOST 1048576: true; the input reads as it did. -/
def fnExactTraceMachineUptoRow : OpenClaim := { program := "ytgedfcccflobmaa", sum := "fa482f3c0bddc8b18b50ba18819ff87f3ac9c261be5dccc036f06802ad56240c", func := "loop.example/homeconsole/laws.FnExactTraceMachine", spec := "fnExactTraceMachine", apart := false, narrowed := true }
def FnExactTraceMachineUptoSaid : Prop := fnExactTraceMachineUptoRow.holds Try.pinned (OpenSpec.upto fnExactTraceMachineSpec)

/-- 'laws.FnMetStop', WHERE WHAT IT READS IS OF BULK AT MOST 1048576: true; the input reads as it did. -/
def fnMetStopUptoRow : OpenClaim := { program := "ytgedfcccflobmaa", sum := "fa482f3c0bddc8b18b50ba18819ff87f3ac9c261be5dccc036f06802ad56240c", func := "loop.example/homeconsole/laws.FnMetStop", spec := "fnMetStop", unfollowed := true, recurses := true, apart := false, narrowed := true }
def FnMetStopUptoSaid : Prop := fnMetStopUptoRow.holds Try.pinned (OpenSpec.upto fnMetStopSpec)

/-- 'laws.FnExactMetStop', WHERE WHAT IT READS IS OF BULK AT MOST 1048576: true; the input reads as it did. -/
def fnExactMetStopUptoRow : OpenClaim := { program := "ytgedfcccflobmaa", sum := "fa482f3c0bddc8b18b50ba18819ff87f3ac9c261be5dccc036f06802ad56240c", func := "loop.example/homeconsole/laws.FnExactMetStop", spec := "fnExactMetStop", unfollowed := true, recurses := true, apart := false, narrowed := true }
def FnExactMetStopUptoSaid : Prop := fnExactMetStopUptoRow.holds Try.pinned (OpenSpec.upto fnExactMetStopSpec)

end Rows
end Go.Proofs.Ytgedfcccflobmaa
