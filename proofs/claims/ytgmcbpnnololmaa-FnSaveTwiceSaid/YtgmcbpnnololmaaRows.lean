/-
  No cell of these rows narrows 'for every input' (looked for: loops, veiled, ifaces, maps, wideKeys, modest, calm, conditions, laid).
  DERIVED. THE GIVEN ROWS OF THIS SEAT. 9 by the template 'for every input the law returns true; each argument reads behind the call as it read before'; 0 by the template 'total and deterministic' (their statements: YtgmcbpnnololmaaTotals.lean).
  GIVEN WITH THE SEED: the statements are not yours to turn. If you find one false, say at which input.
  Laid BY PROGRAM, IN A SANDBOX (cutbox-rows.mjs): the forced cells as the released guide's own fill.sh prints them over the translation e4465001cf6e3128… (all of the seat's roots in one cut). By AI agents, Wed Nov 11 2026. No macro, syntax, notation, axiom, sorry.
-/
import Derived.Test.YtgmcbpnnololmaaChecked
import GoSem.Claim
import GoSem.ClaimJoined
import GoSem.ClaimMapViews
import Derived.JoinedTies
import Derived.KernelRfl
namespace Go.Proofs.Ytgmcbpnnololmaa
/- THE CELL 'sum', in the pinned program and in every row, IS THE sha256 OF THE DUMP (.gsa) THAT YtgmcbpnnololmaaProg.lean LOADS. Nothing in Lean hashes anything: it is a label: what it is worth is what the hold of that sum in a sandbox is worth. -/
noncomputable def Try.pinned : Pinned := { name := "ytgmcbpnnololmaa", sum := "e4465001cf6e31287ea04bd87f8ce34c979b091f440df878725eb49d76394e58", checked := Try.checked }
namespace Rows
def none {H : Type} : Left H := { results := [], args := [] }

/-- 'laws.FnExactSaveBytes': WHATEVER THE INPUT: true; the input reads as it did. -/
def fnExactSaveBytesSpec : ChangeSpec := { name := "fnExactSaveBytes", fn := fun _ => fun
  | [d1, d2] => { results := [.lit (.bool true)], args := [d1, d2] }
  | _ => none }
def fnExactSaveBytesRow : OpenClaim := { program := "ytgmcbpnnololmaa", sum := "e4465001cf6e31287ea04bd87f8ce34c979b091f440df878725eb49d76394e58", func := "loop.example/homeconsole/laws.FnExactSaveBytes", spec := "fnExactSaveBytes", apart := false }
def FnExactSaveBytesSaid : Prop := fnExactSaveBytesRow.holds Try.pinned (OpenSpec.ofChange fnExactSaveBytesSpec)

/-- ITS FALSE NEIGHBOUR: 'it returns false'. Refute it at one input. -/
def fnExactSaveBytesWrong : ChangeSpec := { name := "fnExactSaveBytes", fn := fun _ => fun
  | [d1, d2] => { results := [.lit (.bool false)], args := [d1, d2] }
  | _ => none }
def FnExactSaveBytesWrongFalsely : Prop := fnExactSaveBytesRow.holds Try.pinned (OpenSpec.ofChange fnExactSaveBytesWrong)

/-- 'laws.FnExactReadSave': WHATEVER THE INPUT: true; the input reads as it did. -/
def fnExactReadSaveSpec : ChangeSpec := { name := "fnExactReadSave", fn := fun _ => fun
  | [d] => { results := [.lit (.bool true)], args := [d] }
  | _ => none }
def fnExactReadSaveRow : OpenClaim := { program := "ytgmcbpnnololmaa", sum := "e4465001cf6e31287ea04bd87f8ce34c979b091f440df878725eb49d76394e58", func := "loop.example/homeconsole/laws.FnExactReadSave", spec := "fnExactReadSave", apart := false }
def FnExactReadSaveSaid : Prop := fnExactReadSaveRow.holds Try.pinned (OpenSpec.ofChange fnExactReadSaveSpec)

/-- ITS FALSE NEIGHBOUR: 'it returns false'. Refute it at one input. -/
def fnExactReadSaveWrong : ChangeSpec := { name := "fnExactReadSave", fn := fun _ => fun
  | [d] => { results := [.lit (.bool false)], args := [d] }
  | _ => none }
def FnExactReadSaveWrongFalsely : Prop := fnExactReadSaveRow.holds Try.pinned (OpenSpec.ofChange fnExactReadSaveWrong)

/-- 'laws.FnExactBestSave': WHATEVER THE INPUT: true; the input reads as it did. -/
def fnExactBestSaveSpec : ChangeSpec := { name := "fnExactBestSave", fn := fun _ => fun
  | [d1, d2] => { results := [.lit (.bool true)], args := [d1, d2] }
  | _ => none }
def fnExactBestSaveRow : OpenClaim := { program := "ytgmcbpnnololmaa", sum := "e4465001cf6e31287ea04bd87f8ce34c979b091f440df878725eb49d76394e58", func := "loop.example/homeconsole/laws.FnExactBestSave", spec := "fnExactBestSave", apart := false }
def FnExactBestSaveSaid : Prop := fnExactBestSaveRow.holds Try.pinned (OpenSpec.ofChange fnExactBestSaveSpec)

/-- ITS FALSE NEIGHBOUR: 'it returns false'. Refute it at one input. -/
def fnExactBestSaveWrong : ChangeSpec := { name := "fnExactBestSave", fn := fun _ => fun
  | [d1, d2] => { results := [.lit (.bool false)], args := [d1, d2] }
  | _ => none }
def FnExactBestSaveWrongFalsely : Prop := fnExactBestSaveRow.holds Try.pinned (OpenSpec.ofChange fnExactBestSaveWrong)

/-- 'laws.FnSaveBytes': WHATEVER THE INPUT: true; the input reads as it did. -/
def fnSaveBytesSpec : ChangeSpec := { name := "fnSaveBytes", fn := fun _ => fun
  | [d1, d2] => { results := [.lit (.bool true)], args := [d1, d2] }
  | _ => none }
def fnSaveBytesRow : OpenClaim := { program := "ytgmcbpnnololmaa", sum := "e4465001cf6e31287ea04bd87f8ce34c979b091f440df878725eb49d76394e58", func := "loop.example/homeconsole/laws.FnSaveBytes", spec := "fnSaveBytes", apart := false }
def FnSaveBytesSaid : Prop := fnSaveBytesRow.holds Try.pinned (OpenSpec.ofChange fnSaveBytesSpec)

/-- ITS FALSE NEIGHBOUR: 'it returns false'. Refute it at one input. -/
def fnSaveBytesWrong : ChangeSpec := { name := "fnSaveBytes", fn := fun _ => fun
  | [d1, d2] => { results := [.lit (.bool false)], args := [d1, d2] }
  | _ => none }
def FnSaveBytesWrongFalsely : Prop := fnSaveBytesRow.holds Try.pinned (OpenSpec.ofChange fnSaveBytesWrong)

/-- 'laws.FnReadSave': WHATEVER THE INPUT: true; the input reads as it did. -/
def fnReadSaveSpec : ChangeSpec := { name := "fnReadSave", fn := fun _ => fun
  | [d] => { results := [.lit (.bool true)], args := [d] }
  | _ => none }
def fnReadSaveRow : OpenClaim := { program := "ytgmcbpnnololmaa", sum := "e4465001cf6e31287ea04bd87f8ce34c979b091f440df878725eb49d76394e58", func := "loop.example/homeconsole/laws.FnReadSave", spec := "fnReadSave", apart := false }
def FnReadSaveSaid : Prop := fnReadSaveRow.holds Try.pinned (OpenSpec.ofChange fnReadSaveSpec)

/-- ITS FALSE NEIGHBOUR: 'it returns false'. Refute it at one input. -/
def fnReadSaveWrong : ChangeSpec := { name := "fnReadSave", fn := fun _ => fun
  | [d] => { results := [.lit (.bool false)], args := [d] }
  | _ => none }
def FnReadSaveWrongFalsely : Prop := fnReadSaveRow.holds Try.pinned (OpenSpec.ofChange fnReadSaveWrong)

/-- 'laws.FnExactWriteSave': WHATEVER THE INPUT: true; the input reads as it did. -/
def fnExactWriteSaveSpec : ChangeSpec := { name := "fnExactWriteSave", fn := fun _ => fun
  | [d1, d2, d3] => { results := [.lit (.bool true)], args := [d1, d2, d3] }
  | _ => none }
def fnExactWriteSaveRow : OpenClaim := { program := "ytgmcbpnnololmaa", sum := "e4465001cf6e31287ea04bd87f8ce34c979b091f440df878725eb49d76394e58", func := "loop.example/homeconsole/laws.FnExactWriteSave", spec := "fnExactWriteSave", apart := false }
def FnExactWriteSaveSaid : Prop := fnExactWriteSaveRow.holds Try.pinned (OpenSpec.ofChange fnExactWriteSaveSpec)

/-- ITS FALSE NEIGHBOUR: 'it returns false'. Refute it at one input. -/
def fnExactWriteSaveWrong : ChangeSpec := { name := "fnExactWriteSave", fn := fun _ => fun
  | [d1, d2, d3] => { results := [.lit (.bool false)], args := [d1, d2, d3] }
  | _ => none }
def FnExactWriteSaveWrongFalsely : Prop := fnExactWriteSaveRow.holds Try.pinned (OpenSpec.ofChange fnExactWriteSaveWrong)

/-- 'laws.FnBestSave': WHATEVER THE INPUT: true; the input reads as it did. -/
def fnBestSaveSpec : ChangeSpec := { name := "fnBestSave", fn := fun _ => fun
  | [d] => { results := [.lit (.bool true)], args := [d] }
  | _ => none }
def fnBestSaveRow : OpenClaim := { program := "ytgmcbpnnololmaa", sum := "e4465001cf6e31287ea04bd87f8ce34c979b091f440df878725eb49d76394e58", func := "loop.example/homeconsole/laws.FnBestSave", spec := "fnBestSave", apart := false }
def FnBestSaveSaid : Prop := fnBestSaveRow.holds Try.pinned (OpenSpec.ofChange fnBestSaveSpec)

/-- ITS FALSE NEIGHBOUR: 'it returns false'. Refute it at one input. -/
def fnBestSaveWrong : ChangeSpec := { name := "fnBestSave", fn := fun _ => fun
  | [d] => { results := [.lit (.bool false)], args := [d] }
  | _ => none }
def FnBestSaveWrongFalsely : Prop := fnBestSaveRow.holds Try.pinned (OpenSpec.ofChange fnBestSaveWrong)

/-- 'laws.FnSaveTwice': WHATEVER THE INPUT: true; the input reads as it did. -/
def fnSaveTwiceSpec : ChangeSpec := { name := "fnSaveTwice", fn := fun _ => fun
  | [d] => { results := [.lit (.bool true)], args := [d] }
  | _ => none }
def fnSaveTwiceRow : OpenClaim := { program := "ytgmcbpnnololmaa", sum := "e4465001cf6e31287ea04bd87f8ce34c979b091f440df878725eb49d76394e58", func := "loop.example/homeconsole/laws.FnSaveTwice", spec := "fnSaveTwice", apart := false }
def FnSaveTwiceSaid : Prop := fnSaveTwiceRow.holds Try.pinned (OpenSpec.ofChange fnSaveTwiceSpec)

/-- ITS FALSE NEIGHBOUR: 'it returns false'. Refute it at one input. -/
def fnSaveTwiceWrong : ChangeSpec := { name := "fnSaveTwice", fn := fun _ => fun
  | [d] => { results := [.lit (.bool false)], args := [d] }
  | _ => none }
def FnSaveTwiceWrongFalsely : Prop := fnSaveTwiceRow.holds Try.pinned (OpenSpec.ofChange fnSaveTwiceWrong)

/-- 'laws.FnWriteSave': WHATEVER THE INPUT: true; the input reads as it did. -/
def fnWriteSaveSpec : ChangeSpec := { name := "fnWriteSave", fn := fun _ => fun
  | [d] => { results := [.lit (.bool true)], args := [d] }
  | _ => none }
def fnWriteSaveRow : OpenClaim := { program := "ytgmcbpnnololmaa", sum := "e4465001cf6e31287ea04bd87f8ce34c979b091f440df878725eb49d76394e58", func := "loop.example/homeconsole/laws.FnWriteSave", spec := "fnWriteSave", apart := false }
def FnWriteSaveSaid : Prop := fnWriteSaveRow.holds Try.pinned (OpenSpec.ofChange fnWriteSaveSpec)

/-- ITS FALSE NEIGHBOUR: 'it returns false'. Refute it at one input. -/
def fnWriteSaveWrong : ChangeSpec := { name := "fnWriteSave", fn := fun _ => fun
  | [d] => { results := [.lit (.bool false)], args := [d] }
  | _ => none }
def FnWriteSaveWrongFalsely : Prop := fnWriteSaveRow.holds Try.pinned (OpenSpec.ofChange fnWriteSaveWrong)

/- THE SECOND FORM. 'bulk': how many values and letters a reading holds, each counted each time it is reached (what is shared counts as often as it is met; a slice's spare places count too). A statement '..UptoSaid' is the law's where the arguments, and the package variables that the reading takes, are together of bulk at most 1048576: NARROWER than '..Said'. Prove '..Said' where nothing that the law and all that it calls make is longer than what came in: it says more and counts as full. Else prove '..UptoSaid'. A law counts once. -/
mutual
def uptoBulk {H : Type} : DataW H → Nat
  | .lit (.string bytes) => bytes.length + 1
  | .lit _ => 1
  | .nil => 1
  | .ptr d => uptoBulk d + 1
  | .slice elems spare => uptoBulkAll elems + uptoBulkAll spare + 1
  | .agg parts => uptoBulkAll parts + 1
  | .iface _ d => uptoBulk d + 1
  | .map entries => uptoBulkEntries entries + 1
  | .held _ => 1
def uptoBulkAll {H : Type} : List (DataW H) → Nat
  | [] => 0
  | d :: r => uptoBulk d + uptoBulkAll r
def uptoBulkEntries {H : Type} : List (Lit × DataW H) → Nat
  | [] => 0
  | x :: r => uptoBulkEntry x + uptoBulkEntries r
def uptoBulkEntry {H : Type} : Lit × DataW H → Nat
  | (.string bytes, d) => bytes.length + uptoBulk d + 1
  | (_, d) => uptoBulk d + 1
 end
def uptoSmall : (H : Type) → List (DataW H) → Bool := fun _ ds => decide (uptoBulkAll ds ≤ 1048576)
def OpenSpec.upto (s : _root_.Go.ChangeSpec) : _root_.Go.OpenSpec := { _root_.Go.OpenSpec.ofChange s with cond := some uptoSmall }

/-- 'laws.FnExactSaveBytes', WHERE WHAT IT READS IS OF BULK AT MOST 1048576: true; the input reads as it did. -/
def fnExactSaveBytesUptoRow : OpenClaim := { program := "ytgmcbpnnololmaa", sum := "e4465001cf6e31287ea04bd87f8ce34c979b091f440df878725eb49d76394e58", func := "loop.example/homeconsole/laws.FnExactSaveBytes", spec := "fnExactSaveBytes", apart := false, narrowed := true }
def FnExactSaveBytesUptoSaid : Prop := fnExactSaveBytesUptoRow.holds Try.pinned (OpenSpec.upto fnExactSaveBytesSpec)

/-- 'laws.FnExactReadSave', WHERE WHAT IT READS IS OF BULK AT MOST 1048576: true; the input reads as it did. -/
def fnExactReadSaveUptoRow : OpenClaim := { program := "ytgmcbpnnololmaa", sum := "e4465001cf6e31287ea04bd87f8ce34c979b091f440df878725eb49d76394e58", func := "loop.example/homeconsole/laws.FnExactReadSave", spec := "fnExactReadSave", apart := false, narrowed := true }
def FnExactReadSaveUptoSaid : Prop := fnExactReadSaveUptoRow.holds Try.pinned (OpenSpec.upto fnExactReadSaveSpec)

/-- 'laws.FnExactBestSave', WHERE WHAT IT READS IS OF BULK AT MOST 1048576: true; the input reads as it did. -/
def fnExactBestSaveUptoRow : OpenClaim := { program := "ytgmcbpnnololmaa", sum := "e4465001cf6e31287ea04bd87f8ce34c979b091f440df878725eb49d76394e58", func := "loop.example/homeconsole/laws.FnExactBestSave", spec := "fnExactBestSave", apart := false, narrowed := true }
def FnExactBestSaveUptoSaid : Prop := fnExactBestSaveUptoRow.holds Try.pinned (OpenSpec.upto fnExactBestSaveSpec)

/-- 'laws.FnSaveBytes', WHERE WHAT IT READS IS OF BULK AT MOST 1048576: true; the input reads as it did. -/
def fnSaveBytesUptoRow : OpenClaim := { program := "ytgmcbpnnololmaa", sum := "e4465001cf6e31287ea04bd87f8ce34c979b091f440df878725eb49d76394e58", func := "loop.example/homeconsole/laws.FnSaveBytes", spec := "fnSaveBytes", apart := false, narrowed := true }
def FnSaveBytesUptoSaid : Prop := fnSaveBytesUptoRow.holds Try.pinned (OpenSpec.upto fnSaveBytesSpec)

/-- 'laws.FnReadSave', WHERE WHAT IT READS IS OF BULK AT MOST 1048576: true; the input reads as it did. -/
def fnReadSaveUptoRow : OpenClaim := { program := "ytgmcbpnnololmaa", sum := "e4465001cf6e31287ea04bd87f8ce34c979b091f440df878725eb49d76394e58", func := "loop.example/homeconsole/laws.FnReadSave", spec := "fnReadSave", apart := false, narrowed := true }
def FnReadSaveUptoSaid : Prop := fnReadSaveUptoRow.holds Try.pinned (OpenSpec.upto fnReadSaveSpec)

/-- 'laws.FnExactWriteSave', WHERE WHAT IT READS IS OF BULK AT MOST 1048576: true; the input reads as it did. -/
def fnExactWriteSaveUptoRow : OpenClaim := { program := "ytgmcbpnnololmaa", sum := "e4465001cf6e31287ea04bd87f8ce34c979b091f440df878725eb49d76394e58", func := "loop.example/homeconsole/laws.FnExactWriteSave", spec := "fnExactWriteSave", apart := false, narrowed := true }
def FnExactWriteSaveUptoSaid : Prop := fnExactWriteSaveUptoRow.holds Try.pinned (OpenSpec.upto fnExactWriteSaveSpec)

/-- 'laws.FnBestSave', WHERE WHAT IT READS IS OF BULK AT MOST 1048576: true; the input reads as it did. -/
def fnBestSaveUptoRow : OpenClaim := { program := "ytgmcbpnnololmaa", sum := "e4465001cf6e31287ea04bd87f8ce34c979b091f440df878725eb49d76394e58", func := "loop.example/homeconsole/laws.FnBestSave", spec := "fnBestSave", apart := false, narrowed := true }
def FnBestSaveUptoSaid : Prop := fnBestSaveUptoRow.holds Try.pinned (OpenSpec.upto fnBestSaveSpec)

/-- 'laws.FnSaveTwice', WHERE WHAT IT READS IS OF BULK AT MOST 1048576: true; the input reads as it did. -/
def fnSaveTwiceUptoRow : OpenClaim := { program := "ytgmcbpnnololmaa", sum := "e4465001cf6e31287ea04bd87f8ce34c979b091f440df878725eb49d76394e58", func := "loop.example/homeconsole/laws.FnSaveTwice", spec := "fnSaveTwice", apart := false, narrowed := true }
def FnSaveTwiceUptoSaid : Prop := fnSaveTwiceUptoRow.holds Try.pinned (OpenSpec.upto fnSaveTwiceSpec)

/-- 'laws.FnWriteSave', WHERE WHAT IT READS IS OF BULK AT MOST 1048576: true; the input reads as it did. -/
def fnWriteSaveUptoRow : OpenClaim := { program := "ytgmcbpnnololmaa", sum := "e4465001cf6e31287ea04bd87f8ce34c979b091f440df878725eb49d76394e58", func := "loop.example/homeconsole/laws.FnWriteSave", spec := "fnWriteSave", apart := false, narrowed := true }
def FnWriteSaveUptoSaid : Prop := fnWriteSaveUptoRow.holds Try.pinned (OpenSpec.upto fnWriteSaveSpec)

end Rows
end Go.Proofs.Ytgmcbpnnololmaa
