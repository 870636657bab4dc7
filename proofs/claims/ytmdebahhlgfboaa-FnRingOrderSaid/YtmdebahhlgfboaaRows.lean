/-
  No cell of these rows narrows 'for every input' (looked for: loops, veiled, ifaces, maps, wideKeys, modest, calm, conditions, laid).
  DERIVED. THE GIVEN ROWS OF THIS SEAT. 10 by the template 'for every input the law returns true; each argument reads behind the call as it read before'; 0 by the template 'total and deterministic' (their statements: YtmdebahhlgfboaaTotals.lean).
  GIVEN WITH THE SEED: the statements are not yours to turn. If you find one false, say at which input.
  Laid BY PROGRAM, IN A SANDBOX (cutbox-rows.mjs): the forced cells as the released guide's own fill.sh prints them over the translation aa5f2e574dff3d08… (all of the seat's roots in one cut). By AI agents, Wed Nov 11 2026. No macro, syntax, notation, axiom, sorry.
-/
import Derived.Test.YtmdebahhlgfboaaChecked
import GoSem.Claim
import GoSem.ClaimJoined
import GoSem.ClaimMapViews
import Derived.JoinedTies
import Derived.KernelRfl
namespace Go.Proofs.Ytmdebahhlgfboaa
/- THE CELL 'sum', in the pinned program and in every row, IS THE sha256 OF THE DUMP (.gsa) THAT YtmdebahhlgfboaaProg.lean LOADS. Nothing in Lean hashes anything: it is a label: what it is worth is what the hold of that sum in a sandbox is worth. -/
noncomputable def Try.pinned : Pinned := { name := "ytmdebahhlgfboaa", sum := "aa5f2e574dff3d08e16aad81f0556c5424d32eb01f53cdb8b999a0ef740bd009", checked := Try.checked }
namespace Rows
def none {H : Type} : Left H := { results := [], args := [] }

/-- 'laws.FnExactButtonsAt': WHATEVER THE INPUT: true; the input reads as it did. -/
def fnExactButtonsAtSpec : ChangeSpec := { name := "fnExactButtonsAt", fn := fun _ => fun
  | [d1, d2] => { results := [.lit (.bool true)], args := [d1, d2] }
  | _ => none }
def fnExactButtonsAtRow : OpenClaim := { program := "ytmdebahhlgfboaa", sum := "aa5f2e574dff3d08e16aad81f0556c5424d32eb01f53cdb8b999a0ef740bd009", func := "loop.example/homeconsole/laws.FnExactButtonsAt", spec := "fnExactButtonsAt", apart := false }
def FnExactButtonsAtSaid : Prop := fnExactButtonsAtRow.holds Try.pinned (OpenSpec.ofChange fnExactButtonsAtSpec)

/-- ITS FALSE NEIGHBOUR: 'it returns false'. Refute it at one input. -/
def fnExactButtonsAtWrong : ChangeSpec := { name := "fnExactButtonsAt", fn := fun _ => fun
  | [d1, d2] => { results := [.lit (.bool false)], args := [d1, d2] }
  | _ => none }
def FnExactButtonsAtWrongFalsely : Prop := fnExactButtonsAtRow.holds Try.pinned (OpenSpec.ofChange fnExactButtonsAtWrong)

/-- 'laws.FnExactPlayFrames': WHATEVER THE INPUT: true; the input reads as it did. -/
def fnExactPlayFramesSpec : ChangeSpec := { name := "fnExactPlayFrames", fn := fun _ => fun
  | [d] => { results := [.lit (.bool true)], args := [d] }
  | _ => none }
def fnExactPlayFramesRow : OpenClaim := { program := "ytmdebahhlgfboaa", sum := "aa5f2e574dff3d08e16aad81f0556c5424d32eb01f53cdb8b999a0ef740bd009", func := "loop.example/homeconsole/laws.FnExactPlayFrames", spec := "fnExactPlayFrames", apart := false }
def FnExactPlayFramesSaid : Prop := fnExactPlayFramesRow.holds Try.pinned (OpenSpec.ofChange fnExactPlayFramesSpec)

/-- ITS FALSE NEIGHBOUR: 'it returns false'. Refute it at one input. -/
def fnExactPlayFramesWrong : ChangeSpec := { name := "fnExactPlayFrames", fn := fun _ => fun
  | [d] => { results := [.lit (.bool false)], args := [d] }
  | _ => none }
def FnExactPlayFramesWrongFalsely : Prop := fnExactPlayFramesRow.holds Try.pinned (OpenSpec.ofChange fnExactPlayFramesWrong)

/-- 'laws.FnExactRecordFrames': WHATEVER THE INPUT: true; the input reads as it did. -/
def fnExactRecordFramesSpec : ChangeSpec := { name := "fnExactRecordFrames", fn := fun _ => fun
  | [d] => { results := [.lit (.bool true)], args := [d] }
  | _ => none }
def fnExactRecordFramesRow : OpenClaim := { program := "ytmdebahhlgfboaa", sum := "aa5f2e574dff3d08e16aad81f0556c5424d32eb01f53cdb8b999a0ef740bd009", func := "loop.example/homeconsole/laws.FnExactRecordFrames", spec := "fnExactRecordFrames", apart := false }
def FnExactRecordFramesSaid : Prop := fnExactRecordFramesRow.holds Try.pinned (OpenSpec.ofChange fnExactRecordFramesSpec)

/-- ITS FALSE NEIGHBOUR: 'it returns false'. Refute it at one input. -/
def fnExactRecordFramesWrong : ChangeSpec := { name := "fnExactRecordFrames", fn := fun _ => fun
  | [d] => { results := [.lit (.bool false)], args := [d] }
  | _ => none }
def FnExactRecordFramesWrongFalsely : Prop := fnExactRecordFramesRow.holds Try.pinned (OpenSpec.ofChange fnExactRecordFramesWrong)

/-- 'laws.FnRecordDouble': WHATEVER THE INPUT: true; the input reads as it did. -/
def fnRecordDoubleSpec : ChangeSpec := { name := "fnRecordDouble", fn := fun _ => fun
  | [d] => { results := [.lit (.bool true)], args := [d] }
  | _ => none }
def fnRecordDoubleRow : OpenClaim := { program := "ytmdebahhlgfboaa", sum := "aa5f2e574dff3d08e16aad81f0556c5424d32eb01f53cdb8b999a0ef740bd009", func := "loop.example/homeconsole/laws.FnRecordDouble", spec := "fnRecordDouble", apart := false }
def FnRecordDoubleSaid : Prop := fnRecordDoubleRow.holds Try.pinned (OpenSpec.ofChange fnRecordDoubleSpec)

/-- ITS FALSE NEIGHBOUR: 'it returns false'. Refute it at one input. -/
def fnRecordDoubleWrong : ChangeSpec := { name := "fnRecordDouble", fn := fun _ => fun
  | [d] => { results := [.lit (.bool false)], args := [d] }
  | _ => none }
def FnRecordDoubleWrongFalsely : Prop := fnRecordDoubleRow.holds Try.pinned (OpenSpec.ofChange fnRecordDoubleWrong)

/-- 'laws.FnButtonsAt': WHATEVER THE INPUT: true; the input reads as it did. -/
def fnButtonsAtSpec : ChangeSpec := { name := "fnButtonsAt", fn := fun _ => fun
  | [d] => { results := [.lit (.bool true)], args := [d] }
  | _ => none }
def fnButtonsAtRow : OpenClaim := { program := "ytmdebahhlgfboaa", sum := "aa5f2e574dff3d08e16aad81f0556c5424d32eb01f53cdb8b999a0ef740bd009", func := "loop.example/homeconsole/laws.FnButtonsAt", spec := "fnButtonsAt", apart := false }
def FnButtonsAtSaid : Prop := fnButtonsAtRow.holds Try.pinned (OpenSpec.ofChange fnButtonsAtSpec)

/-- ITS FALSE NEIGHBOUR: 'it returns false'. Refute it at one input. -/
def fnButtonsAtWrong : ChangeSpec := { name := "fnButtonsAt", fn := fun _ => fun
  | [d] => { results := [.lit (.bool false)], args := [d] }
  | _ => none }
def FnButtonsAtWrongFalsely : Prop := fnButtonsAtRow.holds Try.pinned (OpenSpec.ofChange fnButtonsAtWrong)

/-- 'laws.FnRecordFrames': WHATEVER THE INPUT: true; the input reads as it did. -/
def fnRecordFramesSpec : ChangeSpec := { name := "fnRecordFrames", fn := fun _ => fun
  | [d] => { results := [.lit (.bool true)], args := [d] }
  | _ => none }
def fnRecordFramesRow : OpenClaim := { program := "ytmdebahhlgfboaa", sum := "aa5f2e574dff3d08e16aad81f0556c5424d32eb01f53cdb8b999a0ef740bd009", func := "loop.example/homeconsole/laws.FnRecordFrames", spec := "fnRecordFrames", apart := false }
def FnRecordFramesSaid : Prop := fnRecordFramesRow.holds Try.pinned (OpenSpec.ofChange fnRecordFramesSpec)

/-- ITS FALSE NEIGHBOUR: 'it returns false'. Refute it at one input. -/
def fnRecordFramesWrong : ChangeSpec := { name := "fnRecordFrames", fn := fun _ => fun
  | [d] => { results := [.lit (.bool false)], args := [d] }
  | _ => none }
def FnRecordFramesWrongFalsely : Prop := fnRecordFramesRow.holds Try.pinned (OpenSpec.ofChange fnRecordFramesWrong)

/-- 'laws.FnPlayFrames': WHATEVER THE INPUT: true; the input reads as it did. -/
def fnPlayFramesSpec : ChangeSpec := { name := "fnPlayFrames", fn := fun _ => fun
  | [d] => { results := [.lit (.bool true)], args := [d] }
  | _ => none }
def fnPlayFramesRow : OpenClaim := { program := "ytmdebahhlgfboaa", sum := "aa5f2e574dff3d08e16aad81f0556c5424d32eb01f53cdb8b999a0ef740bd009", func := "loop.example/homeconsole/laws.FnPlayFrames", spec := "fnPlayFrames", apart := false }
def FnPlayFramesSaid : Prop := fnPlayFramesRow.holds Try.pinned (OpenSpec.ofChange fnPlayFramesSpec)

/-- ITS FALSE NEIGHBOUR: 'it returns false'. Refute it at one input. -/
def fnPlayFramesWrong : ChangeSpec := { name := "fnPlayFrames", fn := fun _ => fun
  | [d] => { results := [.lit (.bool false)], args := [d] }
  | _ => none }
def FnPlayFramesWrongFalsely : Prop := fnPlayFramesRow.holds Try.pinned (OpenSpec.ofChange fnPlayFramesWrong)

/-- 'laws.FnKeepState': WHATEVER THE INPUT: true; the input reads as it did. -/
def fnKeepStateSpec : ChangeSpec := { name := "fnKeepState", fn := fun _ => fun
  | [d] => { results := [.lit (.bool true)], args := [d] }
  | _ => none }
def fnKeepStateRow : OpenClaim := { program := "ytmdebahhlgfboaa", sum := "aa5f2e574dff3d08e16aad81f0556c5424d32eb01f53cdb8b999a0ef740bd009", func := "loop.example/homeconsole/laws.FnKeepState", spec := "fnKeepState", apart := false }
def FnKeepStateSaid : Prop := fnKeepStateRow.holds Try.pinned (OpenSpec.ofChange fnKeepStateSpec)

/-- ITS FALSE NEIGHBOUR: 'it returns false'. Refute it at one input. -/
def fnKeepStateWrong : ChangeSpec := { name := "fnKeepState", fn := fun _ => fun
  | [d] => { results := [.lit (.bool false)], args := [d] }
  | _ => none }
def FnKeepStateWrongFalsely : Prop := fnKeepStateRow.holds Try.pinned (OpenSpec.ofChange fnKeepStateWrong)

/-- 'laws.FnRingOrder': WHATEVER THE INPUT: true; the input reads as it did. -/
def fnRingOrderSpec : ChangeSpec := { name := "fnRingOrder", fn := fun _ => fun
  | [d] => { results := [.lit (.bool true)], args := [d] }
  | _ => none }
def fnRingOrderRow : OpenClaim := { program := "ytmdebahhlgfboaa", sum := "aa5f2e574dff3d08e16aad81f0556c5424d32eb01f53cdb8b999a0ef740bd009", func := "loop.example/homeconsole/laws.FnRingOrder", spec := "fnRingOrder", apart := false }
def FnRingOrderSaid : Prop := fnRingOrderRow.holds Try.pinned (OpenSpec.ofChange fnRingOrderSpec)

/-- ITS FALSE NEIGHBOUR: 'it returns false'. Refute it at one input. -/
def fnRingOrderWrong : ChangeSpec := { name := "fnRingOrder", fn := fun _ => fun
  | [d] => { results := [.lit (.bool false)], args := [d] }
  | _ => none }
def FnRingOrderWrongFalsely : Prop := fnRingOrderRow.holds Try.pinned (OpenSpec.ofChange fnRingOrderWrong)

/-- 'laws.FnExactKeepState': WHATEVER THE INPUT: true; the input reads as it did. -/
def fnExactKeepStateSpec : ChangeSpec := { name := "fnExactKeepState", fn := fun _ => fun
  | [d1, d2, d3] => { results := [.lit (.bool true)], args := [d1, d2, d3] }
  | _ => none }
def fnExactKeepStateRow : OpenClaim := { program := "ytmdebahhlgfboaa", sum := "aa5f2e574dff3d08e16aad81f0556c5424d32eb01f53cdb8b999a0ef740bd009", func := "loop.example/homeconsole/laws.FnExactKeepState", spec := "fnExactKeepState", apart := false }
def FnExactKeepStateSaid : Prop := fnExactKeepStateRow.holds Try.pinned (OpenSpec.ofChange fnExactKeepStateSpec)

/-- ITS FALSE NEIGHBOUR: 'it returns false'. Refute it at one input. -/
def fnExactKeepStateWrong : ChangeSpec := { name := "fnExactKeepState", fn := fun _ => fun
  | [d1, d2, d3] => { results := [.lit (.bool false)], args := [d1, d2, d3] }
  | _ => none }
def FnExactKeepStateWrongFalsely : Prop := fnExactKeepStateRow.holds Try.pinned (OpenSpec.ofChange fnExactKeepStateWrong)

/- THE SECOND FORM. 'bulk': how many values and letters a reading holds, each counted each time it is reached (what is shared counts as often as it is met; a slice's spare places count too). A statement '..UptoSaid' is the law's where the arguments, and the package variables that the reading takes, are together of bulk at most 1048576: NARROWER than '..Said'. Prove '..Said' where nothing that the law and all that it calls make is longer than what came in: it says more and counts as full. Else prove '..UptoSaid'. A law counts once. -/
mutual
def uptoBulk {H : Type} : DataW H → Nat
  | .lit (.string bytes) => bytes.length + 1
  | .lit _ => 1
  | .nil => 1
  | .ptr d => uptoBulk d + 1
  | .slice elems spare => uptoBulkAll elems + uptoBulkAll spare + 1
  | .agg parts => uptoBulkAll parts + 1
  | .iface _ d => uptoBulk d + 1
  | .map entries => uptoBulkEntries entries + 1
  | .held _ => 1
def uptoBulkAll {H : Type} : List (DataW H) → Nat
  | [] => 0
  | d :: r => uptoBulk d + uptoBulkAll r
def uptoBulkEntries {H : Type} : List (Lit × DataW H) → Nat
  | [] => 0
  | x :: r => uptoBulkEntry x + uptoBulkEntries r
def uptoBulkEntry {H : Type} : Lit × DataW H → Nat
  | (.string bytes, d) => bytes.length + uptoBulk d + 1
  | (_, d) => uptoBulk d + 1
 end
def uptoSmall : (H : Type) → List (DataW H) → Bool := fun _ ds => decide (uptoBulkAll ds ≤ 1048576)
def OpenSpec.upto (s : _root_.Go.ChangeSpec) : _root_.Go.OpenSpec := { _root_.Go.OpenSpec.ofChange s with cond := some uptoSmall }

/-- 'laws.FnExactButtonsAt', WHERE WHAT IT READS IS OF BULK AT MOST 1048576: true; the input reads as it did. -/
def fnExactButtonsAtUptoRow : OpenClaim := { program := "ytmdebahhlgfboaa", sum := "aa5f2e574dff3d08e16aad81f0556c5424d32eb01f53cdb8b999a0ef740bd009", func := "loop.example/homeconsole/laws.FnExactButtonsAt", spec := "fnExactButtonsAt", apart := false, narrowed := true }
def FnExactButtonsAtUptoSaid : Prop := fnExactButtonsAtUptoRow.holds Try.pinned (OpenSpec.upto fnExactButtonsAtSpec)

/-- 'laws.FnExactPlayFrames', WHERE WHAT IT READS IS OF BULK AT MOST 1048576: true; the input reads as it did. -/
def fnExactPlayFramesUptoRow : OpenClaim := { program := "ytmdebahhlgfboaa", sum := "aa5f2e574dff3d08e16aad81f0556c5424d32eb01f53cdb8b999a0ef740bd009", func := "loop.example/homeconsole/laws.FnExactPlayFrames", spec := "fnExactPlayFrames", apart := false, narrowed := true }
def FnExactPlayFramesUptoSaid : Prop := fnExactPlayFramesUptoRow.holds Try.pinned (OpenSpec.upto fnExactPlayFramesSpec)

/-- 'laws.FnExactRecordFrames', WHERE WHAT IT READS IS OF BULK AT MOST 1048576: true; the input reads as it did. -/
def fnExactRecordFramesUptoRow : OpenClaim := { program := "ytmdebahhlgfboaa", sum := "aa5f2e574dff3d08e16aad81f0556c5424d32eb01f53cdb8b999a0ef740bd009", func := "loop.example/homeconsole/laws.FnExactRecordFrames", spec := "fnExactRecordFrames", apart := false, narrowed := true }
def FnExactRecordFramesUptoSaid : Prop := fnExactRecordFramesUptoRow.holds Try.pinned (OpenSpec.upto fnExactRecordFramesSpec)

/-- 'laws.FnRecordDouble', WHERE WHAT IT READS IS OF BULK AT MOST 1048576: true; the input reads as it did. -/
def fnRecordDoubleUptoRow : OpenClaim := { program := "ytmdebahhlgfboaa", sum := "aa5f2e574dff3d08e16aad81f0556c5424d32eb01f53cdb8b999a0ef740bd009", func := "loop.example/homeconsole/laws.FnRecordDouble", spec := "fnRecordDouble", apart := false, narrowed := true }
def FnRecordDoubleUptoSaid : Prop := fnRecordDoubleUptoRow.holds Try.pinned (OpenSpec.upto fnRecordDoubleSpec)

/-- 'laws.FnButtonsAt', WHERE WHAT IT READS IS OF BULK AT MOST 1048576: true; the input reads as it did. -/
def fnButtonsAtUptoRow : OpenClaim := { program := "ytmdebahhlgfboaa", sum := "aa5f2e574dff3d08e16aad81f0556c5424d32eb01f53cdb8b999a0ef740bd009", func := "loop.example/homeconsole/laws.FnButtonsAt", spec := "fnButtonsAt", apart := false, narrowed := true }
def FnButtonsAtUptoSaid : Prop := fnButtonsAtUptoRow.holds Try.pinned (OpenSpec.upto fnButtonsAtSpec)

/-- 'laws.FnRecordFrames', WHERE WHAT IT READS IS OF BULK AT MOST 1048576: true; the input reads as it did. -/
def fnRecordFramesUptoRow : OpenClaim := { program := "ytmdebahhlgfboaa", sum := "aa5f2e574dff3d08e16aad81f0556c5424d32eb01f53cdb8b999a0ef740bd009", func := "loop.example/homeconsole/laws.FnRecordFrames", spec := "fnRecordFrames", apart := false, narrowed := true }
def FnRecordFramesUptoSaid : Prop := fnRecordFramesUptoRow.holds Try.pinned (OpenSpec.upto fnRecordFramesSpec)

/-- 'laws.FnPlayFrames', WHERE WHAT IT READS IS OF BULK AT MOST 1048576: true; the input reads as it did. -/
def fnPlayFramesUptoRow : OpenClaim := { program := "ytmdebahhlgfboaa", sum := "aa5f2e574dff3d08e16aad81f0556c5424d32eb01f53cdb8b999a0ef740bd009", func := "loop.example/homeconsole/laws.FnPlayFrames", spec := "fnPlayFrames", apart := false, narrowed := true }
def FnPlayFramesUptoSaid : Prop := fnPlayFramesUptoRow.holds Try.pinned (OpenSpec.upto fnPlayFramesSpec)

/-- 'laws.FnKeepState', WHERE WHAT IT READS IS OF BULK AT MOST 1048576: true; the input reads as it did. -/
def fnKeepStateUptoRow : OpenClaim := { program := "ytmdebahhlgfboaa", sum := "aa5f2e574dff3d08e16aad81f0556c5424d32eb01f53cdb8b999a0ef740bd009", func := "loop.example/homeconsole/laws.FnKeepState", spec := "fnKeepState", apart := false, narrowed := true }
def FnKeepStateUptoSaid : Prop := fnKeepStateUptoRow.holds Try.pinned (OpenSpec.upto fnKeepStateSpec)

/-- 'laws.FnRingOrder', WHERE WHAT IT READS IS OF BULK AT MOST 1048576: true; the input reads as it did. -/
def fnRingOrderUptoRow : OpenClaim := { program := "ytmdebahhlgfboaa", sum := "aa5f2e574dff3d08e16aad81f0556c5424d32eb01f53cdb8b999a0ef740bd009", func := "loop.example/homeconsole/laws.FnRingOrder", spec := "fnRingOrder", apart := false, narrowed := true }
def FnRingOrderUptoSaid : Prop := fnRingOrderUptoRow.holds Try.pinned (OpenSpec.upto fnRingOrderSpec)

/-- 'laws.FnExactKeepState', WHERE WHAT IT READS IS OF BULK AT MOST 1048576: true; the input reads as it did. -/
def fnExactKeepStateUptoRow : OpenClaim := { program := "ytmdebahhlgfboaa", sum := "aa5f2e574dff3d08e16aad81f0556c5424d32eb01f53cdb8b999a0ef740bd009", func := "loop.example/homeconsole/laws.FnExactKeepState", spec := "fnExactKeepState", apart := false, narrowed := true }
def FnExactKeepStateUptoSaid : Prop := fnExactKeepStateUptoRow.holds Try.pinned (OpenSpec.upto fnExactKeepStateSpec)

end Rows
end Go.Proofs.Ytmdebahhlgfboaa
