/-
  No cell of these rows narrows 'for every input' (looked for: loops, veiled, ifaces, maps, wideKeys, modest, calm, conditions, laid).
  DERIVED. THE GIVEN ROWS OF THIS SEAT. 8 by the template 'for every input the law returns true; each argument reads behind the call as it read before'; 0 by the template 'total and deterministic' (their statements: YtkcabllnlbcgdaaTotals.lean).
  GIVEN WITH THE SEED: the statements are not yours to turn. If you find one false, say at which input.
  Laid BY PROGRAM, IN A SANDBOX (cutbox-rows.mjs): the forced cells as the released guide's own fill.sh prints them over the translation 5ed577eb7c99a739… (all of the seat's roots in one cut). By AI agents, Wed Nov 11 2026. No macro, syntax, notation, axiom, sorry.
-/
import Derived.Test.YtkcabllnlbcgdaaChecked
import GoSem.Claim
import GoSem.ClaimJoined
import GoSem.ClaimMapViews
import Derived.JoinedTies
import Derived.KernelRfl
namespace Go.Proofs.Ytkcabllnlbcgdaa
/- THE CELL 'sum', in the pinned program and in every row, IS THE sha256 OF THE DUMP (.gsa) THAT YtkcabllnlbcgdaaProg.lean LOADS. Nothing in Lean hashes anything: it is a label: what it is worth is what the hold of that sum in a sandbox is worth. -/
noncomputable def Try.pinned : Pinned := { name := "ytkcabllnlbcgdaa", sum := "5ed577eb7c99a739b3087ac39a50ccad05489aaf8b650fd92863d8e731de2b12", checked := Try.checked }
namespace Rows
def none {H : Type} : Left H := { results := [], args := [] }

/-- 'laws.FnBeamFirst': WHATEVER THE INPUT: true; the input reads as it did. -/
def fnBeamFirstSpec : ChangeSpec := { name := "fnBeamFirst", fn := fun _ => fun
  | [d] => { results := [.lit (.bool true)], args := [d] }
  | _ => none }
def fnBeamFirstRow : OpenClaim := { program := "ytkcabllnlbcgdaa", sum := "5ed577eb7c99a739b3087ac39a50ccad05489aaf8b650fd92863d8e731de2b12", func := "loop.example/homeconsole/laws.FnBeamFirst", spec := "fnBeamFirst", apart := false }
def FnBeamFirstSaid : Prop := fnBeamFirstRow.holds Try.pinned (OpenSpec.ofChange fnBeamFirstSpec)

/-- ITS FALSE NEIGHBOUR: 'it returns false'. Refute it at one input. -/
def fnBeamFirstWrong : ChangeSpec := { name := "fnBeamFirst", fn := fun _ => fun
  | [d] => { results := [.lit (.bool false)], args := [d] }
  | _ => none }
def FnBeamFirstWrongFalsely : Prop := fnBeamFirstRow.holds Try.pinned (OpenSpec.ofChange fnBeamFirstWrong)

/-- 'laws.FnBeamLine': WHATEVER THE INPUT: true; the input reads as it did. -/
def fnBeamLineSpec : ChangeSpec := { name := "fnBeamLine", fn := fun _ => fun
  | [d] => { results := [.lit (.bool true)], args := [d] }
  | _ => none }
def fnBeamLineRow : OpenClaim := { program := "ytkcabllnlbcgdaa", sum := "5ed577eb7c99a739b3087ac39a50ccad05489aaf8b650fd92863d8e731de2b12", func := "loop.example/homeconsole/laws.FnBeamLine", spec := "fnBeamLine", apart := false }
def FnBeamLineSaid : Prop := fnBeamLineRow.holds Try.pinned (OpenSpec.ofChange fnBeamLineSpec)

/-- ITS FALSE NEIGHBOUR: 'it returns false'. Refute it at one input. -/
def fnBeamLineWrong : ChangeSpec := { name := "fnBeamLine", fn := fun _ => fun
  | [d] => { results := [.lit (.bool false)], args := [d] }
  | _ => none }
def FnBeamLineWrongFalsely : Prop := fnBeamLineRow.holds Try.pinned (OpenSpec.ofChange fnBeamLineWrong)

/-- 'laws.FnExactBeamLine': WHATEVER THE INPUT: true; the input reads as it did. -/
def fnExactBeamLineSpec : ChangeSpec := { name := "fnExactBeamLine", fn := fun _ => fun
  | [d1, d2, d3] => { results := [.lit (.bool true)], args := [d1, d2, d3] }
  | _ => none }
def fnExactBeamLineRow : OpenClaim := { program := "ytkcabllnlbcgdaa", sum := "5ed577eb7c99a739b3087ac39a50ccad05489aaf8b650fd92863d8e731de2b12", func := "loop.example/homeconsole/laws.FnExactBeamLine", spec := "fnExactBeamLine", apart := false }
def FnExactBeamLineSaid : Prop := fnExactBeamLineRow.holds Try.pinned (OpenSpec.ofChange fnExactBeamLineSpec)

/-- ITS FALSE NEIGHBOUR: 'it returns false'. Refute it at one input. -/
def fnExactBeamLineWrong : ChangeSpec := { name := "fnExactBeamLine", fn := fun _ => fun
  | [d1, d2, d3] => { results := [.lit (.bool false)], args := [d1, d2, d3] }
  | _ => none }
def FnExactBeamLineWrongFalsely : Prop := fnExactBeamLineRow.holds Try.pinned (OpenSpec.ofChange fnExactBeamLineWrong)

/-- 'laws.FnExactSceneLine': WHATEVER THE INPUT: true; the input reads as it did. -/
def fnExactSceneLineSpec : ChangeSpec := { name := "fnExactSceneLine", fn := fun _ => fun
  | [d1, d2] => { results := [.lit (.bool true)], args := [d1, d2] }
  | _ => none }
def fnExactSceneLineRow : OpenClaim := { program := "ytkcabllnlbcgdaa", sum := "5ed577eb7c99a739b3087ac39a50ccad05489aaf8b650fd92863d8e731de2b12", func := "loop.example/homeconsole/laws.FnExactSceneLine", spec := "fnExactSceneLine", apart := false }
def FnExactSceneLineSaid : Prop := fnExactSceneLineRow.holds Try.pinned (OpenSpec.ofChange fnExactSceneLineSpec)

/-- ITS FALSE NEIGHBOUR: 'it returns false'. Refute it at one input. -/
def fnExactSceneLineWrong : ChangeSpec := { name := "fnExactSceneLine", fn := fun _ => fun
  | [d1, d2] => { results := [.lit (.bool false)], args := [d1, d2] }
  | _ => none }
def FnExactSceneLineWrongFalsely : Prop := fnExactSceneLineRow.holds Try.pinned (OpenSpec.ofChange fnExactSceneLineWrong)

/-- 'laws.FnSceneHash': WHATEVER THE INPUT: true; the input reads as it did. -/
def fnSceneHashSpec : ChangeSpec := { name := "fnSceneHash", fn := fun _ => fun
  | [d] => { results := [.lit (.bool true)], args := [d] }
  | _ => none }
def fnSceneHashRow : OpenClaim := { program := "ytkcabllnlbcgdaa", sum := "5ed577eb7c99a739b3087ac39a50ccad05489aaf8b650fd92863d8e731de2b12", func := "loop.example/homeconsole/laws.FnSceneHash", spec := "fnSceneHash", apart := false }
def FnSceneHashSaid : Prop := fnSceneHashRow.holds Try.pinned (OpenSpec.ofChange fnSceneHashSpec)

/-- ITS FALSE NEIGHBOUR: 'it returns false'. Refute it at one input. -/
def fnSceneHashWrong : ChangeSpec := { name := "fnSceneHash", fn := fun _ => fun
  | [d] => { results := [.lit (.bool false)], args := [d] }
  | _ => none }
def FnSceneHashWrongFalsely : Prop := fnSceneHashRow.holds Try.pinned (OpenSpec.ofChange fnSceneHashWrong)

/-- 'laws.FnExactFirstTouch': WHATEVER THE INPUT: true; the input reads as it did. -/
def fnExactFirstTouchSpec : ChangeSpec := { name := "fnExactFirstTouch", fn := fun _ => fun
  | [d] => { results := [.lit (.bool true)], args := [d] }
  | _ => none }
def fnExactFirstTouchRow : OpenClaim := { program := "ytkcabllnlbcgdaa", sum := "5ed577eb7c99a739b3087ac39a50ccad05489aaf8b650fd92863d8e731de2b12", func := "loop.example/homeconsole/laws.FnExactFirstTouch", spec := "fnExactFirstTouch", apart := false }
def FnExactFirstTouchSaid : Prop := fnExactFirstTouchRow.holds Try.pinned (OpenSpec.ofChange fnExactFirstTouchSpec)

/-- ITS FALSE NEIGHBOUR: 'it returns false'. Refute it at one input. -/
def fnExactFirstTouchWrong : ChangeSpec := { name := "fnExactFirstTouch", fn := fun _ => fun
  | [d] => { results := [.lit (.bool false)], args := [d] }
  | _ => none }
def FnExactFirstTouchWrongFalsely : Prop := fnExactFirstTouchRow.holds Try.pinned (OpenSpec.ofChange fnExactFirstTouchWrong)

/-- 'laws.FnExactScenePixel': WHATEVER THE INPUT: true; the input reads as it did. -/
def fnExactScenePixelSpec : ChangeSpec := { name := "fnExactScenePixel", fn := fun _ => fun
  | [d1, d2, d3] => { results := [.lit (.bool true)], args := [d1, d2, d3] }
  | _ => none }
def fnExactScenePixelRow : OpenClaim := { program := "ytkcabllnlbcgdaa", sum := "5ed577eb7c99a739b3087ac39a50ccad05489aaf8b650fd92863d8e731de2b12", func := "loop.example/homeconsole/laws.FnExactScenePixel", spec := "fnExactScenePixel", apart := false }
def FnExactScenePixelSaid : Prop := fnExactScenePixelRow.holds Try.pinned (OpenSpec.ofChange fnExactScenePixelSpec)

/-- ITS FALSE NEIGHBOUR: 'it returns false'. Refute it at one input. -/
def fnExactScenePixelWrong : ChangeSpec := { name := "fnExactScenePixel", fn := fun _ => fun
  | [d1, d2, d3] => { results := [.lit (.bool false)], args := [d1, d2, d3] }
  | _ => none }
def FnExactScenePixelWrongFalsely : Prop := fnExactScenePixelRow.holds Try.pinned (OpenSpec.ofChange fnExactScenePixelWrong)

/-- 'laws.FnExactSceneHash': WHATEVER THE INPUT: true; the input reads as it did. -/
def fnExactSceneHashSpec : ChangeSpec := { name := "fnExactSceneHash", fn := fun _ => fun
  | [d] => { results := [.lit (.bool true)], args := [d] }
  | _ => none }
def fnExactSceneHashRow : OpenClaim := { program := "ytkcabllnlbcgdaa", sum := "5ed577eb7c99a739b3087ac39a50ccad05489aaf8b650fd92863d8e731de2b12", func := "loop.example/homeconsole/laws.FnExactSceneHash", spec := "fnExactSceneHash", apart := false }
def FnExactSceneHashSaid : Prop := fnExactSceneHashRow.holds Try.pinned (OpenSpec.ofChange fnExactSceneHashSpec)

/-- ITS FALSE NEIGHBOUR: 'it returns false'. Refute it at one input. -/
def fnExactSceneHashWrong : ChangeSpec := { name := "fnExactSceneHash", fn := fun _ => fun
  | [d] => { results := [.lit (.bool false)], args := [d] }
  | _ => none }
def FnExactSceneHashWrongFalsely : Prop := fnExactSceneHashRow.holds Try.pinned (OpenSpec.ofChange fnExactSceneHashWrong)

/- THE SECOND FORM. 'bulk': how many values and letters a reading holds, each counted each time it is reached (what is shared counts as often as it is met; a slice's spare places count too). A statement '..UptoSaid' is the law's where the arguments, and the package variables that the reading takes, are together of bulk at most 1048576: NARROWER than '..Said'. Prove '..Said' where nothing that the law and all that it calls make is longer than what came in: it says more and counts as full. Else prove '..UptoSaid'. A law counts once. -/
mutual
def uptoBulk {H : Type} : DataW H → Nat
  | .lit (.string bytes) => bytes.length + 1
  | .lit _ => 1
  | .nil => 1
  | .ptr d => uptoBulk d + 1
  | .slice elems spare => uptoBulkAll elems + uptoBulkAll spare + 1
  | .agg parts => uptoBulkAll parts + 1
  | .iface _ d => uptoBulk d + 1
  | .map entries => uptoBulkEntries entries + 1
  | .held _ => 1
def uptoBulkAll {H : Type} : List (DataW H) → Nat
  | [] => 0
  | d :: r => uptoBulk d + uptoBulkAll r
def uptoBulkEntries {H : Type} : List (Lit × DataW H) → Nat
  | [] => 0
  | x :: r => uptoBulkEntry x + uptoBulkEntries r
def uptoBulkEntry {H : Type} : Lit × DataW H → Nat
  | (.string bytes, d) => bytes.length + uptoBulk d + 1
  | (_, d) => uptoBulk d + 1
 end
def uptoSmall : (H : Type) → List (DataW H) → Bool := fun _ ds => decide (uptoBulkAll ds ≤ 1048576)
def OpenSpec.upto (s : _root_.Go.ChangeSpec) : _root_.Go.OpenSpec := { _root_.Go.OpenSpec.ofChange s with cond := some uptoSmall }

/-- 'laws.FnBeamFirst', WHERE WHAT IT READS IS OF BULK AT MOST 1048576: true; the input reads as it did. -/
def fnBeamFirstUptoRow : OpenClaim := { program := "ytkcabllnlbcgdaa", sum := "5ed577eb7c99a739b3087ac39a50ccad05489aaf8b650fd92863d8e731de2b12", func := "loop.example/homeconsole/laws.FnBeamFirst", spec := "fnBeamFirst", apart := false, narrowed := true }
def FnBeamFirstUptoSaid : Prop := fnBeamFirstUptoRow.holds Try.pinned (OpenSpec.upto fnBeamFirstSpec)

/-- 'laws.FnBeamLine', WHERE WHAT IT READS IS OF BULK AT MOST 1048576: true; the input reads as it did. -/
def fnBeamLineUptoRow : OpenClaim := { program := "ytkcabllnlbcgdaa", sum := "5ed577eb7c99a739b3087ac39a50ccad05489aaf8b650fd92863d8e731de2b12", func := "loop.example/homeconsole/laws.FnBeamLine", spec := "fnBeamLine", apart := false, narrowed := true }
def FnBeamLineUptoSaid : Prop := fnBeamLineUptoRow.holds Try.pinned (OpenSpec.upto fnBeamLineSpec)

/-- 'laws.FnExactBeamLine', WHERE WHAT IT READS IS OF BULK AT MOST 1048576: true; the input reads as it did. -/
def fnExactBeamLineUptoRow : OpenClaim := { program := "ytkcabllnlbcgdaa", sum := "5ed577eb7c99a739b3087ac39a50ccad05489aaf8b650fd92863d8e731de2b12", func := "loop.example/homeconsole/laws.FnExactBeamLine", spec := "fnExactBeamLine", apart := false, narrowed := true }
def FnExactBeamLineUptoSaid : Prop := fnExactBeamLineUptoRow.holds Try.pinned (OpenSpec.upto fnExactBeamLineSpec)

/-- 'laws.FnExactSceneLine', WHERE WHAT IT READS IS OF BULK AT MOST 1048576: true; the input reads as it did. -/
def fnExactSceneLineUptoRow : OpenClaim := { program := "ytkcabllnlbcgdaa", sum := "5ed577eb7c99a739b3087ac39a50ccad05489aaf8b650fd92863d8e731de2b12", func := "loop.example/homeconsole/laws.FnExactSceneLine", spec := "fnExactSceneLine", apart := false, narrowed := true }
def FnExactSceneLineUptoSaid : Prop := fnExactSceneLineUptoRow.holds Try.pinned (OpenSpec.upto fnExactSceneLineSpec)

/-- 'laws.FnSceneHash', WHERE WHAT IT READS IS OF BULK AT MOST 1048576: true; the input reads as it did. -/
def fnSceneHashUptoRow : OpenClaim := { program := "ytkcabllnlbcgdaa", sum := "5ed577eb7c99a739b3087ac39a50ccad05489aaf8b650fd92863d8e731de2b12", func := "loop.example/homeconsole/laws.FnSceneHash", spec := "fnSceneHash", apart := false, narrowed := true }
def FnSceneHashUptoSaid : Prop := fnSceneHashUptoRow.holds Try.pinned (OpenSpec.upto fnSceneHashSpec)

/-- 'laws.FnExactFirstTouch', WHERE WHAT IT READS IS OF BULK AT MOST 1048576: true; the input reads as it did. -/
def fnExactFirstTouchUptoRow : OpenClaim := { program := "ytkcabllnlbcgdaa", sum := "5ed577eb7c99a739b3087ac39a50ccad05489aaf8b650fd92863d8e731de2b12", func := "loop.example/homeconsole/laws.FnExactFirstTouch", spec := "fnExactFirstTouch", apart := false, narrowed := true }
def FnExactFirstTouchUptoSaid : Prop := fnExactFirstTouchUptoRow.holds Try.pinned (OpenSpec.upto fnExactFirstTouchSpec)

/-- 'laws.FnExactScenePixel', WHERE WHAT IT READS IS OF BULK AT MOST 1048576: true; the input reads as it did. -/
def fnExactScenePixelUptoRow : OpenClaim := { program := "ytkcabllnlbcgdaa", sum := "5ed577eb7c99a739b3087ac39a50ccad05489aaf8b650fd92863d8e731de2b12", func := "loop.example/homeconsole/laws.FnExactScenePixel", spec := "fnExactScenePixel", apart := false, narrowed := true }
def FnExactScenePixelUptoSaid : Prop := fnExactScenePixelUptoRow.holds Try.pinned (OpenSpec.upto fnExactScenePixelSpec)

/-- 'laws.FnExactSceneHash', WHERE WHAT IT READS IS OF BULK AT MOST 1048576: true; the input reads as it did. -/
def fnExactSceneHashUptoRow : OpenClaim := { program := "ytkcabllnlbcgdaa", sum := "5ed577eb7c99a739b3087ac39a50ccad05489aaf8b650fd92863d8e731de2b12", func := "loop.example/homeconsole/laws.FnExactSceneHash", spec := "fnExactSceneHash", apart := false, narrowed := true }
def FnExactSceneHashUptoSaid : Prop := fnExactSceneHashUptoRow.holds Try.pinned (OpenSpec.upto fnExactSceneHashSpec)

end Rows
end Go.Proofs.Ytkcabllnlbcgdaa
