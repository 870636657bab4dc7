/-
  No cell of these rows narrows 'for every input' (looked for: loops, veiled, ifaces, maps, wideKeys, modest, calm, conditions, laid).
  DERIVED. THE GIVEN ROWS OF THIS SEAT. 12 by the template 'for every input the law returns true; each argument reads behind the call as it read before'; 0 by the template 'total and deterministic' (their statements: YtmenehgbhgehjaaTotals.lean).
  GIVEN WITH THE SEED: the statements are not yours to turn. If you find one false, say at which input.
  Laid BY PROGRAM, IN A SANDBOX (cutbox-rows.mjs): the forced cells as the released guide's own fill.sh prints them over the translation a49ad645efdc1e58… (all of the seat's roots in one cut). By AI agents, Wed Nov 11 2026. No macro, syntax, notation, axiom, sorry.
-/
import Derived.Test.YtmenehgbhgehjaaChecked
import GoSem.Claim
import GoSem.ClaimJoined
import GoSem.ClaimMapViews
import Derived.JoinedTies
import Derived.KernelRfl
namespace Go.Proofs.Ytmenehgbhgehjaa
/- THE CELL 'sum', in the pinned program and in every row, IS THE sha256 OF THE DUMP (.gsa) THAT YtmenehgbhgehjaaProg.lean LOADS. Nothing in Lean hashes anything: it is a label: what it is worth is what the hold of that sum in a sandbox is worth. -/
noncomputable def Try.pinned : Pinned := { name := "ytmenehgbhgehjaa", sum := "a49ad645efdc1e5822b547505076a4f53fb8ed3581b17df292d3ed1f96ce4257", checked := Try.checked }
namespace Rows
def none {H : Type} : Left H := { results := [], args := [] }

/-- 'laws.FnSkipVoice': WHATEVER THE INPUT: true; the input reads as it did. -/
def fnSkipVoiceSpec : ChangeSpec := { name := "fnSkipVoice", fn := fun _ => fun
  | [d] => { results := [.lit (.bool true)], args := [d] }
  | _ => none }
def fnSkipVoiceRow : OpenClaim := { program := "ytmenehgbhgehjaa", sum := "a49ad645efdc1e5822b547505076a4f53fb8ed3581b17df292d3ed1f96ce4257", func := "loop.example/homeconsole/laws.FnSkipVoice", spec := "fnSkipVoice", apart := false }
def FnSkipVoiceSaid : Prop := fnSkipVoiceRow.holds Try.pinned (OpenSpec.ofChange fnSkipVoiceSpec)

/-- ITS FALSE NEIGHBOUR: 'it returns false'. Refute it at one input. -/
def fnSkipVoiceWrong : ChangeSpec := { name := "fnSkipVoice", fn := fun _ => fun
  | [d] => { results := [.lit (.bool false)], args := [d] }
  | _ => none }
def FnSkipVoiceWrongFalsely : Prop := fnSkipVoiceRow.holds Try.pinned (OpenSpec.ofChange fnSkipVoiceWrong)

/-- 'laws.FnExactPlayVoice': WHATEVER THE INPUT: true; the input reads as it did. -/
def fnExactPlayVoiceSpec : ChangeSpec := { name := "fnExactPlayVoice", fn := fun _ => fun
  | [d1, d2] => { results := [.lit (.bool true)], args := [d1, d2] }
  | _ => none }
def fnExactPlayVoiceRow : OpenClaim := { program := "ytmenehgbhgehjaa", sum := "a49ad645efdc1e5822b547505076a4f53fb8ed3581b17df292d3ed1f96ce4257", func := "loop.example/homeconsole/laws.FnExactPlayVoice", spec := "fnExactPlayVoice", apart := false }
def FnExactPlayVoiceSaid : Prop := fnExactPlayVoiceRow.holds Try.pinned (OpenSpec.ofChange fnExactPlayVoiceSpec)

/-- ITS FALSE NEIGHBOUR: 'it returns false'. Refute it at one input. -/
def fnExactPlayVoiceWrong : ChangeSpec := { name := "fnExactPlayVoice", fn := fun _ => fun
  | [d1, d2] => { results := [.lit (.bool false)], args := [d1, d2] }
  | _ => none }
def FnExactPlayVoiceWrongFalsely : Prop := fnExactPlayVoiceRow.holds Try.pinned (OpenSpec.ofChange fnExactPlayVoiceWrong)

/-- 'laws.FnPlayVoice': WHATEVER THE INPUT: true; the input reads as it did. -/
def fnPlayVoiceSpec : ChangeSpec := { name := "fnPlayVoice", fn := fun _ => fun
  | [d] => { results := [.lit (.bool true)], args := [d] }
  | _ => none }
def fnPlayVoiceRow : OpenClaim := { program := "ytmenehgbhgehjaa", sum := "a49ad645efdc1e5822b547505076a4f53fb8ed3581b17df292d3ed1f96ce4257", func := "loop.example/homeconsole/laws.FnPlayVoice", spec := "fnPlayVoice", apart := false }
def FnPlayVoiceSaid : Prop := fnPlayVoiceRow.holds Try.pinned (OpenSpec.ofChange fnPlayVoiceSpec)

/-- ITS FALSE NEIGHBOUR: 'it returns false'. Refute it at one input. -/
def fnPlayVoiceWrong : ChangeSpec := { name := "fnPlayVoice", fn := fun _ => fun
  | [d] => { results := [.lit (.bool false)], args := [d] }
  | _ => none }
def FnPlayVoiceWrongFalsely : Prop := fnPlayVoiceRow.holds Try.pinned (OpenSpec.ofChange fnPlayVoiceWrong)

/-- 'laws.FnVoiceShare': WHATEVER THE INPUT: true; the input reads as it did. -/
def fnVoiceShareSpec : ChangeSpec := { name := "fnVoiceShare", fn := fun _ => fun
  | [d] => { results := [.lit (.bool true)], args := [d] }
  | _ => none }
def fnVoiceShareRow : OpenClaim := { program := "ytmenehgbhgehjaa", sum := "a49ad645efdc1e5822b547505076a4f53fb8ed3581b17df292d3ed1f96ce4257", func := "loop.example/homeconsole/laws.FnVoiceShare", spec := "fnVoiceShare", apart := false }
def FnVoiceShareSaid : Prop := fnVoiceShareRow.holds Try.pinned (OpenSpec.ofChange fnVoiceShareSpec)

/-- ITS FALSE NEIGHBOUR: 'it returns false'. Refute it at one input. -/
def fnVoiceShareWrong : ChangeSpec := { name := "fnVoiceShare", fn := fun _ => fun
  | [d] => { results := [.lit (.bool false)], args := [d] }
  | _ => none }
def FnVoiceShareWrongFalsely : Prop := fnVoiceShareRow.holds Try.pinned (OpenSpec.ofChange fnVoiceShareWrong)

/-- 'laws.FnMixVoices': WHATEVER THE INPUT: true; the input reads as it did. -/
def fnMixVoicesSpec : ChangeSpec := { name := "fnMixVoices", fn := fun _ => fun
  | [d] => { results := [.lit (.bool true)], args := [d] }
  | _ => none }
def fnMixVoicesRow : OpenClaim := { program := "ytmenehgbhgehjaa", sum := "a49ad645efdc1e5822b547505076a4f53fb8ed3581b17df292d3ed1f96ce4257", func := "loop.example/homeconsole/laws.FnMixVoices", spec := "fnMixVoices", apart := false }
def FnMixVoicesSaid : Prop := fnMixVoicesRow.holds Try.pinned (OpenSpec.ofChange fnMixVoicesSpec)

/-- ITS FALSE NEIGHBOUR: 'it returns false'. Refute it at one input. -/
def fnMixVoicesWrong : ChangeSpec := { name := "fnMixVoices", fn := fun _ => fun
  | [d] => { results := [.lit (.bool false)], args := [d] }
  | _ => none }
def FnMixVoicesWrongFalsely : Prop := fnMixVoicesRow.holds Try.pinned (OpenSpec.ofChange fnMixVoicesWrong)

/-- 'laws.FnExactMixVoices': WHATEVER THE INPUT: true; the input reads as it did. -/
def fnExactMixVoicesSpec : ChangeSpec := { name := "fnExactMixVoices", fn := fun _ => fun
  | [d1, d2] => { results := [.lit (.bool true)], args := [d1, d2] }
  | _ => none }
def fnExactMixVoicesRow : OpenClaim := { program := "ytmenehgbhgehjaa", sum := "a49ad645efdc1e5822b547505076a4f53fb8ed3581b17df292d3ed1f96ce4257", func := "loop.example/homeconsole/laws.FnExactMixVoices", spec := "fnExactMixVoices", apart := false }
def FnExactMixVoicesSaid : Prop := fnExactMixVoicesRow.holds Try.pinned (OpenSpec.ofChange fnExactMixVoicesSpec)

/-- ITS FALSE NEIGHBOUR: 'it returns false'. Refute it at one input. -/
def fnExactMixVoicesWrong : ChangeSpec := { name := "fnExactMixVoices", fn := fun _ => fun
  | [d1, d2] => { results := [.lit (.bool false)], args := [d1, d2] }
  | _ => none }
def FnExactMixVoicesWrongFalsely : Prop := fnExactMixVoicesRow.holds Try.pinned (OpenSpec.ofChange fnExactMixVoicesWrong)

/-- 'laws.FnExactStopsValid': WHATEVER THE INPUT: true; the input reads as it did. -/
def fnExactStopsValidSpec : ChangeSpec := { name := "fnExactStopsValid", fn := fun _ => fun
  | [d] => { results := [.lit (.bool true)], args := [d] }
  | _ => none }
def fnExactStopsValidRow : OpenClaim := { program := "ytmenehgbhgehjaa", sum := "a49ad645efdc1e5822b547505076a4f53fb8ed3581b17df292d3ed1f96ce4257", func := "loop.example/homeconsole/laws.FnExactStopsValid", spec := "fnExactStopsValid", apart := false }
def FnExactStopsValidSaid : Prop := fnExactStopsValidRow.holds Try.pinned (OpenSpec.ofChange fnExactStopsValidSpec)

/-- ITS FALSE NEIGHBOUR: 'it returns false'. Refute it at one input. -/
def fnExactStopsValidWrong : ChangeSpec := { name := "fnExactStopsValid", fn := fun _ => fun
  | [d] => { results := [.lit (.bool false)], args := [d] }
  | _ => none }
def FnExactStopsValidWrongFalsely : Prop := fnExactStopsValidRow.holds Try.pinned (OpenSpec.ofChange fnExactStopsValidWrong)

/-- 'laws.FnStopsValid': WHATEVER THE INPUT: true; the input reads as it did. -/
def fnStopsValidSpec : ChangeSpec := { name := "fnStopsValid", fn := fun _ => fun
  | [d] => { results := [.lit (.bool true)], args := [d] }
  | _ => none }
def fnStopsValidRow : OpenClaim := { program := "ytmenehgbhgehjaa", sum := "a49ad645efdc1e5822b547505076a4f53fb8ed3581b17df292d3ed1f96ce4257", func := "loop.example/homeconsole/laws.FnStopsValid", spec := "fnStopsValid", apart := false }
def FnStopsValidSaid : Prop := fnStopsValidRow.holds Try.pinned (OpenSpec.ofChange fnStopsValidSpec)

/-- ITS FALSE NEIGHBOUR: 'it returns false'. Refute it at one input. -/
def fnStopsValidWrong : ChangeSpec := { name := "fnStopsValid", fn := fun _ => fun
  | [d] => { results := [.lit (.bool false)], args := [d] }
  | _ => none }
def FnStopsValidWrongFalsely : Prop := fnStopsValidRow.holds Try.pinned (OpenSpec.ofChange fnStopsValidWrong)

/-- 'laws.FnExactChangesValid': WHATEVER THE INPUT: true; the input reads as it did. -/
def fnExactChangesValidSpec : ChangeSpec := { name := "fnExactChangesValid", fn := fun _ => fun
  | [d] => { results := [.lit (.bool true)], args := [d] }
  | _ => none }
def fnExactChangesValidRow : OpenClaim := { program := "ytmenehgbhgehjaa", sum := "a49ad645efdc1e5822b547505076a4f53fb8ed3581b17df292d3ed1f96ce4257", func := "loop.example/homeconsole/laws.FnExactChangesValid", spec := "fnExactChangesValid", apart := false }
def FnExactChangesValidSaid : Prop := fnExactChangesValidRow.holds Try.pinned (OpenSpec.ofChange fnExactChangesValidSpec)

/-- ITS FALSE NEIGHBOUR: 'it returns false'. Refute it at one input. -/
def fnExactChangesValidWrong : ChangeSpec := { name := "fnExactChangesValid", fn := fun _ => fun
  | [d] => { results := [.lit (.bool false)], args := [d] }
  | _ => none }
def FnExactChangesValidWrongFalsely : Prop := fnExactChangesValidRow.holds Try.pinned (OpenSpec.ofChange fnExactChangesValidWrong)

/-- 'laws.FnChangesValid': WHATEVER THE INPUT: true; the input reads as it did. -/
def fnChangesValidSpec : ChangeSpec := { name := "fnChangesValid", fn := fun _ => fun
  | [d] => { results := [.lit (.bool true)], args := [d] }
  | _ => none }
def fnChangesValidRow : OpenClaim := { program := "ytmenehgbhgehjaa", sum := "a49ad645efdc1e5822b547505076a4f53fb8ed3581b17df292d3ed1f96ce4257", func := "loop.example/homeconsole/laws.FnChangesValid", spec := "fnChangesValid", apart := false }
def FnChangesValidSaid : Prop := fnChangesValidRow.holds Try.pinned (OpenSpec.ofChange fnChangesValidSpec)

/-- ITS FALSE NEIGHBOUR: 'it returns false'. Refute it at one input. -/
def fnChangesValidWrong : ChangeSpec := { name := "fnChangesValid", fn := fun _ => fun
  | [d] => { results := [.lit (.bool false)], args := [d] }
  | _ => none }
def FnChangesValidWrongFalsely : Prop := fnChangesValidRow.holds Try.pinned (OpenSpec.ofChange fnChangesValidWrong)

/-- 'laws.FnBeamParts': WHATEVER THE INPUT: true; the input reads as it did. -/
def fnBeamPartsSpec : ChangeSpec := { name := "fnBeamParts", fn := fun _ => fun
  | [d] => { results := [.lit (.bool true)], args := [d] }
  | _ => none }
def fnBeamPartsRow : OpenClaim := { program := "ytmenehgbhgehjaa", sum := "a49ad645efdc1e5822b547505076a4f53fb8ed3581b17df292d3ed1f96ce4257", func := "loop.example/homeconsole/laws.FnBeamParts", spec := "fnBeamParts", apart := false }
def FnBeamPartsSaid : Prop := fnBeamPartsRow.holds Try.pinned (OpenSpec.ofChange fnBeamPartsSpec)

/-- ITS FALSE NEIGHBOUR: 'it returns false'. Refute it at one input. -/
def fnBeamPartsWrong : ChangeSpec := { name := "fnBeamParts", fn := fun _ => fun
  | [d] => { results := [.lit (.bool false)], args := [d] }
  | _ => none }
def FnBeamPartsWrongFalsely : Prop := fnBeamPartsRow.holds Try.pinned (OpenSpec.ofChange fnBeamPartsWrong)

/-- 'laws.FnExactBeamParts': WHATEVER THE INPUT: true; the input reads as it did. -/
def fnExactBeamPartsSpec : ChangeSpec := { name := "fnExactBeamParts", fn := fun _ => fun
  | [d1, d2, d3] => { results := [.lit (.bool true)], args := [d1, d2, d3] }
  | _ => none }
def fnExactBeamPartsRow : OpenClaim := { program := "ytmenehgbhgehjaa", sum := "a49ad645efdc1e5822b547505076a4f53fb8ed3581b17df292d3ed1f96ce4257", func := "loop.example/homeconsole/laws.FnExactBeamParts", spec := "fnExactBeamParts", apart := false }
def FnExactBeamPartsSaid : Prop := fnExactBeamPartsRow.holds Try.pinned (OpenSpec.ofChange fnExactBeamPartsSpec)

/-- ITS FALSE NEIGHBOUR: 'it returns false'. Refute it at one input. -/
def fnExactBeamPartsWrong : ChangeSpec := { name := "fnExactBeamParts", fn := fun _ => fun
  | [d1, d2, d3] => { results := [.lit (.bool false)], args := [d1, d2, d3] }
  | _ => none }
def FnExactBeamPartsWrongFalsely : Prop := fnExactBeamPartsRow.holds Try.pinned (OpenSpec.ofChange fnExactBeamPartsWrong)

/- THE SECOND FORM. 'bulk': how many values and letters a reading holds, each counted each time it is reached (what is shared counts as often as it is met; a slice's spare places count too). A statement '..UptoSaid' is the law's where the arguments, and the package variables that the reading takes, are together of bulk at most 1048576: NARROWER than '..Said'. Prove '..Said' where nothing that the law and all that it calls make is longer than what came in: it says more and counts as full. Else prove '..UptoSaid'. A law counts once. -/
mutual
def uptoBulk {H : Type} : DataW H → Nat
  | .lit (.string bytes) => bytes.length + 1
  | .lit _ => 1
  | .nil => 1
  | .ptr d => uptoBulk d + 1
  | .slice elems spare => uptoBulkAll elems + uptoBulkAll spare + 1
  | .agg parts => uptoBulkAll parts + 1
  | .iface _ d => uptoBulk d + 1
  | .map entries => uptoBulkEntries entries + 1
  | .held _ => 1
def uptoBulkAll {H : Type} : List (DataW H) → Nat
  | [] => 0
  | d :: r => uptoBulk d + uptoBulkAll r
def uptoBulkEntries {H : Type} : List (Lit × DataW H) → Nat
  | [] => 0
  | x :: r => uptoBulkEntry x + uptoBulkEntries r
def uptoBulkEntry {H : Type} : Lit × DataW H → Nat
  | (.string bytes, d) => bytes.length + uptoBulk d + 1
  | (_, d) => uptoBulk d + 1
 end
def uptoSmall : (H : Type) → List (DataW H) → Bool := fun _ ds => decide (uptoBulkAll ds ≤ 1048576)
def OpenSpec.upto (s : _root_.Go.ChangeSpec) : _root_.Go.OpenSpec := { _root_.Go.OpenSpec.ofChange s with cond := some uptoSmall }

/-- 'laws.FnSkipVoice', WHERE WHAT IT READS IS OF BULK AT MOST 1048576: true; the input reads as it did. -/
def fnSkipVoiceUptoRow : OpenClaim := { program := "ytmenehgbhgehjaa", sum := "a49ad645efdc1e5822b547505076a4f53fb8ed3581b17df292d3ed1f96ce4257", func := "loop.example/homeconsole/laws.FnSkipVoice", spec := "fnSkipVoice", apart := false, narrowed := true }
def FnSkipVoiceUptoSaid : Prop := fnSkipVoiceUptoRow.holds Try.pinned (OpenSpec.upto fnSkipVoiceSpec)

/-- 'laws.FnExactPlayVoice', WHERE WHAT IT READS IS OF BULK AT MOST 1048576: true; the input reads as it did. -/
def fnExactPlayVoiceUptoRow : OpenClaim := { program := "ytmenehgbhgehjaa", sum := "a49ad645efdc1e5822b547505076a4f53fb8ed3581b17df292d3ed1f96ce4257", func := "loop.example/homeconsole/laws.FnExactPlayVoice", spec := "fnExactPlayVoice", apart := false, narrowed := true }
def FnExactPlayVoiceUptoSaid : Prop := fnExactPlayVoiceUptoRow.holds Try.pinned (OpenSpec.upto fnExactPlayVoiceSpec)

/-- 'laws.FnPlayVoice', WHERE WHAT IT READS IS OF BULK AT MOST 1048576: true; the input reads as it did. -/
def fnPlayVoiceUptoRow : OpenClaim := { program := "ytmenehgbhgehjaa", sum := "a49ad645efdc1e5822b547505076a4f53fb8ed3581b17df292d3ed1f96ce4257", func := "loop.example/homeconsole/laws.FnPlayVoice", spec := "fnPlayVoice", apart := false, narrowed := true }
def FnPlayVoiceUptoSaid : Prop := fnPlayVoiceUptoRow.holds Try.pinned (OpenSpec.upto fnPlayVoiceSpec)

/-- 'laws.FnVoiceShare', WHERE WHAT IT READS IS OF BULK AT MOST 1048576: true; the input reads as it did. -/
def fnVoiceShareUptoRow : OpenClaim := { program := "ytmenehgbhgehjaa", sum := "a49ad645efdc1e5822b547505076a4f53fb8ed3581b17df292d3ed1f96ce4257", func := "loop.example/homeconsole/laws.FnVoiceShare", spec := "fnVoiceShare", apart := false, narrowed := true }
def FnVoiceShareUptoSaid : Prop := fnVoiceShareUptoRow.holds Try.pinned (OpenSpec.upto fnVoiceShareSpec)

/-- 'laws.FnMixVoices', WHERE WHAT IT READS IS OF BULK AT MOST 1048576: true; the input reads as it did. -/
def fnMixVoicesUptoRow : OpenClaim := { program := "ytmenehgbhgehjaa", sum := "a49ad645efdc1e5822b547505076a4f53fb8ed3581b17df292d3ed1f96ce4257", func := "loop.example/homeconsole/laws.FnMixVoices", spec := "fnMixVoices", apart := false, narrowed := true }
def FnMixVoicesUptoSaid : Prop := fnMixVoicesUptoRow.holds Try.pinned (OpenSpec.upto fnMixVoicesSpec)

/-- 'laws.FnExactMixVoices', WHERE WHAT IT READS IS OF BULK AT MOST 1048576: true; the input reads as it did. -/
def fnExactMixVoicesUptoRow : OpenClaim := { program := "ytmenehgbhgehjaa", sum := "a49ad645efdc1e5822b547505076a4f53fb8ed3581b17df292d3ed1f96ce4257", func := "loop.example/homeconsole/laws.FnExactMixVoices", spec := "fnExactMixVoices", apart := false, narrowed := true }
def FnExactMixVoicesUptoSaid : Prop := fnExactMixVoicesUptoRow.holds Try.pinned (OpenSpec.upto fnExactMixVoicesSpec)

/-- 'laws.FnExactStopsValid', WHERE WHAT IT READS IS OF BULK AT MOST 1048576: true; the input reads as it did. -/
def fnExactStopsValidUptoRow : OpenClaim := { program := "ytmenehgbhgehjaa", sum := "a49ad645efdc1e5822b547505076a4f53fb8ed3581b17df292d3ed1f96ce4257", func := "loop.example/homeconsole/laws.FnExactStopsValid", spec := "fnExactStopsValid", apart := false, narrowed := true }
def FnExactStopsValidUptoSaid : Prop := fnExactStopsValidUptoRow.holds Try.pinned (OpenSpec.upto fnExactStopsValidSpec)

/-- 'laws.FnStopsValid', WHERE WHAT IT READS IS OF BULK AT MOST 1048576: true; the input reads as it did. -/
def fnStopsValidUptoRow : OpenClaim := { program := "ytmenehgbhgehjaa", sum := "a49ad645efdc1e5822b547505076a4f53fb8ed3581b17df292d3ed1f96ce4257", func := "loop.example/homeconsole/laws.FnStopsValid", spec := "fnStopsValid", apart := false, narrowed := true }
def FnStopsValidUptoSaid : Prop := fnStopsValidUptoRow.holds Try.pinned (OpenSpec.upto fnStopsValidSpec)

/-- 'laws.FnExactChangesValid', WHERE WHAT IT READS IS OF BULK AT MOST 1048576: true; the input reads as it did. -/
def fnExactChangesValidUptoRow : OpenClaim := { program := "ytmenehgbhgehjaa", sum := "a49ad645efdc1e5822b547505076a4f53fb8ed3581b17df292d3ed1f96ce4257", func := "loop.example/homeconsole/laws.FnExactChangesValid", spec := "fnExactChangesValid", apart := false, narrowed := true }
def FnExactChangesValidUptoSaid : Prop := fnExactChangesValidUptoRow.holds Try.pinned (OpenSpec.upto fnExactChangesValidSpec)

/-- 'laws.FnChangesValid', WHERE WHAT IT READS IS OF BULK AT MOST 1048576: true; the input reads as it did. -/
def fnChangesValidUptoRow : OpenClaim := { program := "ytmenehgbhgehjaa", sum := "a49ad645efdc1e5822b547505076a4f53fb8ed3581b17df292d3ed1f96ce4257", func := "loop.example/homeconsole/laws.FnChangesValid", spec := "fnChangesValid", apart := false, narrowed := true }
def FnChangesValidUptoSaid : Prop := fnChangesValidUptoRow.holds Try.pinned (OpenSpec.upto fnChangesValidSpec)

/-- 'laws.FnBeamParts', WHERE WHAT IT READS IS OF BULK AT MOST 1048576: true; the input reads as it did. -/
def fnBeamPartsUptoRow : OpenClaim := { program := "ytmenehgbhgehjaa", sum := "a49ad645efdc1e5822b547505076a4f53fb8ed3581b17df292d3ed1f96ce4257", func := "loop.example/homeconsole/laws.FnBeamParts", spec := "fnBeamParts", apart := false, narrowed := true }
def FnBeamPartsUptoSaid : Prop := fnBeamPartsUptoRow.holds Try.pinned (OpenSpec.upto fnBeamPartsSpec)

/-- 'laws.FnExactBeamParts', WHERE WHAT IT READS IS OF BULK AT MOST 1048576: true; the input reads as it did. -/
def fnExactBeamPartsUptoRow : OpenClaim := { program := "ytmenehgbhgehjaa", sum := "a49ad645efdc1e5822b547505076a4f53fb8ed3581b17df292d3ed1f96ce4257", func := "loop.example/homeconsole/laws.FnExactBeamParts", spec := "fnExactBeamParts", apart := false, narrowed := true }
def FnExactBeamPartsUptoSaid : Prop := fnExactBeamPartsUptoRow.holds Try.pinned (OpenSpec.upto fnExactBeamPartsSpec)

end Rows
end Go.Proofs.Ytmenehgbhgehjaa
