/-
  No cell of these rows narrows 'for every input' (looked for: loops, veiled, ifaces, maps, wideKeys, modest, calm, conditions, laid).
  DERIVED. THE GIVEN ROWS OF THIS SEAT. 12 by the template 'for every input the law returns true; each argument reads behind the call as it read before'; 0 by the template 'total and deterministic' (their statements: YtdhhkdkaigplaaaTotals.lean).
  GIVEN WITH THE SEED: the statements are not yours to turn. If you find one false, say at which input.
  Laid BY PROGRAM, IN A SANDBOX (cutbox-rows.mjs): the forced cells as the released guide's own fill.sh prints them over the translation 1164c74d17c3ea78… (all of the seat's roots in one cut). By AI agents, Wed Nov 11 2026. No macro, syntax, notation, axiom, sorry.
-/
import Derived.Test.YtdhhkdkaigplaaaChecked
import GoSem.Claim
import GoSem.ClaimJoined
import GoSem.ClaimMapViews
import Derived.JoinedTies
import Derived.KernelRfl
namespace Go.Proofs.Ytdhhkdkaigplaaa
/- THE CELL 'sum', in the pinned program and in every row, IS THE sha256 OF THE DUMP (.gsa) THAT YtdhhkdkaigplaaaProg.lean LOADS. Nothing in Lean hashes anything: it is a label: what it is worth is what the hold of that sum in a sandbox is worth. -/
noncomputable def Try.pinned : Pinned := { name := "ytdhhkdkaigplaaa", sum := "1164c74d17c3ea787af5035d70f61dce94ea4444c1b6a4950b75102bb314f31b", checked := Try.checked }
namespace Rows
def none {H : Type} : Left H := { results := [], args := [] }

/-- 'laws.FnExactFadeVolume': WHATEVER THE INPUT: true; the input reads as it did. -/
def fnExactFadeVolumeSpec : ChangeSpec := { name := "fnExactFadeVolume", fn := fun _ => fun
  | [d1, d2, d3] => { results := [.lit (.bool true)], args := [d1, d2, d3] }
  | _ => none }
def fnExactFadeVolumeRow : OpenClaim := { program := "ytdhhkdkaigplaaa", sum := "1164c74d17c3ea787af5035d70f61dce94ea4444c1b6a4950b75102bb314f31b", func := "loop.example/homeconsole/laws.FnExactFadeVolume", spec := "fnExactFadeVolume", apart := false }
def FnExactFadeVolumeSaid : Prop := fnExactFadeVolumeRow.holds Try.pinned (OpenSpec.ofChange fnExactFadeVolumeSpec)

/-- ITS FALSE NEIGHBOUR: 'it returns false'. Refute it at one input. -/
def fnExactFadeVolumeWrong : ChangeSpec := { name := "fnExactFadeVolume", fn := fun _ => fun
  | [d1, d2, d3] => { results := [.lit (.bool false)], args := [d1, d2, d3] }
  | _ => none }
def FnExactFadeVolumeWrongFalsely : Prop := fnExactFadeVolumeRow.holds Try.pinned (OpenSpec.ofChange fnExactFadeVolumeWrong)

/-- 'laws.FnExactNextNoise': WHATEVER THE INPUT: true; the input reads as it did. -/
def fnExactNextNoiseSpec : ChangeSpec := { name := "fnExactNextNoise", fn := fun _ => fun
  | [d] => { results := [.lit (.bool true)], args := [d] }
  | _ => none }
def fnExactNextNoiseRow : OpenClaim := { program := "ytdhhkdkaigplaaa", sum := "1164c74d17c3ea787af5035d70f61dce94ea4444c1b6a4950b75102bb314f31b", func := "loop.example/homeconsole/laws.FnExactNextNoise", spec := "fnExactNextNoise", apart := false }
def FnExactNextNoiseSaid : Prop := fnExactNextNoiseRow.holds Try.pinned (OpenSpec.ofChange fnExactNextNoiseSpec)

/-- ITS FALSE NEIGHBOUR: 'it returns false'. Refute it at one input. -/
def fnExactNextNoiseWrong : ChangeSpec := { name := "fnExactNextNoise", fn := fun _ => fun
  | [d] => { results := [.lit (.bool false)], args := [d] }
  | _ => none }
def FnExactNextNoiseWrongFalsely : Prop := fnExactNextNoiseRow.holds Try.pinned (OpenSpec.ofChange fnExactNextNoiseWrong)

/-- 'laws.FnExactVoiceValid': WHATEVER THE INPUT: true; the input reads as it did. -/
def fnExactVoiceValidSpec : ChangeSpec := { name := "fnExactVoiceValid", fn := fun _ => fun
  | [d] => { results := [.lit (.bool true)], args := [d] }
  | _ => none }
def fnExactVoiceValidRow : OpenClaim := { program := "ytdhhkdkaigplaaa", sum := "1164c74d17c3ea787af5035d70f61dce94ea4444c1b6a4950b75102bb314f31b", func := "loop.example/homeconsole/laws.FnExactVoiceValid", spec := "fnExactVoiceValid", apart := false }
def FnExactVoiceValidSaid : Prop := fnExactVoiceValidRow.holds Try.pinned (OpenSpec.ofChange fnExactVoiceValidSpec)

/-- ITS FALSE NEIGHBOUR: 'it returns false'. Refute it at one input. -/
def fnExactVoiceValidWrong : ChangeSpec := { name := "fnExactVoiceValid", fn := fun _ => fun
  | [d] => { results := [.lit (.bool false)], args := [d] }
  | _ => none }
def FnExactVoiceValidWrongFalsely : Prop := fnExactVoiceValidRow.holds Try.pinned (OpenSpec.ofChange fnExactVoiceValidWrong)

/-- 'laws.FnExactNoiseDistance': WHATEVER THE INPUT: true; the input reads as it did. -/
def fnExactNoiseDistanceSpec : ChangeSpec := { name := "fnExactNoiseDistance", fn := fun _ => fun
  | [d1, d2] => { results := [.lit (.bool true)], args := [d1, d2] }
  | _ => none }
def fnExactNoiseDistanceRow : OpenClaim := { program := "ytdhhkdkaigplaaa", sum := "1164c74d17c3ea787af5035d70f61dce94ea4444c1b6a4950b75102bb314f31b", func := "loop.example/homeconsole/laws.FnExactNoiseDistance", spec := "fnExactNoiseDistance", apart := false }
def FnExactNoiseDistanceSaid : Prop := fnExactNoiseDistanceRow.holds Try.pinned (OpenSpec.ofChange fnExactNoiseDistanceSpec)

/-- ITS FALSE NEIGHBOUR: 'it returns false'. Refute it at one input. -/
def fnExactNoiseDistanceWrong : ChangeSpec := { name := "fnExactNoiseDistance", fn := fun _ => fun
  | [d1, d2] => { results := [.lit (.bool false)], args := [d1, d2] }
  | _ => none }
def FnExactNoiseDistanceWrongFalsely : Prop := fnExactNoiseDistanceRow.holds Try.pinned (OpenSpec.ofChange fnExactNoiseDistanceWrong)

/-- 'laws.FnFadeVolume': WHATEVER THE INPUT: true; the input reads as it did. -/
def fnFadeVolumeSpec : ChangeSpec := { name := "fnFadeVolume", fn := fun _ => fun
  | [d] => { results := [.lit (.bool true)], args := [d] }
  | _ => none }
def fnFadeVolumeRow : OpenClaim := { program := "ytdhhkdkaigplaaa", sum := "1164c74d17c3ea787af5035d70f61dce94ea4444c1b6a4950b75102bb314f31b", func := "loop.example/homeconsole/laws.FnFadeVolume", spec := "fnFadeVolume", apart := false }
def FnFadeVolumeSaid : Prop := fnFadeVolumeRow.holds Try.pinned (OpenSpec.ofChange fnFadeVolumeSpec)

/-- ITS FALSE NEIGHBOUR: 'it returns false'. Refute it at one input. -/
def fnFadeVolumeWrong : ChangeSpec := { name := "fnFadeVolume", fn := fun _ => fun
  | [d] => { results := [.lit (.bool false)], args := [d] }
  | _ => none }
def FnFadeVolumeWrongFalsely : Prop := fnFadeVolumeRow.holds Try.pinned (OpenSpec.ofChange fnFadeVolumeWrong)

/-- 'laws.FnNextNoise': WHATEVER THE INPUT: true; the input reads as it did. -/
def fnNextNoiseSpec : ChangeSpec := { name := "fnNextNoise", fn := fun _ => fun
  | [d] => { results := [.lit (.bool true)], args := [d] }
  | _ => none }
def fnNextNoiseRow : OpenClaim := { program := "ytdhhkdkaigplaaa", sum := "1164c74d17c3ea787af5035d70f61dce94ea4444c1b6a4950b75102bb314f31b", func := "loop.example/homeconsole/laws.FnNextNoise", spec := "fnNextNoise", apart := false }
def FnNextNoiseSaid : Prop := fnNextNoiseRow.holds Try.pinned (OpenSpec.ofChange fnNextNoiseSpec)

/-- ITS FALSE NEIGHBOUR: 'it returns false'. Refute it at one input. -/
def fnNextNoiseWrong : ChangeSpec := { name := "fnNextNoise", fn := fun _ => fun
  | [d] => { results := [.lit (.bool false)], args := [d] }
  | _ => none }
def FnNextNoiseWrongFalsely : Prop := fnNextNoiseRow.holds Try.pinned (OpenSpec.ofChange fnNextNoiseWrong)

/-- 'laws.FnExactSkipVoice': WHATEVER THE INPUT: true; the input reads as it did. -/
def fnExactSkipVoiceSpec : ChangeSpec := { name := "fnExactSkipVoice", fn := fun _ => fun
  | [d1, d2] => { results := [.lit (.bool true)], args := [d1, d2] }
  | _ => none }
def fnExactSkipVoiceRow : OpenClaim := { program := "ytdhhkdkaigplaaa", sum := "1164c74d17c3ea787af5035d70f61dce94ea4444c1b6a4950b75102bb314f31b", func := "loop.example/homeconsole/laws.FnExactSkipVoice", spec := "fnExactSkipVoice", apart := false }
def FnExactSkipVoiceSaid : Prop := fnExactSkipVoiceRow.holds Try.pinned (OpenSpec.ofChange fnExactSkipVoiceSpec)

/-- ITS FALSE NEIGHBOUR: 'it returns false'. Refute it at one input. -/
def fnExactSkipVoiceWrong : ChangeSpec := { name := "fnExactSkipVoice", fn := fun _ => fun
  | [d1, d2] => { results := [.lit (.bool false)], args := [d1, d2] }
  | _ => none }
def FnExactSkipVoiceWrongFalsely : Prop := fnExactSkipVoiceRow.holds Try.pinned (OpenSpec.ofChange fnExactSkipVoiceWrong)

/-- 'laws.FnNoiseLinear': WHATEVER THE INPUT: true; the input reads as it did. -/
def fnNoiseLinearSpec : ChangeSpec := { name := "fnNoiseLinear", fn := fun _ => fun
  | [d] => { results := [.lit (.bool true)], args := [d] }
  | _ => none }
def fnNoiseLinearRow : OpenClaim := { program := "ytdhhkdkaigplaaa", sum := "1164c74d17c3ea787af5035d70f61dce94ea4444c1b6a4950b75102bb314f31b", func := "loop.example/homeconsole/laws.FnNoiseLinear", spec := "fnNoiseLinear", apart := false }
def FnNoiseLinearSaid : Prop := fnNoiseLinearRow.holds Try.pinned (OpenSpec.ofChange fnNoiseLinearSpec)

/-- ITS FALSE NEIGHBOUR: 'it returns false'. Refute it at one input. -/
def fnNoiseLinearWrong : ChangeSpec := { name := "fnNoiseLinear", fn := fun _ => fun
  | [d] => { results := [.lit (.bool false)], args := [d] }
  | _ => none }
def FnNoiseLinearWrongFalsely : Prop := fnNoiseLinearRow.holds Try.pinned (OpenSpec.ofChange fnNoiseLinearWrong)

/-- 'laws.FnVoiceValid': WHATEVER THE INPUT: true; the input reads as it did. -/
def fnVoiceValidSpec : ChangeSpec := { name := "fnVoiceValid", fn := fun _ => fun
  | [d] => { results := [.lit (.bool true)], args := [d] }
  | _ => none }
def fnVoiceValidRow : OpenClaim := { program := "ytdhhkdkaigplaaa", sum := "1164c74d17c3ea787af5035d70f61dce94ea4444c1b6a4950b75102bb314f31b", func := "loop.example/homeconsole/laws.FnVoiceValid", spec := "fnVoiceValid", apart := false }
def FnVoiceValidSaid : Prop := fnVoiceValidRow.holds Try.pinned (OpenSpec.ofChange fnVoiceValidSpec)

/-- ITS FALSE NEIGHBOUR: 'it returns false'. Refute it at one input. -/
def fnVoiceValidWrong : ChangeSpec := { name := "fnVoiceValid", fn := fun _ => fun
  | [d] => { results := [.lit (.bool false)], args := [d] }
  | _ => none }
def FnVoiceValidWrongFalsely : Prop := fnVoiceValidRow.holds Try.pinned (OpenSpec.ofChange fnVoiceValidWrong)

/-- 'laws.FnExactNoiseSamples': WHATEVER THE INPUT: true; the input reads as it did. -/
def fnExactNoiseSamplesSpec : ChangeSpec := { name := "fnExactNoiseSamples", fn := fun _ => fun
  | [d1, d2] => { results := [.lit (.bool true)], args := [d1, d2] }
  | _ => none }
def fnExactNoiseSamplesRow : OpenClaim := { program := "ytdhhkdkaigplaaa", sum := "1164c74d17c3ea787af5035d70f61dce94ea4444c1b6a4950b75102bb314f31b", func := "loop.example/homeconsole/laws.FnExactNoiseSamples", spec := "fnExactNoiseSamples", apart := false }
def FnExactNoiseSamplesSaid : Prop := fnExactNoiseSamplesRow.holds Try.pinned (OpenSpec.ofChange fnExactNoiseSamplesSpec)

/-- ITS FALSE NEIGHBOUR: 'it returns false'. Refute it at one input. -/
def fnExactNoiseSamplesWrong : ChangeSpec := { name := "fnExactNoiseSamples", fn := fun _ => fun
  | [d1, d2] => { results := [.lit (.bool false)], args := [d1, d2] }
  | _ => none }
def FnExactNoiseSamplesWrongFalsely : Prop := fnExactNoiseSamplesRow.holds Try.pinned (OpenSpec.ofChange fnExactNoiseSamplesWrong)

/-- 'laws.FnNoiseDistance': WHATEVER THE INPUT: true; the input reads as it did. -/
def fnNoiseDistanceSpec : ChangeSpec := { name := "fnNoiseDistance", fn := fun _ => fun
  | [d] => { results := [.lit (.bool true)], args := [d] }
  | _ => none }
def fnNoiseDistanceRow : OpenClaim := { program := "ytdhhkdkaigplaaa", sum := "1164c74d17c3ea787af5035d70f61dce94ea4444c1b6a4950b75102bb314f31b", func := "loop.example/homeconsole/laws.FnNoiseDistance", spec := "fnNoiseDistance", apart := false }
def FnNoiseDistanceSaid : Prop := fnNoiseDistanceRow.holds Try.pinned (OpenSpec.ofChange fnNoiseDistanceSpec)

/-- ITS FALSE NEIGHBOUR: 'it returns false'. Refute it at one input. -/
def fnNoiseDistanceWrong : ChangeSpec := { name := "fnNoiseDistance", fn := fun _ => fun
  | [d] => { results := [.lit (.bool false)], args := [d] }
  | _ => none }
def FnNoiseDistanceWrongFalsely : Prop := fnNoiseDistanceRow.holds Try.pinned (OpenSpec.ofChange fnNoiseDistanceWrong)

/-- 'laws.FnNoiseSamples': WHATEVER THE INPUT: true; the input reads as it did. -/
def fnNoiseSamplesSpec : ChangeSpec := { name := "fnNoiseSamples", fn := fun _ => fun
  | [d] => { results := [.lit (.bool true)], args := [d] }
  | _ => none }
def fnNoiseSamplesRow : OpenClaim := { program := "ytdhhkdkaigplaaa", sum := "1164c74d17c3ea787af5035d70f61dce94ea4444c1b6a4950b75102bb314f31b", func := "loop.example/homeconsole/laws.FnNoiseSamples", spec := "fnNoiseSamples", apart := false }
def FnNoiseSamplesSaid : Prop := fnNoiseSamplesRow.holds Try.pinned (OpenSpec.ofChange fnNoiseSamplesSpec)

/-- ITS FALSE NEIGHBOUR: 'it returns false'. Refute it at one input. -/
def fnNoiseSamplesWrong : ChangeSpec := { name := "fnNoiseSamples", fn := fun _ => fun
  | [d] => { results := [.lit (.bool false)], args := [d] }
  | _ => none }
def FnNoiseSamplesWrongFalsely : Prop := fnNoiseSamplesRow.holds Try.pinned (OpenSpec.ofChange fnNoiseSamplesWrong)

/- THE SECOND FORM. 'bulk': how many values and letters a reading holds, each counted each time it is reached (what is shared counts as often as it is met; a slice's spare places count too). A statement '..UptoSaid' is the law's where the arguments, and the package variables that the reading takes, are together of bulk at most 1048576: NARROWER than '..Said'. Prove '..Said' where nothing that the law and all that it calls make is longer than what came in: it says more and counts as full. Else prove '..UptoSaid'. A law counts once. -/
mutual
def uptoBulk {H : Type} : DataW H → Nat
  | .lit (.string bytes) => bytes.length + 1
  | .lit _ => 1
  | .nil => 1
  | .ptr d => uptoBulk d + 1
  | .slice elems spare => uptoBulkAll elems + uptoBulkAll spare + 1
  | .agg parts => uptoBulkAll parts + 1
  | .iface _ d => uptoBulk d + 1
  | .map entries => uptoBulkEntries entries + 1
  | .held _ => 1
def uptoBulkAll {H : Type} : List (DataW H) → Nat
  | [] => 0
  | d :: r => uptoBulk d + uptoBulkAll r
def uptoBulkEntries {H : Type} : List (Lit × DataW H) → Nat
  | [] => 0
  | x :: r => uptoBulkEntry x + uptoBulkEntries r
def uptoBulkEntry {H : Type} : Lit × DataW H → Nat
  | (.string bytes, d) => bytes.length + uptoBulk d + 1
  | (_, d) => uptoBulk d + 1
 end
def uptoSmall : (H : Type) → List (DataW H) → Bool := fun _ ds => decide (uptoBulkAll ds ≤ 1048576)
def OpenSpec.upto (s : _root_.Go.ChangeSpec) : _root_.Go.OpenSpec := { _root_.Go.OpenSpec.ofChange s with cond := some uptoSmall }

/-- 'laws.FnExactFadeVolume', WHERE WHAT IT READS IS OF BULK AT MOST 1048576: true; the input reads as it did. -/
def fnExactFadeVolumeUptoRow : OpenClaim := { program := "ytdhhkdkaigplaaa", sum := "1164c74d17c3ea787af5035d70f61dce94ea4444c1b6a4950b75102bb314f31b", func := "loop.example/homeconsole/laws.FnExactFadeVolume", spec := "fnExactFadeVolume", apart := false, narrowed := true }
def FnExactFadeVolumeUptoSaid : Prop := fnExactFadeVolumeUptoRow.holds Try.pinned (OpenSpec.upto fnExactFadeVolumeSpec)

/-- 'laws.FnExactNextNoise', WHERE WHAT IT READS IS OF BULK AT MOST 1048576: true; the input reads as it did. -/
def fnExactNextNoiseUptoRow : OpenClaim := { program := "ytdhhkdkaigplaaa", sum := "1164c74d17c3ea787af5035d70f61dce94ea4444c1b6a4950b75102bb314f31b", func := "loop.example/homeconsole/laws.FnExactNextNoise", spec := "fnExactNextNoise", apart := false, narrowed := true }
def FnExactNextNoiseUptoSaid : Prop := fnExactNextNoiseUptoRow.holds Try.pinned (OpenSpec.upto fnExactNextNoiseSpec)

/-- 'laws.FnExactVoiceValid', WHERE WHAT IT READS IS OF BULK AT MOST 1048576: true; the input reads as it did. -/
def fnExactVoiceValidUptoRow : OpenClaim := { program := "ytdhhkdkaigplaaa", sum := "1164c74d17c3ea787af5035d70f61dce94ea4444c1b6a4950b75102bb314f31b", func := "loop.example/homeconsole/laws.FnExactVoiceValid", spec := "fnExactVoiceValid", apart := false, narrowed := true }
def FnExactVoiceValidUptoSaid : Prop := fnExactVoiceValidUptoRow.holds Try.pinned (OpenSpec.upto fnExactVoiceValidSpec)

/-- 'laws.FnExactNoiseDistance', WHERE WHAT IT READS IS OF BULK AT MOST 1048576: true; the input reads as it did. -/
def fnExactNoiseDistanceUptoRow : OpenClaim := { program := "ytdhhkdkaigplaaa", sum := "1164c74d17c3ea787af5035d70f61dce94ea4444c1b6a4950b75102bb314f31b", func := "loop.example/homeconsole/laws.FnExactNoiseDistance", spec := "fnExactNoiseDistance", apart := false, narrowed := true }
def FnExactNoiseDistanceUptoSaid : Prop := fnExactNoiseDistanceUptoRow.holds Try.pinned (OpenSpec.upto fnExactNoiseDistanceSpec)

/-- 'laws.FnFadeVolume', WHERE WHAT IT READS IS OF BULK AT MOST 1048576: true; the input reads as it did. -/
def fnFadeVolumeUptoRow : OpenClaim := { program := "ytdhhkdkaigplaaa", sum := "1164c74d17c3ea787af5035d70f61dce94ea4444c1b6a4950b75102bb314f31b", func := "loop.example/homeconsole/laws.FnFadeVolume", spec := "fnFadeVolume", apart := false, narrowed := true }
def FnFadeVolumeUptoSaid : Prop := fnFadeVolumeUptoRow.holds Try.pinned (OpenSpec.upto fnFadeVolumeSpec)

/-- 'laws.FnNextNoise', WHERE WHAT IT READS IS OF BULK AT MOST 1048576: true; the input reads as it did. -/
def fnNextNoiseUptoRow : OpenClaim := { program := "ytdhhkdkaigplaaa", sum := "1164c74d17c3ea787af5035d70f61dce94ea4444c1b6a4950b75102bb314f31b", func := "loop.example/homeconsole/laws.FnNextNoise", spec := "fnNextNoise", apart := false, narrowed := true }
def FnNextNoiseUptoSaid : Prop := fnNextNoiseUptoRow.holds Try.pinned (OpenSpec.upto fnNextNoiseSpec)

/-- 'laws.FnExactSkipVoice', WHERE WHAT IT READS IS OF BULK AT MOST 1048576: true; the input reads as it did. -/
def fnExactSkipVoiceUptoRow : OpenClaim := { program := "ytdhhkdkaigplaaa", sum := "1164c74d17c3ea787af5035d70f61dce94ea4444c1b6a4950b75102bb314f31b", func := "loop.example/homeconsole/laws.FnExactSkipVoice", spec := "fnExactSkipVoice", apart := false, narrowed := true }
def FnExactSkipVoiceUptoSaid : Prop := fnExactSkipVoiceUptoRow.holds Try.pinned (OpenSpec.upto fnExactSkipVoiceSpec)

/-- 'laws.FnNoiseLinear', WHERE WHAT IT READS IS OF BULK AT MOST 1048576: true; the input reads as it did. -/
def fnNoiseLinearUptoRow : OpenClaim := { program := "ytdhhkdkaigplaaa", sum := "1164c74d17c3ea787af5035d70f61dce94ea4444c1b6a4950b75102bb314f31b", func := "loop.example/homeconsole/laws.FnNoiseLinear", spec := "fnNoiseLinear", apart := false, narrowed := true }
def FnNoiseLinearUptoSaid : Prop := fnNoiseLinearUptoRow.holds Try.pinned (OpenSpec.upto fnNoiseLinearSpec)

/-- 'laws.FnVoiceValid', WHERE WHAT IT READS IS OF BULK AT MOST 1048576: true; the input reads as it did. -/
def fnVoiceValidUptoRow : OpenClaim := { program := "ytdhhkdkaigplaaa", sum := "1164c74d17c3ea787af5035d70f61dce94ea4444c1b6a4950b75102bb314f31b", func := "loop.example/homeconsole/laws.FnVoiceValid", spec := "fnVoiceValid", apart := false, narrowed := true }
def FnVoiceValidUptoSaid : Prop := fnVoiceValidUptoRow.holds Try.pinned (OpenSpec.upto fnVoiceValidSpec)

/-- 'laws.FnExactNoiseSamples', WHERE WHAT IT READS IS OF BULK AT MOST 1048576: true; the input reads as it did. -/
def fnExactNoiseSamplesUptoRow : OpenClaim := { program := "ytdhhkdkaigplaaa", sum := "1164c74d17c3ea787af5035d70f61dce94ea4444c1b6a4950b75102bb314f31b", func := "loop.example/homeconsole/laws.FnExactNoiseSamples", spec := "fnExactNoiseSamples", apart := false, narrowed := true }
def FnExactNoiseSamplesUptoSaid : Prop := fnExactNoiseSamplesUptoRow.holds Try.pinned (OpenSpec.upto fnExactNoiseSamplesSpec)

/-- 'laws.FnNoiseDistance', WHERE WHAT IT READS IS OF BULK AT MOST 1048576: true; the input reads as it did. -/
def fnNoiseDistanceUptoRow : OpenClaim := { program := "ytdhhkdkaigplaaa", sum := "1164c74d17c3ea787af5035d70f61dce94ea4444c1b6a4950b75102bb314f31b", func := "loop.example/homeconsole/laws.FnNoiseDistance", spec := "fnNoiseDistance", apart := false, narrowed := true }
def FnNoiseDistanceUptoSaid : Prop := fnNoiseDistanceUptoRow.holds Try.pinned (OpenSpec.upto fnNoiseDistanceSpec)

/-- 'laws.FnNoiseSamples', WHERE WHAT IT READS IS OF BULK AT MOST 1048576: true; the input reads as it did. -/
def fnNoiseSamplesUptoRow : OpenClaim := { program := "ytdhhkdkaigplaaa", sum := "1164c74d17c3ea787af5035d70f61dce94ea4444c1b6a4950b75102bb314f31b", func := "loop.example/homeconsole/laws.FnNoiseSamples", spec := "fnNoiseSamples", apart := false, narrowed := true }
def FnNoiseSamplesUptoSaid : Prop := fnNoiseSamplesUptoRow.holds Try.pinned (OpenSpec.upto fnNoiseSamplesSpec)

end Rows
end Go.Proofs.Ytdhhkdkaigplaaa
