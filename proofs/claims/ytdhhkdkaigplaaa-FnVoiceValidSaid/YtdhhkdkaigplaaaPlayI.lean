/-
  PlayVoice of the program. No condition.
-/
import Derived.Test.YtdhhkdkaigplaaaPlay
namespace Go.Proofs.Ytdhhkdkaigplaaa
open Go.RowKit
set_option linter.unusedVariables false
set_option linter.unusedSimpArgs false
def sliceLen : Value → Nat
  | .slice _ n _ => n
  | _ => 0
theorem rep_snoc (xs : List Int) (m : Nat) (y : Int) : xs ++ List.replicate m y ++ [y] = xs ++ List.replicate (m + 1) y := by
  rw [List.append_assoc, ← List.replicate_succ']
end Go.Proofs.Ytdhhkdkaigplaaa
