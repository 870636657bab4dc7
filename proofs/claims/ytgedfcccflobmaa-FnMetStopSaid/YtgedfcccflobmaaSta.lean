/-
  States: lists of at most 512 bytes: the two packages' tests. No condition but that the list's length stays in range.
-/
import Derived.Test.YtgedfcccflobmaaBytes
namespace Go.Proofs.Ytgedfcccflobmaa
open Go.RowKit
set_option linter.unusedVariables false
set_option linter.unusedSimpArgs false
def stB (xs : List Int) : Bool := decide (xs.length ≤ 512) && allB xs
end Go.Proofs.Ytgedfcccflobmaa
