/-
  StopsValid in both packages; the law that they agree. No condition but that lengths stay in range.
-/
import Derived.Test.YtkcabllnlbcgdaaTriE
import Derived.Test.YtkcabllnlbcgdaaBytes
namespace Go.Proofs.Ytkcabllnlbcgdaa
open Go.RowKit
set_option linter.unusedVariables false
set_option linter.unusedSimpArgs false
theorem all_bad {p : Tri → Bool} {ts : List Tri} {k : Nat} (hk : k < ts.length) (h : p (ts.getD k (0, 0, 0)) = false) : ts.all p = false := by
  rw [List.getD_eq_getElem?_getD, List.getElem?_eq_getElem hk] at h
  rw [List.all_eq_false]
  exact ⟨_, List.getElem_mem hk, by simpa using h⟩
theorem all_take {p : Tri → Bool} {ts : List Tri} {k : Nat} (hk : k < ts.length) (h : (ts.take k).all p = true) (h2 : p (ts.getD k (0, 0, 0)) = true) : (ts.take (k + 1)).all p = true := by
  rw [List.getD_eq_getElem?_getD, List.getElem?_eq_getElem hk] at h2
  rw [List.take_add_one, List.getElem?_eq_getElem hk]
  simp only [List.all_append, h, Option.toList_some, List.all_cons, List.all_nil, Bool.and_true, Bool.true_and]
  exact h2
def stopP (t : Tri) : Bool := inB t.1 1 3 && (inB t.2.1 0 1023 && inB t.2.2 0 255)
def stopsB (ts : List Tri) : Bool := decide (ts.length ≤ 8) && ts.all stopP
theorem stops_no {ts : List Tri} (h : ts.all stopP = false) : stopsB ts = false := by simp [stopsB, h]
end Go.Proofs.Ytkcabllnlbcgdaa
