/-
  States: lists of at most 512 bytes: the two packages' tests. No condition but that the list's length stays in range.
-/
import Derived.Test.YtmdebahhlgfboaaBytes
namespace Go.Proofs.Ytmdebahhlgfboaa
open Go.RowKit
set_option linter.unusedVariables false
set_option linter.unusedSimpArgs false
def stB (xs : List Int) : Bool := decide (xs.length ≤ 512) && allB xs
theorem isState_any (A : Option Addr) (n c : Nat) (xs : List Int) (w : World) (h : Ints w w.heap.size A n xs) (hn : n ≤ 1000000000) :
    Calls Try.prog 58 #[.slice A n c] w fun e w' => e = .returned (.bool (stB xs)) ∧ w = w' := by
  have hl := h.len
  have H := Lib.hid h
  clear h
  by_cases h5 : (n : Int) ≤ 512
  · have hr : stB xs = allB xs := by unfold stB; rw [decide_eq_true (by omega), Bool.true_and]
    rw [hr]
    go_enter Try.func58, Try.ntmps58
    go_wp2_with (go_at_call 50; refine (allBytes_any _ _ _ xs _ H.out hn).mono ?_; rintro e w' ⟨rfl, rfl⟩)
    go_ret
    exact ⟨rfl, rfl⟩
  · have hr : stB xs = false := by unfold stB; rw [decide_eq_false (by omega), Bool.false_and]
    rw [hr]
    go_enter Try.func58, Try.ntmps58
    go_wp2_with fail
    go_ret
    exact ⟨rfl, rfl⟩
theorem l16Bytes_any (A : Option Addr) (n c : Nat) (xs : List Int) (w : World) (h : Ints w w.heap.size A n xs) (hn : n ≤ 1000000000) :
    Calls Try.prog 62 #[.slice A n c] w fun e w' => e = .returned (.bool (stB xs)) ∧ w = w' := by
  have hl := h.len
  have H := Lib.hid h
  clear h
  by_cases h5 : (n : Int) ≤ 512
  · have hr : stB xs = allB xs := by unfold stB; rw [decide_eq_true (by omega), Bool.true_and]
    rw [hr]
    go_enter Try.func62, Try.ntmps62
    go_wp2_with (go_at_call 49; refine (l2Bytes_any _ _ _ xs _ H.out hn).mono ?_; rintro e w' ⟨rfl, rfl⟩)
    go_ret
    exact ⟨rfl, rfl⟩
  · have hr : stB xs = false := by unfold stB; rw [decide_eq_false (by omega), Bool.false_and]
    rw [hr]
    go_enter Try.func62, Try.ntmps62
    go_wp2_with fail
    go_ret
    exact ⟨rfl, rfl⟩
end Go.Proofs.Ytmdebahhlgfboaa
