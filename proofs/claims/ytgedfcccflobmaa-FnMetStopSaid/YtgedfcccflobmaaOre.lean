/-
  Instructions: valid ones, their reading, by both packages. No program's law is walked here.
-/
import Derived.Test.YtgedfcccflobmaaOrd
import Derived.Test.YtgedfcccflobmaaEnv
import Derived.Test.YtgedfcccflobmaaGrow
import Derived.Deep.QuietTactic
import Derived.BigQuiet
namespace Go.Proofs.Ytgedfcccflobmaa
open Go.RowKit
set_option linter.unusedVariables false
set_option linter.unusedSimpArgs false
/-- An instruction is valid. -/
def ordB (op arg : Int) : Bool := if olen op = 1 then arg == 0 else if olen op = 2 then inB arg 0 255 else if olen op = 3 then inB arg 0 1023 else false
set_option maxHeartbeats 1000000 in
theorem orderValid_impl (op arg : Int) (w : World) : Calls Try.prog 77 #[.agg #[.int .i64 op, .int .i64 arg]] w fun e w' => e = .returned (.bool (ordB op arg)) ∧ Below w.heap.size w w' := by
  have hb0 : Below w.heap.size w (w.alloc (.cells #[.int .i64 op, .int .i64 arg] 84)) := (Below.refl _ _).alloc (Nat.le_refl _) _
  have c1 : (w.alloc (.cells #[.int .i64 op, .int .i64 arg] 84)).cell? ⟨w.heap.size, 1, none⟩ = some (.int .i64 arg) := cell_new ..
  have hx : w.heap.size < (w.alloc (.cells #[.int .i64 op, .int .i64 arg] 84)).heap.size := by simp
  have HB0 := Lib.hid hb0
  have C1 := Lib.hid c1
  clear hb0 c1
  unfold ordB
  obtain ⟨n, hn⟩ : ∃ n, olen op = n := ⟨_, rfl⟩
  have hcase := olen_in op
  rw [hn] at hcase ⊢
  replace hn := Lib.hid hn
  rcases hcase with rfl | rfl | rfl | rfl
  all_goals (
    go_enter Try.func77, Try.ntmps77
    go_wp2_with (first | (go_at_call 76; refine (orderLength_impl op _).mono ?_; rintro e w5 ⟨rfl, b5⟩; rw [hn.out]; have c1 := (b5.cell (p := ⟨w.heap.size, 1, none⟩) hx).trans C1.out; replace b5 := Lib.hid b5) | (go_at_call 63; refine (isByte_any _ _).mono ?_; rintro e w' ⟨rfl, rfl⟩) | (go_at_call 30; refine (within_any _ _ _ _).mono ?_; rintro e w' ⟨rfl, rfl⟩))
    go_ret
    exact ⟨rfl, below_step HB0.out b5.out HB0.out.size⟩)
set_option maxHeartbeats 1000000 in
theorem orderValid_spec (op arg : Int) (w : World) : Calls Try.prog 98 #[.agg #[.int .i64 op, .int .i64 arg]] w fun e w' => e = .returned (.bool (ordB op arg)) ∧ Below w.heap.size w w' := by
  have hb0 : Below w.heap.size w (w.alloc (.cells #[.int .i64 op, .int .i64 arg] 84)) := (Below.refl _ _).alloc (Nat.le_refl _) _
  have c1 : (w.alloc (.cells #[.int .i64 op, .int .i64 arg] 84)).cell? ⟨w.heap.size, 1, none⟩ = some (.int .i64 arg) := cell_new ..
  have hx : w.heap.size < (w.alloc (.cells #[.int .i64 op, .int .i64 arg] 84)).heap.size := by simp
  have HB0 := Lib.hid hb0
  have C1 := Lib.hid c1
  clear hb0 c1
  unfold ordB
  obtain ⟨n, hn⟩ : ∃ n, olen op = n := ⟨_, rfl⟩
  have hcase := olen_in op
  rw [hn] at hcase ⊢
  replace hn := Lib.hid hn
  have hz : (arg == 0) = true ∨ (arg == 0) = false := by cases (arg == 0) <;> simp
  rcases hcase with rfl | rfl | rfl | rfl
  all_goals (
    rcases hz with hz | hz
    all_goals (
      go_enter Try.func98, Try.ntmps98
      go_wp2_with (first | (go_at_call 84; refine (orderLength_spec op _).mono ?_; rintro e w5 ⟨rfl, b5⟩; rw [hn.out]; have c1 := (b5.cell (p := ⟨w.heap.size, 1, none⟩) hx).trans C1.out; replace b5 := Lib.hid b5) | (go_at_call 37; refine (l1Byte_any _ _).mono ?_; rintro e w' ⟨rfl, rfl⟩; cases hv : inB arg 0 255) | (go_at_call 33; refine (l1In_any _ _ _ _).mono ?_; rintro e w' ⟨rfl, rfl⟩))
      all_goals (
        go_ret
        exact ⟨by first | rfl | simp [hz], below_step HB0.out b5.out HB0.out.size⟩)))
end Go.Proofs.Ytgedfcccflobmaa
