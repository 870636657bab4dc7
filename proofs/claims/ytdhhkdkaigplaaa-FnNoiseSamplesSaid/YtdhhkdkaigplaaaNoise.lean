/-
  The noise generator: contracts of NextNoise in both packages. No condition.
-/
import Derived.Test.YtdhhkdkaigplaaaBits
namespace Go.Proofs.Ytdhhkdkaigplaaa
open Go.RowKit

set_option maxHeartbeats 400000 in
theorem next_impl (s : Int) (w : World) :
    Calls Try.prog 18 #[.int .i64 s] w fun e w' => e = .returned (.int .i64 (nextN s)) ∧ w = w' := by
  cases h : inB s 1 32767
  · rw [nextN_out h]
    go_enter Try.func18, Try.ntmps18
    go_wp2_with (go_at_call 40; refine (within_any _ _ _ _).mono ?_; rintro e w' ⟨rfl, rfl⟩)
    go_ret
    exact ⟨rfl, rfl⟩
  · have hb := inB_iff.1 h
    obtain ⟨h1, h2⟩ := hb
    go_enter Try.func18, Try.ntmps18
    go_wp2_with (go_at_call 40; refine (within_any _ _ _ _).mono ?_; rintro e w' ⟨rfl, rfl⟩)
    go_ret
    exact ⟨ret_int (next_impl_eq h), rfl⟩
set_option maxHeartbeats 400000 in
theorem next_spec (s : Int) (w : World) :
    Calls Try.prog 17 #[.int .i64 s] w fun e w' => e = .returned (.int .i64 (nextN s)) ∧ w = w' := by
  cases h : inB s 1 32767
  · rw [nextN_out h]
    go_enter Try.func17, Try.ntmps17
    go_wp2_with (go_at_call 39; refine (l1In_any _ _ _ _).mono ?_; rintro e w' ⟨rfl, rfl⟩)
    go_ret
    exact ⟨rfl, rfl⟩
  · have hb := inB_iff.1 h
    obtain ⟨h1, h2⟩ := hb
    go_enter Try.func17, Try.ntmps17
    go_wp2_with (go_at_call 39; refine (l1In_any _ _ _ _).mono ?_; rintro e w' ⟨rfl, rfl⟩)
    go_ret
    exact ⟨ret_int (next_spec_eq h), rfl⟩
theorem fnExactNextNoise_walk (a : Int) (_ : (Lit.int .i64 a).wf = true) (w : World) :
    Calls Try.prog 4 #[.int .i64 a] w fun e w' => e = .returned (.bool true) ∧ Below w.heap.size w w' := by
  go_enter Try.func4, Try.ntmps4
  go_wp2_with (first | (go_at_call 17; refine (next_spec _ _).mono ?_; rintro e w' ⟨rfl, rfl⟩) | (go_at_call 18; refine (next_impl _ _).mono ?_; rintro e w' ⟨rfl, rfl⟩))
  go_ret
  exact ⟨rfl, Below.refl _ _⟩
end Go.Proofs.Ytdhhkdkaigplaaa
