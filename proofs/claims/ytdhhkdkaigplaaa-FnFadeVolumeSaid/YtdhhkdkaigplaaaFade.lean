/-
  FadeVolume: its contract in both packages, and the law 'FnExactFadeVolume'. No condition.
-/
import Derived.Test.YtdhhkdkaigplaaaBase
namespace Go.Proofs.Ytdhhkdkaigplaaa
open Go.RowKit
/-- What FadeVolume returns. -/
def fadeV (v t s : Int) : Int := if inB v 0 15 && inB t 0 1000 && inB s 1 100 then max (v - t / s) 0 else -1
theorem fade_out {v t s : Int} (h : (inB v 0 15 && inB t 0 1000 && inB s 1 100) = false) : fadeV v t s = -1 := by simp [fadeV, h]
theorem fade_in {v t s : Int} (h : (inB v 0 15 && inB t 0 1000 && inB s 1 100) = true) : fadeV v t s = max (v - t / s) 0 := by simp [fadeV, h]
theorem div_bd {t s : Int} (h0 : 0 ≤ t) (h1 : t ≤ 1000) (h2 : 1 ≤ s) : 0 ≤ t / s ∧ t / s ≤ 1000 :=
  ⟨Int.ediv_nonneg h0 (by omega), Int.le_trans (Int.ediv_le_self _ h0) h1⟩

set_option maxHeartbeats 400000 in
theorem fade_impl (v t s : Int) (w : World) :
    Calls Try.prog 16 #[.int .i64 v, .int .i64 t, .int .i64 s] w fun e w' => e = .returned (.int .i64 (fadeV v t s)) ∧ w = w' := by
  cases h1 : inB v 0 15
  case false =>
    rw [fade_out (by simp [h1])]
    go_enter Try.func16, Try.ntmps16
    go_wp2_with (go_at_call 40; refine (within_any _ _ _ _).mono ?_; rintro e w' ⟨rfl, rfl⟩)
    go_ret
    exact ⟨rfl, rfl⟩
  cases h2 : inB t 0 1000
  case false =>
    rw [fade_out (by simp [h1, h2])]
    go_enter Try.func16, Try.ntmps16
    go_wp2_with (go_at_call 40; refine (within_any _ _ _ _).mono ?_; rintro e w' ⟨rfl, rfl⟩)
    go_ret
    exact ⟨rfl, rfl⟩
  cases h3 : inB s 1 100
  case false =>
    rw [fade_out (by simp [h1, h2, h3])]
    go_enter Try.func16, Try.ntmps16
    go_wp2_with (go_at_call 40; refine (within_any _ _ _ _).mono ?_; rintro e w' ⟨rfl, rfl⟩)
    go_ret
    exact ⟨rfl, rfl⟩
  rw [fade_in (by simp [h1, h2, h3])]
  obtain ⟨a1, a2⟩ := inB_iff.1 h1
  obtain ⟨b1, b2⟩ := inB_iff.1 h2
  obtain ⟨c1, c2⟩ := inB_iff.1 h3
  obtain ⟨d1, d2⟩ := div_bd b1 b2 c1
  go_enter Try.func16, Try.ntmps16
  go_wp2_with (go_at_call 40; refine (within_any _ _ _ _).mono ?_; rintro e w' ⟨rfl, rfl⟩)
  all_goals go_ret
  all_goals exact ⟨ret_int (by omega), rfl⟩
set_option maxHeartbeats 400000 in
theorem fade_spec (v t s : Int) (w : World) :
    Calls Try.prog 15 #[.int .i64 v, .int .i64 t, .int .i64 s] w fun e w' => e = .returned (.int .i64 (fadeV v t s)) ∧ w = w' := by
  cases h1 : inB v 0 15
  case false =>
    rw [fade_out (by simp [h1])]
    go_enter Try.func15, Try.ntmps15
    go_wp2_with (go_at_call 39; refine (l1In_any _ _ _ _).mono ?_; rintro e w' ⟨rfl, rfl⟩)
    go_ret
    exact ⟨rfl, rfl⟩
  cases h2 : inB t 0 1000
  case false =>
    rw [fade_out (by simp [h1, h2])]
    go_enter Try.func15, Try.ntmps15
    go_wp2_with (go_at_call 39; refine (l1In_any _ _ _ _).mono ?_; rintro e w' ⟨rfl, rfl⟩)
    go_ret
    exact ⟨rfl, rfl⟩
  cases h3 : inB s 1 100
  case false =>
    rw [fade_out (by simp [h1, h2, h3])]
    go_enter Try.func15, Try.ntmps15
    go_wp2_with (go_at_call 39; refine (l1In_any _ _ _ _).mono ?_; rintro e w' ⟨rfl, rfl⟩)
    go_ret
    exact ⟨rfl, rfl⟩
  rw [fade_in (by simp [h1, h2, h3])]
  obtain ⟨a1, a2⟩ := inB_iff.1 h1
  obtain ⟨b1, b2⟩ := inB_iff.1 h2
  obtain ⟨c1, c2⟩ := inB_iff.1 h3
  obtain ⟨d1, d2⟩ := div_bd b1 b2 c1
  go_enter Try.func15, Try.ntmps15
  go_wp2_with (go_at_call 39; refine (l1In_any _ _ _ _).mono ?_; rintro e w' ⟨rfl, rfl⟩)
  all_goals go_ret
  all_goals exact ⟨ret_int (by omega), rfl⟩
theorem fnExactFadeVolume_walk (a : Int) (_ : (Lit.int .i64 a).wf = true) (b : Int) (_ : (Lit.int .i64 b).wf = true) (c : Int) (_ : (Lit.int .i64 c).wf = true) (w : World) :
    Calls Try.prog 3 #[.int .i64 a, .int .i64 b, .int .i64 c] w fun e w' => e = .returned (.bool true) ∧ Below w.heap.size w w' := by
  go_enter Try.func3, Try.ntmps3
  go_wp2_with (first | (go_at_call 15; refine (fade_spec _ _ _ _).mono ?_; rintro e w' ⟨rfl, rfl⟩) | (go_at_call 16; refine (fade_impl _ _ _ _).mono ?_; rintro e w' ⟨rfl, rfl⟩))
  go_ret
  exact ⟨rfl, Below.refl _ _⟩
end Go.Proofs.Ytdhhkdkaigplaaa
