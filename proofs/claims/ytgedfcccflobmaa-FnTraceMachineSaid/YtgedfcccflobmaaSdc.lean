/-
  What an instruction reads as: the reference's DecodeOrder, of one to three bytes.
-/
import Derived.Test.YtgedfcccflobmaaDec
import Derived.Deep.RegionLaw
namespace Go.Proofs.Ytgedfcccflobmaa
open Go.RowKit
set_option linter.unusedVariables false
set_option linter.unusedSimpArgs false
set_option maxRecDepth 4000 in
set_option maxHeartbeats 2000000 in
theorem decodeS1 (b0 b1 b2 : Int) (g cap : Nat) (w : World) (hg : g < w.heap.size) (hc0 : w.cell? ⟨g, 0, none⟩ = some (.int .i64 b0)) (hc1 : w.cell? ⟨g, 1, none⟩ = some (.int .i64 b1)) (hc2 : w.cell? ⟨g, 2, none⟩ = some (.int .i64 b2)) (hn : olen b0 = 1)
    (h1 : inB b1 0 255 = true) (h2 : inB b2 0 255 = true) :
    Calls Try.prog 85 #[.slice (some ⟨g, 0, none⟩) 1 cap, .int .i64 0] w fun e w' => e = .returned (decV (decP b0 b1 b2)) ∧ Below w.heap.size w w' := by
  obtain ⟨l1, u1⟩ := inB_iff.1 h1
  obtain ⟨l2, u2⟩ := inB_iff.1 h2
  have hb0 : Below w.heap.size w (w.alloc (.cells #[.int .i64 0, .int .i64 0] 84)) := (Below.refl _ _).alloc (Nat.le_refl _) _
  have hR := Lib.hid (Blk.new w 84 #[.int .i64 0, .int .i64 0])
  have k0 : (w.alloc (.cells #[.int .i64 0, .int .i64 0] 84)).cell? ⟨g, 0, none⟩ = some (.int .i64 b0) := (hb0.cell (p := ⟨g, 0, none⟩) hg).trans hc0
  have HB0 := Lib.hid hb0
  clear hb0
  have ho : ordB b0 0 = true := by unfold ordB; rw [hn]; rfl
  rw [show decP b0 b1 b2 = some (b0, 0, 1) by unfold decP; rw [hn]; rfl]
  have hin : inB (0 : Int) 0 0 = true := rfl
  go_enter Try.func85, Try.ntmps85
  go_wp2_with (first | (go_at_call 33; refine (l1In_any _ _ _ _).mono ?_; rintro e w' ⟨rfl, rfl⟩; rw [hin]) | (go_at_call 84; refine (orderLength_spec b0 _).mono ?_; rintro e w5 ⟨rfl, b5⟩; rw [hn]; have B5 := below_step HB0.out b5 HB0.out.size; have k0 := (B5.cell (p := ⟨g, 0, none⟩) hg).trans hc0; have k1 := (B5.cell (p := ⟨g, 1, none⟩) hg).trans hc1; have k2 := (B5.cell (p := ⟨g, 2, none⟩) hg).trans hc2; have hg5 : g < w5.heap.size := Nat.lt_of_lt_of_le hg B5.size; have R5 := hR.out.below b5 hR.out.lt; have s0 := R5.cell 0; have s1 := R5.cell 1; have f0 := R5.frozen 0; have f1 := R5.frozen 1; have z5 := R5.lt; have hne5 : w.heap.size ≠ w5.heap.size := (by omega); replace B5 := Lib.hid B5; replace b5 := Lib.hid b5; replace R5 := Lib.hid R5) | (go_at_call 98; refine (orderValid_spec _ _ _).mono ?_; rintro e w7 ⟨rfl, b7⟩; rw [ho]; have R7 := (R5.out.alloc (.cells #[.int .i64 b0, .int .i64 (0)] 84)).below b7 (R5.out.alloc (.cells #[.int .i64 b0, .int .i64 (0)] 84)).lt; have V7 := (Blk.new w5 84 #[.int .i64 b0, .int .i64 (0)]).below b7 (Blk.new w5 84 #[.int .i64 b0, .int .i64 (0)]).lt; have s0 := R7.cell 0; have s1 := R7.cell 1; have f0 := R7.frozen 0; have f1 := R7.frozen 1; have v0 : w7.cell? ⟨w5.heap.size, 0, none⟩ = some (.int .i64 b0) := V7.cell 0; have v1 : w7.cell? ⟨w5.heap.size, 1, none⟩ = some (.int .i64 (0)) := V7.cell 1; have z7 := R7.lt; have B7 := Lib.hid (below_step (B5.out.alloc B5.out.size (.cells #[.int .i64 b0, .int .i64 (0)] 84)) b7 (B5.out.alloc B5.out.size (.cells #[.int .i64 b0, .int .i64 (0)] 84)).size); replace R7 := Lib.hid R7; clear V7 b7))
  refine bodyPost_ret (results_row2 Try.results85 _ _ w.heap.size 84 #[.int .i64 b0, .int .i64 (0)] (0, 0) _ rfl ((R7.out.set_ 0 _).set_ 1 _) Try.underlying84 rfl rfl) rfl ?_
  exact ⟨rfl, (B7.out.setCell (Nat.le_refl _) _).setCell (Nat.le_refl _) _⟩
set_option maxRecDepth 4000 in
set_option maxHeartbeats 2000000 in
theorem decodeS2 (b0 b1 b2 : Int) (g cap : Nat) (w : World) (hg : g < w.heap.size) (hc0 : w.cell? ⟨g, 0, none⟩ = some (.int .i64 b0)) (hc1 : w.cell? ⟨g, 1, none⟩ = some (.int .i64 b1)) (hc2 : w.cell? ⟨g, 2, none⟩ = some (.int .i64 b2)) (hn : olen b0 = 2)
    (h1 : inB b1 0 255 = true) (h2 : inB b2 0 255 = true) :
    Calls Try.prog 85 #[.slice (some ⟨g, 0, none⟩) 2 cap, .int .i64 0] w fun e w' => e = .returned (decV (decP b0 b1 b2)) ∧ Below w.heap.size w w' := by
  obtain ⟨l1, u1⟩ := inB_iff.1 h1
  obtain ⟨l2, u2⟩ := inB_iff.1 h2
  have hb0 : Below w.heap.size w (w.alloc (.cells #[.int .i64 0, .int .i64 0] 84)) := (Below.refl _ _).alloc (Nat.le_refl _) _
  have hR := Lib.hid (Blk.new w 84 #[.int .i64 0, .int .i64 0])
  have k0 : (w.alloc (.cells #[.int .i64 0, .int .i64 0] 84)).cell? ⟨g, 0, none⟩ = some (.int .i64 b0) := (hb0.cell (p := ⟨g, 0, none⟩) hg).trans hc0
  have HB0 := Lib.hid hb0
  clear hb0
  have ho : ordB b0 b1 = true := by unfold ordB; rw [hn]; simp [h1]
  rw [show decP b0 b1 b2 = some (b0, b1, 2) by unfold decP; rw [hn]; rfl]
  have hin : inB (0 : Int) 0 1 = true := rfl
  go_enter Try.func85, Try.ntmps85
  go_wp2_with (first | (go_at_call 33; refine (l1In_any _ _ _ _).mono ?_; rintro e w' ⟨rfl, rfl⟩; rw [hin]) | (go_at_call 84; refine (orderLength_spec b0 _).mono ?_; rintro e w5 ⟨rfl, b5⟩; rw [hn]; have B5 := below_step HB0.out b5 HB0.out.size; have k0 := (B5.cell (p := ⟨g, 0, none⟩) hg).trans hc0; have k1 := (B5.cell (p := ⟨g, 1, none⟩) hg).trans hc1; have k2 := (B5.cell (p := ⟨g, 2, none⟩) hg).trans hc2; have hg5 : g < w5.heap.size := Nat.lt_of_lt_of_le hg B5.size; have R5 := hR.out.below b5 hR.out.lt; have s0 := R5.cell 0; have s1 := R5.cell 1; have f0 := R5.frozen 0; have f1 := R5.frozen 1; have z5 := R5.lt; have hne5 : w.heap.size ≠ w5.heap.size := (by omega); replace B5 := Lib.hid B5; replace b5 := Lib.hid b5; replace R5 := Lib.hid R5) | (go_at_call 98; refine (orderValid_spec _ _ _).mono ?_; rintro e w7 ⟨rfl, b7⟩; rw [ho]; have R7 := (R5.out.alloc (.cells #[.int .i64 b0, .int .i64 (b1)] 84)).below b7 (R5.out.alloc (.cells #[.int .i64 b0, .int .i64 (b1)] 84)).lt; have V7 := (Blk.new w5 84 #[.int .i64 b0, .int .i64 (b1)]).below b7 (Blk.new w5 84 #[.int .i64 b0, .int .i64 (b1)]).lt; have s0 := R7.cell 0; have s1 := R7.cell 1; have f0 := R7.frozen 0; have f1 := R7.frozen 1; have v0 : w7.cell? ⟨w5.heap.size, 0, none⟩ = some (.int .i64 b0) := V7.cell 0; have v1 : w7.cell? ⟨w5.heap.size, 1, none⟩ = some (.int .i64 (b1)) := V7.cell 1; have z7 := R7.lt; have B7 := Lib.hid (below_step (B5.out.alloc B5.out.size (.cells #[.int .i64 b0, .int .i64 (b1)] 84)) b7 (B5.out.alloc B5.out.size (.cells #[.int .i64 b0, .int .i64 (b1)] 84)).size); replace R7 := Lib.hid R7; clear V7 b7))
  refine bodyPost_ret (results_row2 Try.results85 _ _ w.heap.size 84 #[.int .i64 b0, .int .i64 (b1)] (0, 0) _ rfl ((R7.out.set_ 0 _).set_ 1 _) Try.underlying84 rfl rfl) rfl ?_
  exact ⟨rfl, (B7.out.setCell (Nat.le_refl _) _).setCell (Nat.le_refl _) _⟩
set_option maxRecDepth 4000 in
set_option maxHeartbeats 2000000 in
theorem decodeS3 (b0 b1 b2 : Int) (g cap : Nat) (w : World) (hg : g < w.heap.size) (hc0 : w.cell? ⟨g, 0, none⟩ = some (.int .i64 b0)) (hc1 : w.cell? ⟨g, 1, none⟩ = some (.int .i64 b1)) (hc2 : w.cell? ⟨g, 2, none⟩ = some (.int .i64 b2)) (hn : olen b0 = 3)
    (h1 : inB b1 0 255 = true) (h2 : inB b2 0 255 = true) :
    Calls Try.prog 85 #[.slice (some ⟨g, 0, none⟩) 3 cap, .int .i64 0] w fun e w' => e = .returned (decV (decP b0 b1 b2)) ∧ Below w.heap.size w w' := by
  obtain ⟨l1, u1⟩ := inB_iff.1 h1
  obtain ⟨l2, u2⟩ := inB_iff.1 h2
  have hb0 : Below w.heap.size w (w.alloc (.cells #[.int .i64 0, .int .i64 0] 84)) := (Below.refl _ _).alloc (Nat.le_refl _) _
  have hR := Lib.hid (Blk.new w 84 #[.int .i64 0, .int .i64 0])
  have k0 : (w.alloc (.cells #[.int .i64 0, .int .i64 0] 84)).cell? ⟨g, 0, none⟩ = some (.int .i64 b0) := (hb0.cell (p := ⟨g, 0, none⟩) hg).trans hc0
  have HB0 := Lib.hid hb0
  clear hb0
  have hin : inB (0 : Int) 0 2 = true := rfl
  cases h3 : inB b2 0 3
  · have h3' : ¬ b2 ≤ 3 := fun q => by have := inB_iff.2 (⟨l2, q⟩ : 0 ≤ b2 ∧ b2 ≤ 3); rw [h3] at this; cases this
    rw [show decP b0 b1 b2 = none by unfold decP; rw [hn]; simp [h3']]
    go_enter Try.func85, Try.ntmps85
    go_wp2_with (first | (go_at_call 33; with_reducible refine (l1In_any b1 _ _ _).mono ?_; rintro e w' ⟨rfl, rfl⟩; rw [h1]) | (go_at_call 33; with_reducible refine (l1In_any b2 _ _ _).mono ?_; rintro e w' ⟨rfl, rfl⟩; rw [h3]) | (go_at_call 33; refine (l1In_any _ _ _ _).mono ?_; rintro e w' ⟨rfl, rfl⟩; rw [hin]) | (go_at_call 84; refine (orderLength_spec b0 _).mono ?_; rintro e w5 ⟨rfl, b5⟩; rw [hn]; have B5 := below_step HB0.out b5 HB0.out.size; have k0 := (B5.cell (p := ⟨g, 0, none⟩) hg).trans hc0; have k1 := (B5.cell (p := ⟨g, 1, none⟩) hg).trans hc1; have k2 := (B5.cell (p := ⟨g, 2, none⟩) hg).trans hc2; have hg5 : g < w5.heap.size := Nat.lt_of_lt_of_le hg B5.size; have R5 := hR.out.below b5 hR.out.lt; have s0 := R5.cell 0; have s1 := R5.cell 1; have f0 := R5.frozen 0; have f1 := R5.frozen 1; have z5 := R5.lt; have hne5 : w.heap.size ≠ w5.heap.size := (by omega); replace B5 := Lib.hid B5; replace b5 := Lib.hid b5; replace R5 := Lib.hid R5))
    refine bodyPost_ret (results_row2 Try.results85 _ _ w.heap.size 84 #[.int .i64 0, .int .i64 0] (0, 0) _ rfl (((R5.out.set_ 0 _).set_ 1 _).alloc _) Try.underlying84 rfl (by kernel_rfl)) rfl ?_
    exact ⟨rfl, ((B5.out.setCell (Nat.le_refl _) _).setCell (Nat.le_refl _) _).alloc (by have := B5.out.size; simpa [World.setCell] using this) _⟩
  · have h3' : b2 ≤ 3 := (inB_iff.1 h3).2
    have ho : ordB b0 (b1 + 256 * b2) = true := by unfold ordB; rw [hn]; simp [inB_iff]; omega
    rw [show decP b0 b1 b2 = some (b0, b1 + 256 * b2, 3) by unfold decP; rw [hn]; simp [h3']]
    go_enter Try.func85, Try.ntmps85
    go_wp2_with (first | (go_at_call 33; with_reducible refine (l1In_any b1 _ _ _).mono ?_; rintro e w' ⟨rfl, rfl⟩; rw [h1]) | (go_at_call 33; with_reducible refine (l1In_any b2 _ _ _).mono ?_; rintro e w' ⟨rfl, rfl⟩; rw [h3]) | (go_at_call 33; refine (l1In_any _ _ _ _).mono ?_; rintro e w' ⟨rfl, rfl⟩; rw [hin]) | (go_at_call 84; refine (orderLength_spec b0 _).mono ?_; rintro e w5 ⟨rfl, b5⟩; rw [hn]; have B5 := below_step HB0.out b5 HB0.out.size; have k0 := (B5.cell (p := ⟨g, 0, none⟩) hg).trans hc0; have k1 := (B5.cell (p := ⟨g, 1, none⟩) hg).trans hc1; have k2 := (B5.cell (p := ⟨g, 2, none⟩) hg).trans hc2; have hg5 : g < w5.heap.size := Nat.lt_of_lt_of_le hg B5.size; have R5 := hR.out.below b5 hR.out.lt; have s0 := R5.cell 0; have s1 := R5.cell 1; have f0 := R5.frozen 0; have f1 := R5.frozen 1; have z5 := R5.lt; have hne5 : w.heap.size ≠ w5.heap.size := (by omega); replace B5 := Lib.hid B5; replace b5 := Lib.hid b5; replace R5 := Lib.hid R5))
    go_region
    all_goals (
      go_wp2_with (go_at_call 98; refine (orderValid_spec _ _ _).mono ?_; rintro e w7 ⟨rfl, b7⟩; rw [ho]; have R7 := (R5.out.alloc (.cells #[.int .i64 b0, .int .i64 (b1 + 256 * b2)] 84)).drew.below b7 (R5.out.alloc (.cells #[.int .i64 b0, .int .i64 (b1 + 256 * b2)] 84)).drew.lt; have V7 := (Blk.new w5 84 #[.int .i64 b0, .int .i64 (b1 + 256 * b2)]).drew.below b7 (Blk.new w5 84 #[.int .i64 b0, .int .i64 (b1 + 256 * b2)]).drew.lt; have s0 := R7.cell 0; have s1 := R7.cell 1; have f0 := R7.frozen 0; have f1 := R7.frozen 1; have v0 : w7.cell? ⟨w5.heap.size, 0, none⟩ = some (.int .i64 b0) := V7.cell 0; have v1 : w7.cell? ⟨w5.heap.size, 1, none⟩ = some (.int .i64 (b1 + 256 * b2)) := V7.cell 1; have z7 := R7.lt; have B7 := Lib.hid (below_step (B5.out.alloc B5.out.size (.cells #[.int .i64 b0, .int .i64 (b1 + 256 * b2)] 84)).drew b7 (B5.out.alloc B5.out.size (.cells #[.int .i64 b0, .int .i64 (b1 + 256 * b2)] 84)).size); replace R7 := Lib.hid R7; clear V7 b7)
      refine bodyPost_ret (results_row2 Try.results85 _ _ w.heap.size 84 #[.int .i64 b0, .int .i64 (b1 + 256 * b2)] (0, 0) _ rfl ((R7.out.set_ 0 _).set_ 1 _) Try.underlying84 rfl rfl) rfl ?_
      exact ⟨rfl, (B7.out.setCell (Nat.le_refl _) _).setCell (Nat.le_refl _) _⟩
      done)
theorem decode_spec (b0 b1 b2 : Int) (n g cap : Nat) (w : World) (hg : g < w.heap.size) (hc0 : w.cell? ⟨g, 0, none⟩ = some (.int .i64 b0)) (hc1 : w.cell? ⟨g, 1, none⟩ = some (.int .i64 b1)) (hc2 : w.cell? ⟨g, 2, none⟩ = some (.int .i64 b2)) (hn : olen b0 = n) (h0 : n ≠ 0)
    (h1 : inB b1 0 255 = true) (h2 : inB b2 0 255 = true) :
    Calls Try.prog 85 #[.slice (some ⟨g, 0, none⟩) n cap, .int .i64 0] w fun e w' => e = .returned (decV (decP b0 b1 b2)) ∧ Below w.heap.size w w' := by
  obtain rfl | rfl | rfl : n = 1 ∨ n = 2 ∨ n = 3 := by rcases olen_in b0 with e | e | e | e <;> omega
  · exact decodeS1 b0 b1 b2 g cap w hg hc0 hc1 hc2 hn h1 h2
  · exact decodeS2 b0 b1 b2 g cap w hg hc0 hc1 hc2 hn h1 h2
  · exact decodeS3 b0 b1 b2 g cap w hg hc0 hc1 hc2 hn h1 h2
end Go.Proofs.Ytgedfcccflobmaa
