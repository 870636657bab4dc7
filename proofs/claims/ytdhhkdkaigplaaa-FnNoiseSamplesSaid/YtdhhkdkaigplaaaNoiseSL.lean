/-
  The law that the program's NoiseSamples returns what the reference's returns, in memory of its own: its walk. No condition.
-/
import Derived.Test.YtdhhkdkaigplaaaIntsC
import Derived.Test.YtdhhkdkaigplaaaNoiseS
namespace Go.Proofs.Ytdhhkdkaigplaaa
open Go.RowKit
set_option linter.unusedVariables false
set_option linter.unusedSimpArgs false
theorem own_len {w : World} {base e n : Nat} {v : Value} {xs : List Int} (h : w.ownsRow base e 1 v n (iv xs)) : n = xs.length := by have := h.1; simp [iv_len] at this; omega
theorem own_base {w : World} {base b e n : Nat} {v : Value} {xs : List Value} (h : w.ownsRow base e 1 v n xs) (hb : b ≤ base) : w.ownsRow b e 1 v n xs := by
  refine ⟨h.1, ?_⟩
  rcases h.2 with h2 | ⟨g, cap, cur, h1, h2, h3⟩
  · exact .inl h2
  · exact .inr ⟨g, cap, cur, h1, Nat.le_trans hb h2, h3⟩
theorem sampR_len (s n : Int) : (sampR s n).length ≤ 400 := by
  unfold sampR
  cases h1 : inB s 1 32767 <;> cases h2 : inB n 0 400 <;> simp
  rw [samp_len]
  have := inB_iff.1 h2
  omega
set_option maxHeartbeats 1000000 in
theorem noiseSamples_law (s n : Int) (w : World) :
    Calls Try.prog 12 #[.int .i64 s, .int .i64 n] w fun e w' => e = .returned (.bool true) ∧ Below w.heap.size w w' := by
  go_enter Try.func12, Try.ntmps12
  go_wp2_with fail
  refine (samples_spec s n _).mono ?_
  rintro e w1 ⟨A0, m0, c0, rfl, o0, b0⟩
  obtain rfl := own_len o0
  go_wp2_with fail
  refine (samples_impl s n _).mono ?_
  rintro e w2 ⟨A1, m1, c1, rfl, o1, b1⟩
  obtain rfl := own_len o1
  have hN := sampR_len s n
  have r0 := (own_ints o0).below b1
  have r1 := own_ints o1
  have z0 := b0.size
  have z1 := b1.size
  have B2 := b0.trans (b1.mono z0)
  obtain ⟨xs, hxs⟩ : ∃ xs, xs = sampR s n := ⟨_, rfl⟩
  rw [← hxs] at o0 o1 r0 r1 hN ⊢
  obtain ⟨N, hNe⟩ : ∃ N, N = xs.length := ⟨_, rfl⟩
  rw [← hNe] at o0 o1 r0 r1 hN ⊢
  replace hxs := Lib.hid hxs
  replace hNe := Lib.hid hNe
  clear b0 b1 o0
  go_wp2_with fail
  refine (eqIntS_same A1 A0 N _ _ xs _ r1 (r0.more z1) (by omega)).mono ?_
  rintro e w3 ⟨rfl, b3⟩
  have o3 := own_below o1 b3
  have r3 := r0.below (b3.mono z1)
  have B3 := B2.trans (b3.mono B2.size)
  have z3 := b3.size
  have rng := own_block o3
  clear o1 r0 r1 b3 B2
  go_wp2_with fail
  refine (markIntS_own w1.heap.size A1 N c1 xs 1 _ o3 (by omega) (by omega) (by omega)).mono ?_
  rintro e w4 ⟨rfl, o4, g4⟩
  have hrow : ∀ k, (Value.slice A1 N c1).ownBlock = some k → w1.heap.size ≤ k := by
    intro k hk
    rcases rng with ⟨rfl, _⟩ | ⟨g', rfl, hg', _⟩ <;> simp [Value.ownBlock] at hk
    omega
  have b4 := below_of_grown g4 (by omega) hrow
  have r4 := r3.below b4
  have B4 := B3.trans (b4.mono z0)
  have z4 := g4.size
  clear o3 r3 B3 g4 b4 hrow rng
  go_wp2_with fail
  refine (heldIntS_marks A1 N c1 1 _ (own_ints o4) (by omega) (by omega) (by omega)).mono ?_
  rintro e w5 ⟨rfl, b5⟩
  have o5 := own_below o4 b5
  have z5 := b5.size
  have r5 := r4.below (b5.mono (by omega))
  have B5 := B4.trans (b5.mono B4.size)
  clear o4 r4 B4 b5
  go_wp2_with fail
  refine (samples_impl s n _).mono ?_
  rintro e w6 ⟨A2, m2, c2, rfl, o6, b6⟩
  obtain rfl := own_len o6
  rw [← hxs.out] at o6 ⊢
  rw [← hNe.out] at o6 ⊢
  have r6 := own_ints o6
  have o7 := own_below o5 b6
  have z6 := b6.size
  have r7 := r5.below (b6.mono (by omega))
  have B6 := B5.trans (b6.mono B5.size)
  clear o5 o6 r5 B5 b6
  go_wp2_with fail
  refine (eqIntS_same A2 A0 N _ _ xs _ r6 (r7.more (by omega)) (by omega)).mono ?_
  rintro e w7 ⟨rfl, b7⟩
  have o8 := own_below o7 b7
  have B7 := B6.trans (b7.mono B6.size)
  clear o7 r6 r7 B6 b7
  go_wp2_with fail
  refine (heldIntS_marks A1 N c1 1 _ (own_ints o8) (by omega) (by omega) (by omega)).mono ?_
  rintro e w8 ⟨rfl, b8⟩
  have B8 := B7.trans (b8.mono B7.size)
  clear o8 B7 b8
  go_wp2_with fail
  go_ret
  exact ⟨rfl, B8⟩
theorem fnExactNoiseSamples_walk (a : Int) (_ : (Lit.int .i64 a).wf = true) (b : Int) (_ : (Lit.int .i64 b).wf = true) (w : World) :
    Calls Try.prog 12 #[.int .i64 a, .int .i64 b] w fun e w' => e = .returned (.bool true) ∧ Below w.heap.size w w' := noiseSamples_law a b w
end Go.Proofs.Ytdhhkdkaigplaaa
