/-
  Walks of the laws FnNextNoise, FnNoiseLinear, FnNoiseDistance: whatever the code, the law returns true. No condition.
-/
import Derived.Test.YtdhhkdkaigplaaaDrawN
import Derived.Test.YtdhhkdkaigplaaaNoiseD
namespace Go.Proofs.Ytdhhkdkaigplaaa
open Go.RowKit
set_option linter.unusedVariables false
set_option linter.unusedSimpArgs false
set_option maxHeartbeats 400000 in
theorem alive_any (w : World) : Calls Try.prog 25 #[] w fun e w' => e = .returned (.bool true) ∧ w = w' := by
  have e8 : wrap64 (IntKind.i8.wrap 255) = -1 := by
    rw [show IntKind.i8.wrap 255 = -1 by decide]
    exact IntWalk.wrap64_in _ (by omega)
  go_enter Try.func25, Try.ntmps25
  go_wp2_with (first | (go_at_call 40; refine (within_any _ _ _ _).mono ?_; rintro e w' ⟨rfl, rfl⟩; rw [show inB 255 0 255 = true from rfl]) | go_in)
  go_ret
  exact ⟨rfl, rfl⟩
theorem next_law {s : Int} (h : inB s 1 32767 = true) : ((2 * nextN s) % 32768 + (bits .xor .i64 (nextN s / 16384) (nextN s)) % 2 == s) = true := by
  obtain ⟨h1, h2⟩ := inB_iff.1 h
  obtain ⟨h3, h4⟩ := inB_iff.1 (nextN_state h)
  obtain ⟨m, hm⟩ := Int.eq_ofNat_of_zero_le (show 0 ≤ nextN s by omega)
  have e := nextN_in h
  rw [hm] at h3 h4 e ⊢
  rw [show ((m : Int) / 16384) = ((m / 16384 : Nat) : Int) by omega, i64_xor_nat (m / 16384) m (by omega) (by omega)]
  have hx := xor_mod2 (m / 16384) m
  have hb : (s + s / 2) % 2 = 0 ∨ (s + s / 2) % 2 = 1 := by omega
  rw [beq_iff_eq]
  have hs2 : 0 ≤ s / 2 ∧ s / 2 ≤ 16383 := by omega
  rcases hb with hb | hb
  · rw [hb] at e
    have q : m / 16384 = 0 := by omega
    rw [q] at hx ⊢
    generalize (0 ^^^ m) = y at hx ⊢
    have h2 : 2 * (m : Int) % 32768 = 2 * (s / 2) := by omega
    rw [h2]
    omega
  · rw [hb] at e
    have q : m / 16384 = 1 := by omega
    rw [q] at hx ⊢
    generalize (1 ^^^ m) = y at hx ⊢
    have h2 : 2 * (m : Int) % 32768 = 2 * (s / 2) := by omega
    rw [h2]
    omega
theorem next_xor_pos {s : Int} (h : inB s 1 32767 = true) : 0 ≤ bits .xor .i64 (nextN s / 16384) (nextN s) := by
  obtain ⟨h3, h4⟩ := inB_iff.1 (nextN_state h)
  obtain ⟨m, hm⟩ := Int.eq_ofNat_of_zero_le (show 0 ≤ nextN s by omega)
  rw [hm] at h3 h4 ⊢
  rw [show ((m : Int) / 16384) = ((m / 16384 : Nat) : Int) by omega, i64_xor_nat (m / 16384) m (by omega) (by omega)]
  omega
set_option maxHeartbeats 1000000 in
theorem fnNextNoise_walk (w : World) (A : Option Addr) (n c : Nat) (zs : List Int) (h : IsRow .u8 w A n c zs) :
    Calls Try.prog 8 #[.slice A n c] w fun e w' => e = .returned (.bool true) ∧ Below w.heap.size w w' := by
  by_cases hlong : 1048576 < n
  · go_enter Try.func8, Try.ntmps8
    go_wp2_with fail
    go_ret
    exact ⟨rfl, Below.refl _ _⟩
  have HI := Lib.hid h
  clear h
  have hl2 : ¬ 1048576 < n := hlong
  go_enter Try.func8, Try.ntmps8
  go_wp2_with fail
  refine (drawNextNoise_any A n c zs _ HI.out).mono ?_
  rintro e w1 ⟨s, rfl, s0, s1, hb⟩
  have HB := Lib.hid hb
  clear hb
  cases hs : inB s 1 32767
  · have hn := nextN_out hs
    have hb3 := inB_not.1 hs
    have hlt : s = 0 ∨ s = 32768 := by omega
    rcases hlt with rfl | rfl
    all_goals
      go_wp2_with (first | (go_at_call 18; refine (next_impl _ _).mono ?_; rintro e w' ⟨rfl, rfl⟩; rw [hn]) | (go_at_call 17; refine (next_spec _ _).mono ?_; rintro e w' ⟨rfl, rfl⟩; rw [hn]) | (go_at_call 25; refine (alive_any _).mono ?_; rintro e w' ⟨rfl, rfl⟩))
      go_ret
      exact ⟨rfl, HB.out⟩
  · have hl := next_law hs
    have hp := next_xor_pos hs
    obtain ⟨h1, h2⟩ := inB_iff.1 hs
    obtain ⟨h3, h4⟩ := inB_iff.1 (nextN_state hs)
    obtain ⟨m, hm⟩ : ∃ m, nextN s = m := ⟨_, rfl⟩
    rw [hm] at hl hp h3 h4
    have HM := Lib.hid hm
    have hd1 : decide (s < 1) = false := decide_eq_false (by omega)
    have hd2 : decide (32767 < s) = false := decide_eq_false (by omega)
    have hd3 : decide (1 ≤ m) = true := decide_eq_true (by omega)
    clear hm hs
    go_wp2_with (first | (go_at_call 18; refine (next_impl _ _).mono ?_; rintro e w' ⟨rfl, rfl⟩; rw [HM.out]) | (go_at_call 17; refine (next_spec _ _).mono ?_; rintro e w' ⟨rfl, rfl⟩; rw [HM.out]) | (go_at_call 25; refine (alive_any _).mono ?_; rintro e w' ⟨rfl, rfl⟩))
    go_ret
    exact ⟨rfl, HB.out⟩
/-- One step on naturals, bit by bit. -/
theorem nx_bits (n : Nat) : Circle.nx n = (n >>> 1) ^^^ (((n ^^^ (n >>> 1)) &&& 1) <<< 14) ∨ 32767 < n := by
  by_cases h : 32767 < n
  · exact .inr h
  · refine .inl ?_
    have e1 : n >>> 1 = n / 2 := by rw [Nat.shiftRight_eq_div_pow]
    have e2 : ((n ^^^ n / 2) &&& 1) = (n + n / 2) % 2 := by rw [Nat.and_one_is_mod, xor_mod2]
    rw [e1, e2]
    have hb : (n + n / 2) % 2 = 0 ∨ (n + n / 2) % 2 = 1 := by omega
    have hl : n / 2 < 2 ^ 14 := by omega
    unfold Circle.nx
    rcases hb with hb | hb
    · rw [hb]; simp
    · rw [hb]
      have h1 := Nat.two_pow_add_eq_or_of_lt (i := 14) (b := n / 2) hl 1
      have h2 : (2 ^ 14 * 1 ||| n / 2) = (n / 2) ^^^ (1 <<< 14) := by
        apply Nat.eq_of_testBit_eq
        intro i
        simp only [Nat.testBit_or, Nat.testBit_xor, Nat.shiftLeft_eq, Nat.one_mul, Nat.mul_one, Nat.testBit_two_pow]
        by_cases hi : 14 = i
        · subst hi
          rw [Nat.testBit_lt_two_pow hl]
          simp
        · simp [hi]
      rw [← h2, ← h1]
      omega
theorem nx_xor {a b : Nat} (ha : a ≤ 32767) (hb : b ≤ 32767) : Circle.nx (a ^^^ b) = Circle.nx a ^^^ Circle.nx b := by
  have hx : a ^^^ b < 2 ^ 15 := Nat.xor_lt_two_pow (by omega) (by omega)
  rcases nx_bits (a ^^^ b) with e | e
  · rcases nx_bits a with e1 | e1
    · rcases nx_bits b with e2 | e2
      · rw [e, e1, e2]
        apply Nat.eq_of_testBit_eq
        intro i
        simp only [Nat.testBit_xor, Nat.testBit_shiftRight, Nat.testBit_shiftLeft, Nat.testBit_and]
        cases a.testBit (1 + i) <;> cases b.testBit (1 + i) <;> cases decide (i ≥ 14) <;> cases a.testBit (i - 14) <;> cases b.testBit (i - 14) <;> cases a.testBit (1 + (i - 14)) <;> cases b.testBit (1 + (i - 14)) <;> cases Nat.testBit 1 (i - 14) <;> rfl
      · omega
    · omega
  · omega
theorem next_linear {a b : Int} (ha : inB a 1 32767 = true) (hb : inB b 1 32767 = true) (h : a ≠ b) :
    inB (bits .xor .i64 a b) 1 32767 = true ∧ nextN (bits .xor .i64 a b) = bits .xor .i64 (nextN a) (nextN b) := by
  obtain ⟨a1, a2⟩ := inB_iff.1 ha
  obtain ⟨b1, b2⟩ := inB_iff.1 hb
  have na := nextN_nx ha
  have nb := nextN_nx hb
  obtain ⟨c1, c2⟩ := inB_iff.1 (nextN_state ha)
  obtain ⟨d1, d2⟩ := inB_iff.1 (nextN_state hb)
  obtain ⟨x, hx⟩ := Int.eq_ofNat_of_zero_le (show 0 ≤ nextN a by omega)
  obtain ⟨y, hy⟩ := Int.eq_ofNat_of_zero_le (show 0 ≤ nextN b by omega)
  rw [hx] at na c1 c2
  rw [hy] at nb d1 d2
  rw [hx, hy]
  obtain ⟨m, rfl⟩ := Int.eq_ofNat_of_zero_le (show 0 ≤ a by omega)
  obtain ⟨k, rfl⟩ := Int.eq_ofNat_of_zero_le (show 0 ≤ b by omega)
  simp only [Int.toNat_natCast] at na nb
  rw [i64_xor_nat m k (by omega) (by omega), i64_xor_nat x y (by omega) (by omega)]
  have hlt : m ^^^ k < 2 ^ 15 := Nat.xor_lt_two_pow (by omega) (by omega)
  have hne : m ^^^ k ≠ 0 := by
    intro e
    apply h
    have : m = k := Nat.eq_of_testBit_eq fun i => by
      have hi := congrArg (Nat.testBit · i) e
      simpa [Nat.testBit_xor] using hi
    rw [this]
  have hs : inB ((m ^^^ k : Nat) : Int) 1 32767 = true := inB_true (by omega)
  refine ⟨hs, ?_⟩
  have hq := nextN_nx hs
  have hq0 := (inB_iff.1 (nextN_state hs)).1
  rw [Int.toNat_natCast, nx_xor (by omega) (by omega), ← na, ← nb] at hq
  rw [← hq]
  omega
set_option maxHeartbeats 1000000 in
theorem fnNoiseLinear_walk (w : World) (A : Option Addr) (n c : Nat) (zs : List Int) (h : IsRow .u8 w A n c zs) :
    Calls Try.prog 10 #[.slice A n c] w fun e w' => e = .returned (.bool true) ∧ Below w.heap.size w w' := by
  by_cases hlong : 1048576 < n
  · go_enter Try.func10, Try.ntmps10
    go_wp2_with fail
    go_ret
    exact ⟨rfl, Below.refl _ _⟩
  have HI := Lib.hid h
  clear h
  have hl2 : ¬ 1048576 < n := hlong
  go_enter Try.func10, Try.ntmps10
  go_wp2_with fail
  refine (drawNoiseDistance_any A n c zs _ HI.out).mono ?_
  rintro e w1 ⟨a, b, rfl, a0, a1, b0, b1, hb⟩
  have HB := Lib.hid hb
  clear hb
  cases ha : inB a 1 32767
  · have hn := nextN_out ha
    have HN := Lib.hid hn
    have ha2 : ¬ (nextN a ≠ 0) := by simp [hn]
    clear ha hn ha2
    obtain ⟨y, hy⟩ : ∃ y, nextN b = y := ⟨_, rfl⟩
    have HY := Lib.hid hy
    clear hy
    go_wp2_with (first | (go_at_call 18; refine (next_impl _ _).mono ?_; rintro e w' ⟨rfl, rfl⟩; first | rw [HN.out] | rw [HY.out]) | (go_at_call 17; refine (next_spec _ _).mono ?_; rintro e w' ⟨rfl, rfl⟩; first | rw [HN.out] | rw [HY.out]) | (go_at_call 25; refine (alive_any _).mono ?_; rintro e w' ⟨rfl, rfl⟩))
    go_ret
    exact ⟨rfl, HB.out⟩
  cases hb : inB b 1 32767
  · have hn := nextN_out hb
    have HN := Lib.hid hn
    obtain ⟨c1, c2⟩ := inB_iff.1 (nextN_state ha)
    obtain ⟨y, hy⟩ : ∃ y, nextN a = y := ⟨_, rfl⟩
    rw [hy] at c1 c2
    have HY := Lib.hid hy
    have hy0 : (y == 0) = false := by simp; omega
    clear hy ha hb hn
    go_wp2_with (first | (go_at_call 18; refine (next_impl _ _).mono ?_; rintro e w' ⟨rfl, rfl⟩; first | rw [HN.out] | rw [HY.out]) | (go_at_call 17; refine (next_spec _ _).mono ?_; rintro e w' ⟨rfl, rfl⟩; first | rw [HN.out] | rw [HY.out]) | (go_at_call 25; refine (alive_any _).mono ?_; rintro e w' ⟨rfl, rfl⟩))
    go_ret
    exact ⟨rfl, HB.out⟩
  obtain ⟨c1, c2⟩ := inB_iff.1 (nextN_state ha)
  obtain ⟨d1, d2⟩ := inB_iff.1 (nextN_state hb)
  by_cases hab : a = b
  · subst hab
    obtain ⟨y, hy⟩ : ∃ y, nextN a = y := ⟨_, rfl⟩
    rw [hy] at c1 c2
    have HY := Lib.hid hy
    have hy0 : (y == 0) = false := by simp; omega
    clear hy ha hb
    go_wp2_with (first | (go_at_call 18; refine (next_impl _ _).mono ?_; rintro e w' ⟨rfl, rfl⟩; rw [HY.out]) | (go_at_call 17; refine (next_spec _ _).mono ?_; rintro e w' ⟨rfl, rfl⟩; rw [HY.out]) | (go_at_call 25; refine (alive_any _).mono ?_; rintro e w' ⟨rfl, rfl⟩))
    go_ret
    exact ⟨rfl, HB.out⟩
  · obtain ⟨_, hlin⟩ := next_linear ha hb hab
    have HL := Lib.hid hlin
    have hne : (a == b) = false := by simp [hab]
    have hna : (nextN a == 0) = false := by simp; omega
    have hnb : (nextN b == 0) = false := by simp; omega
    clear hlin ha hb
    go_wp2_with (first | (go_at_call 18; refine (next_impl _ _).mono ?_; rintro e w' ⟨rfl, rfl⟩; try rw [HL.out]) | (go_at_call 17; refine (next_spec _ _).mono ?_; rintro e w' ⟨rfl, rfl⟩) | (go_at_call 25; refine (alive_any _).mono ?_; rintro e w' ⟨rfl, rfl⟩))
    go_ret
    exact ⟨rfl, HB.out⟩
set_option maxHeartbeats 1000000 in
theorem fnNoiseDistance_walk (w : World) (A : Option Addr) (n c : Nat) (zs : List Int) (h : IsRow .u8 w A n c zs) :
    Calls Try.prog 13 #[.slice A n c] w fun e w' => e = .returned (.bool true) ∧ Below w.heap.size w w' := by
  by_cases hlong : 1048576 < n
  · go_enter Try.func13, Try.ntmps13
    go_wp2_with fail
    go_ret
    exact ⟨rfl, Below.refl _ _⟩
  have HI := Lib.hid h
  clear h
  have hl2 : ¬ 1048576 < n := hlong
  go_enter Try.func13, Try.ntmps13
  go_wp2_with fail
  refine (drawNoiseDistance_any A n c zs _ HI.out).mono ?_
  rintro e w1 ⟨a, b, rfl, a0, a1, b0, b1, hb⟩
  have HB := Lib.hid hb
  clear hb
  cases hv : (inB a 1 32767 && inB b 1 32767)
  · have HD := Lib.hid (show distR a b = -1 by simp [distR, hv])
    clear hv
    go_wp2_with (first | (go_at_call 23; refine (dist_impl _ _ _).mono ?_; rintro e w' ⟨rfl, rfl⟩; rw [HD.out]) | (go_at_call 22; refine (dist_spec _ _ _).mono ?_; rintro e w' ⟨rfl, rfl⟩; rw [HD.out]) | (go_at_call 25; refine (alive_any _).mono ?_; rintro e w' ⟨rfl, rfl⟩))
    go_ret
    exact ⟨rfl, HB.out⟩
  · rw [Bool.and_eq_true] at hv
    obtain ⟨ha, hb⟩ := hv
    by_cases hab : a = b
    · subst hab
      have HD : Hid (distR a a = 0) := by show distR a a = 0; simp [distR, ha, gap_self _ ha]
      clear ha hb
      go_wp2_with (first | (go_at_call 23; refine (dist_impl _ _ _).mono ?_; rintro e w' ⟨rfl, rfl⟩; rw [HD.out]) | (go_at_call 22; refine (dist_spec _ _ _).mono ?_; rintro e w' ⟨rfl, rfl⟩; rw [HD.out]))
      go_ret
      exact ⟨rfl, HB.out⟩
    · obtain ⟨g1, g2, g3⟩ := gap_ne ha hb hab
      have l1 := gap_lt a b
      have l2 := gap_lt b a
      have hs := nextN_state ha
      have D1 : Hid (distR a b = (gap a b : Int)) := by show distR a b = _; simp [distR, ha, hb]
      have D2 : Hid (distR b a = (gap b a : Int)) := by show distR b a = _; simp [distR, ha, hb]
      have D3 : Hid (distR (nextN a) b = (gap (nextN a) b : Int)) := by show distR (nextN a) b = _; simp [distR, hs, hb]
      obtain ⟨x, hx⟩ : ∃ x, gap a b = x := ⟨_, rfl⟩
      obtain ⟨y, hy⟩ : ∃ y, gap b a = y := ⟨_, rfl⟩
      obtain ⟨z, hz⟩ : ∃ z, gap (nextN a) b = z := ⟨_, rfl⟩
      rw [hx] at g1 g2 g3 l1 D1
      rw [hy] at g3 l2 D2
      rw [hz] at g2 D3
      have f0 : ((x : Int) == 0) = false := by simp; omega
      have f1 : ((x : Int) + (y : Int) == 32767) = true := by simp; omega
      have f2 : ((z : Int) == (x : Int) - 1) = true := by simp; omega
      clear hx hy hz g2 g3 ha hb hs
      go_wp2_with (first | (go_at_call 23; refine (dist_impl _ _ _).mono ?_; rintro e w' ⟨rfl, rfl⟩; first | rw [D1.out] | rw [D2.out] | rw [D3.out]) | (go_at_call 22; refine (dist_spec _ _ _).mono ?_; rintro e w' ⟨rfl, rfl⟩; rw [D1.out]) | (go_at_call 18; refine (next_impl _ _).mono ?_; rintro e w' ⟨rfl, rfl⟩))
      go_ret
      exact ⟨rfl, HB.out⟩
end Go.Proofs.Ytdhhkdkaigplaaa
