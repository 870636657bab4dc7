/-
  Plain lemmas: '&', '|', '^' on int with both sides not below 0 are Nat's; the two spellings of the noise generator's step. No program's text is walked here.
-/
import Derived.Test.YtdhhkdkaigplaaaBase
import Derived.Laws.BitsAllLaws
import Derived.Laws.BitsLemmas
namespace Go.Proofs.Ytdhhkdkaigplaaa
open Go.RowKit
theorem ofInt_i64 (a : Nat) (ha : a < 9223372036854775808) : (BitVec.ofInt 64 (a : Int)).toNat = a := by
  rw [BitVec.ofInt_natCast, BitVec.toNat_ofNat]; exact Nat.mod_eq_of_lt (by omega)
theorem i64_and_nat (a b : Nat) (ha : a < 9223372036854775808) (hb : b < 9223372036854775808) : bits .and .i64 (a : Int) (b : Int) = ((a &&& b : Nat) : Int) := by
  have hx : a &&& b < 2 ^ 63 := Nat.and_lt_two_pow _ (by omega)
  show IntKind.i64.wrap ((BitVec.ofInt 64 (a : Int) &&& BitVec.ofInt 64 (b : Int)).toNat : Int) = _
  rw [BitVec.toNat_and, ofInt_i64 a ha, ofInt_i64 b hb, IntKind.wrap_i64]
  omega
theorem i64_or_nat (a b : Nat) (ha : a < 9223372036854775808) (hb : b < 9223372036854775808) : bits .or .i64 (a : Int) (b : Int) = ((a ||| b : Nat) : Int) := by
  have hx : a ||| b < 2 ^ 63 := Nat.or_lt_two_pow (by omega) (by omega)
  show IntKind.i64.wrap ((BitVec.ofInt 64 (a : Int) ||| BitVec.ofInt 64 (b : Int)).toNat : Int) = _
  rw [BitVec.toNat_or, ofInt_i64 a ha, ofInt_i64 b hb, IntKind.wrap_i64]
  omega
theorem i64_xor_nat (a b : Nat) (ha : a < 9223372036854775808) (hb : b < 9223372036854775808) : bits .xor .i64 (a : Int) (b : Int) = ((a ^^^ b : Nat) : Int) := by
  have hx : a ^^^ b < 2 ^ 63 := Nat.xor_lt_two_pow (by omega) (by omega)
  show IntKind.i64.wrap ((BitVec.ofInt 64 (a : Int) ^^^ BitVec.ofInt 64 (b : Int)).toNat : Int) = _
  rw [BitVec.toNat_xor, ofInt_i64 a ha, ofInt_i64 b hb, IntKind.wrap_i64]
  omega
theorem xor_mod2 (a b : Nat) : (a ^^^ b) % 2 = (a + b) % 2 := by
  have h := @Nat.xor_mod_two_eq_one a b
  by_cases h1 : (a ^^^ b) % 2 = 1
  · have := h.1 h1; omega
  · have : ¬ ¬ (a % 2 = 1 ↔ b % 2 = 1) := fun hn => h1 (h.2 hn)
    omega

/-- The next state, or 0 for what is no state. -/
def nextN (s : Int) : Int := if inB s 1 32767 then s / 2 + (s + s / 2) % 2 * 16384 else 0
theorem nextN_out {s : Int} (h : inB s 1 32767 = false) : nextN s = 0 := by simp [nextN, h]
theorem nextN_in {s : Int} (h : inB s 1 32767 = true) : nextN s = s / 2 + (s + s / 2) % 2 * 16384 := by simp [nextN, h]
theorem next_impl_eq {s : Int} (h : inB s 1 32767 = true) :
    bits .or .i64 (s / 2) (wrap64 (bits .and .i64 (bits .xor .i64 s (s / 2)) 1 * 16384)) = nextN s := by
  rw [nextN_in h]
  obtain ⟨h1, h2⟩ := inB_iff.1 h
  obtain ⟨n, rfl⟩ := Int.eq_ofNat_of_zero_le (show 0 ≤ s by omega)
  have e1 : ((n : Int) / 2) = ((n / 2 : Nat) : Int) := by omega
  have hx : n ^^^ n / 2 < 2 ^ 15 := Nat.xor_lt_two_pow (by omega) (by omega)
  have e2 : bits .and .i64 (bits .xor .i64 (n : Int) ((n / 2 : Nat) : Int)) 1 = (((n + n / 2) % 2 : Nat) : Int) := by
    rw [i64_xor_nat n (n / 2) (by omega) (by omega)]
    rw [show (1 : Int) = ((1 : Nat) : Int) from rfl, i64_and_nat _ 1 (by omega) (by omega), Nat.and_one_is_mod, xor_mod2]
  rw [e1, e2]
  rw [IntWalk.wrap64_in _ (by omega)]
  rw [show (((n + n / 2) % 2 : Nat) : Int) * 16384 = (((n + n / 2) % 2 * 16384 : Nat) : Int) by omega]
  rw [i64_or_nat _ _ (by omega) (by omega)]
  have e3 : n / 2 ||| (n + n / 2) % 2 * 16384 = n / 2 + (n + n / 2) % 2 * 16384 := by
    have := Nat.two_pow_add_eq_or_of_lt (i := 14) (b := n / 2) (by omega) ((n + n / 2) % 2)
    rw [Nat.or_comm, Nat.mul_comm, Nat.add_comm (n / 2), show (16384 : Nat) = 2 ^ 14 from rfl]
    rw [this]
  rw [e3]
  omega
theorem next_spec_eq {s : Int} (h : inB s 1 32767 = true) :
    wrap64 (s / 2 + wrap64 ((bits .xor .i64 s (s / 2)).tmod 2 * 16384)) = nextN s := by
  rw [nextN_in h]
  obtain ⟨h1, h2⟩ := inB_iff.1 h
  obtain ⟨n, rfl⟩ := Int.eq_ofNat_of_zero_le (show 0 ≤ s by omega)
  have e1 : ((n : Int) / 2) = ((n / 2 : Nat) : Int) := by omega
  have hx : n ^^^ n / 2 < 2 ^ 15 := Nat.xor_lt_two_pow (by omega) (by omega)
  have e2 : (bits .xor .i64 (n : Int) ((n / 2 : Nat) : Int)).tmod 2 = (((n + n / 2) % 2 : Nat) : Int) := by
    rw [i64_xor_nat n (n / 2) (by omega) (by omega), Int.tmod_eq_emod_of_nonneg (by omega)]
    have := xor_mod2 n (n / 2)
    omega
  have e3 : wrap64 ((((n + n / 2) % 2 : Nat) : Int) * 16384) = (((n + n / 2) % 2 : Nat) : Int) * 16384 := IntWalk.wrap64_in _ (by omega)
  rw [e1, e2, e3, IntWalk.wrap64_in _ (by omega)]
  omega
theorem nextN_state {s : Int} (h : inB s 1 32767 = true) : inB (nextN s) 1 32767 = true := by
  rw [nextN_in h]
  obtain ⟨h1, h2⟩ := inB_iff.1 h
  have h3 : (s + s / 2) % 2 = 0 ∨ (s + s / 2) % 2 = 1 := by omega
  refine inB_true ?_
  by_cases h4 : s = 1
  · subst h4; decide
  · have h5 : 1 ≤ s / 2 ∧ s / 2 ≤ 16383 := by omega
    rcases h3 with h3 | h3 <;> rw [h3] <;> omega
theorem nextN_bd (s : Int) : 0 ≤ nextN s ∧ nextN s ≤ 32767 := by
  cases h : inB s 1 32767
  · rw [nextN_out h]; omega
  · have := inB_iff.1 (nextN_state h); omega
end Go.Proofs.Ytdhhkdkaigplaaa
