/-
  NoiseSamples: contracts in both packages. No condition.
-/
import Derived.Test.YtdhhkdkaigplaaaPush
import Derived.Test.YtdhhkdkaigplaaaNoise
namespace Go.Proofs.Ytdhhkdkaigplaaa
open Go.RowKit
set_option linter.unusedVariables false
set_option linter.unusedSimpArgs false
/-- The state after k steps. -/
def itN (s : Int) : Nat → Int
  | 0 => s
  | k + 1 => nextN (itN s k)
/-- n samples. -/
def samp (s : Int) (n : Nat) : List Int := (List.range n).map fun k => itN s k % 2
theorem samp_succ (s : Int) (n : Nat) : samp s (n + 1) = samp s n ++ [itN s n % 2] := by simp [samp, List.range_succ]
theorem samp_len (s : Int) (n : Nat) : (samp s n).length = n := by simp [samp]
def sampR (s n : Int) : List Int := if inB s 1 32767 && inB n 0 400 then samp s n.toNat else []
theorem itN_state {s : Int} (h : inB s 1 32767 = true) (k : Nat) : inB (itN s k) 1 32767 = true := by
  induction k with
  | zero => exact h
  | succ k ih => exact nextN_state ih
theorem and1 {s : Int} (h : inB s 1 32767 = true) : bits .and .i64 s 1 = s % 2 := by
  obtain ⟨h1, h2⟩ := inB_iff.1 h
  obtain ⟨n, rfl⟩ := Int.eq_ofNat_of_zero_le (show 0 ≤ s by omega)
  rw [show (1 : Int) = ((1 : Nat) : Int) from rfl, i64_and_nat _ 1 (by omega) (by omega), Nat.and_one_is_mod]
  omega
set_option maxHeartbeats 1000000 in
theorem samples_impl (s n : Int) (w : World) :
    Calls Try.prog 33 #[.int .i64 s, .int .i64 n] w fun e w' => ∃ A m c, e = .returned (.slice A m c) ∧ w'.ownsRow w.heap.size 3 1 (.slice A m c) m (iv (sampR s n)) ∧ Below w.heap.size w w' := by
  cases h1 : inB s 1 32767
  · rw [show sampR s n = [] by simp [sampR, h1]]
    go_enter Try.func33, Try.ntmps33
    go_wp2_with (go_at_call 40; refine (within_any _ _ _ _).mono ?_; rintro e w' ⟨rfl, rfl⟩)
    go_ret
    exact ⟨_, _, _, rfl, World.ownsRow_nil _ _ _ _, Below.refl _ _⟩
  cases h2 : inB n 0 400
  · rw [show sampR s n = [] by simp [sampR, h2]]
    go_enter Try.func33, Try.ntmps33
    go_wp2_with (go_at_call 40; refine (within_any _ _ _ _).mono ?_; rintro e w' ⟨rfl, rfl⟩)
    go_ret
    exact ⟨_, _, _, rfl, World.ownsRow_nil _ _ _ _, Below.refl _ _⟩
  rw [show sampR s n = samp s n.toNat by simp [sampR, h1, h2]]
  obtain ⟨n0, n1⟩ := inB_iff.1 h2
  obtain ⟨N, rfl⟩ := Int.eq_ofNat_of_zero_le n0
  rw [Int.toNat_natCast]
  obtain ⟨s1, s2⟩ := inB_iff.1 h1
  go_enter Try.func33, Try.ntmps33
  go_wp2_with (first | (go_at_call 40; refine (within_any _ _ _ _).mono ?_; rintro e w' ⟨rfl, rfl⟩) | (at_make; refine make_own0 _ rfl _ _ rfl N rfl rfl (by omega) w.heap.size (Nat.le_refl _) ?_; intro w1 hown1 hb1))
  go_loopw [0, 5, 17] (fun st v i wr => ∃ (k : Nat) (A : Option Addr) (c : Nat), k ≤ N ∧ i = .int .i64 k ∧ st = .int .i64 (itN s k) ∧ v = .slice A k c ∧ wr.ownsRow w.heap.size 3 1 (.slice A k c) k (iv (samp s k)) ∧ Below w.heap.size w wr) (fun _ _ i _ => N - (intOf i).toNat)
  case atStart => exact ⟨0, _, _, Nat.zero_le _, rfl, rfl, rfl, hown1, hb1⟩
  case round =>
    obtain ⟨k, A, c, hk, rfl, rfl, rfl, hown, hb⟩ := hrel
    have hz := hb.size
    by_cases hlt : k < N
    · have hs := itN_state h1 k
      have ha := and1 hs
      obtain ⟨t1, t2⟩ := inB_iff.1 hs
      obtain ⟨st, hst⟩ : ∃ st, itN s k = st := ⟨_, rfl⟩
      have HS := Lib.hid hst
      rw [hst] at ha t1 t2
      have HO := Lib.hid hown
      have HB := Lib.hid hb
      clear hown hb hs hst hown1 hb1
      rw [HS.out]
      go_wp2_with (first | (go_at_call 18; refine (next_impl _ _).mono ?_; rintro e w' ⟨rfl, rfl⟩) | (at_builtin; refine push_own _ rfl _ _ rfl w.heap.size k c wr.heap.size 1 A (samp s k) (st % 2) rfl rfl (HO.out.alloc _) (by simp [go_sem]) (by omega) (by simp; omega) ?_; intro A' c' w2 hown2 hb2))
      go_roundw
      case rel =>
        refine ⟨k + 1, A', c', by omega, by go_num, by rw [itN, HS.out], rfl, ?_, (HB.out.alloc hz _).trans hb2⟩
        rw [samp_succ, HS.out]
        exact hown2
      case measure => simp [intOf]; omega
    · obtain rfl : k = N := by omega
      go_wp2
      go_ret
      exact ⟨_, _, _, rfl, hown, hb⟩
set_option maxHeartbeats 1000000 in
theorem samples_spec (s n : Int) (w : World) :
    Calls Try.prog 32 #[.int .i64 s, .int .i64 n] w fun e w' => ∃ A m c, e = .returned (.slice A m c) ∧ w'.ownsRow w.heap.size 3 1 (.slice A m c) m (iv (sampR s n)) ∧ Below w.heap.size w w' := by
  have hown0 : (w.alloc (.cells #[] 3)).ownsRow w.heap.size 3 1 (.slice (some ⟨w.heap.size, 0, none⟩) 0 0) 0 (iv []) := World.ownsRow_lit w #[] 0 (Nat.le_refl _) (by simp [maxLen]) rfl
  have HO0 := Lib.hid hown0
  clear hown0
  cases h1 : inB s 1 32767
  · rw [show sampR s n = [] by simp [sampR, h1]]
    go_enter Try.func32, Try.ntmps32
    go_wp2_with (go_at_call 39; refine (l1In_any _ _ _ _).mono ?_; rintro e w' ⟨rfl, rfl⟩)
    go_ret
    exact ⟨_, _, _, rfl, HO0.out, by go_grown⟩
  cases h2 : inB n 0 400
  · rw [show sampR s n = [] by simp [sampR, h2]]
    go_enter Try.func32, Try.ntmps32
    go_wp2_with (go_at_call 39; refine (l1In_any _ _ _ _).mono ?_; rintro e w' ⟨rfl, rfl⟩)
    go_ret
    exact ⟨_, _, _, rfl, HO0.out, by go_grown⟩
  rw [show sampR s n = samp s n.toNat by simp [sampR, h1, h2]]
  obtain ⟨n0, n1⟩ := inB_iff.1 h2
  obtain ⟨N, rfl⟩ := Int.eq_ofNat_of_zero_le n0
  rw [Int.toNat_natCast]
  obtain ⟨s1, s2⟩ := inB_iff.1 h1
  go_enter Try.func32, Try.ntmps32
  go_wp2_with (first | (go_at_call 39; refine (l1In_any _ _ _ _).mono ?_; rintro e w' ⟨rfl, rfl⟩))
  go_loopw [0, 5, 6] (fun st v i wr => ∃ (k : Nat) (A : Option Addr) (c : Nat), k ≤ N ∧ i = .int .i64 k ∧ st = .int .i64 (itN s k) ∧ v = .slice A k c ∧ wr.ownsRow w.heap.size 3 1 (.slice A k c) k (iv (samp s k)) ∧ Below w.heap.size w wr) (fun _ _ i _ => N - (intOf i).toNat)
  case atStart => exact ⟨0, _, _, Nat.zero_le _, rfl, rfl, rfl, HO0.out, by go_grown⟩
  case round =>
    obtain ⟨k, A, c, hk, rfl, rfl, rfl, hown, hb⟩ := hrel
    have hz := hb.size
    by_cases hlt : k < N
    · have hs := itN_state h1 k
      obtain ⟨t1, t2⟩ := inB_iff.1 hs
      obtain ⟨st, hst⟩ : ∃ st, itN s k = st := ⟨_, rfl⟩
      have HS := Lib.hid hst
      rw [hst] at t1 t2
      have HO := Lib.hid hown
      have HB := Lib.hid hb
      clear hown hb hs hst
      rw [HS.out]
      go_wp2_with (first | (go_at_call 17; refine (next_spec _ _).mono ?_; rintro e w' ⟨rfl, rfl⟩) | (at_builtin; refine push_own _ rfl _ _ rfl w.heap.size k c wr.heap.size 1 A (samp s k) (st % 2) rfl rfl (HO.out.alloc _) (by simp [go_sem]) (by omega) (by simp; omega) ?_; intro A' c' w2 hown2 hb2))
      go_roundw
      case rel =>
        refine ⟨k + 1, A', c', by omega, by go_num, by rw [itN, HS.out], rfl, ?_, (HB.out.alloc hz _).trans hb2⟩
        rw [samp_succ, HS.out]
        exact hown2
      case measure => simp [intOf]; omega
    · obtain rfl : k = N := by omega
      go_wp2
      go_ret
      exact ⟨_, _, _, rfl, hown, hb⟩
end Go.Proofs.Ytdhhkdkaigplaaa
