/-
  Bytes added, subtracted, rotated: the walks of both packages, at bytes. No program's law is walked here.
-/
import Derived.Test.YtgedfcccflobmaaBytes
import Derived.Test.YtgedfcccflobmaaBits
namespace Go.Proofs.Ytgedfcccflobmaa
open Go.RowKit
set_option linter.unusedVariables false
set_option linter.unusedSimpArgs false
def oneI (b : Bool) : Int := if b then 1 else 0
theorem oneI_in (b : Bool) : 0 ≤ oneI b ∧ oneI b ≤ 1 := by cases b <;> simp [oneI]
theorem one_any (b : Bool) (w : World) : Calls Try.prog 97 #[.bool b] w fun e w' => e = .returned (.int .i64 (oneI b)) ∧ w = w' := by
  cases b
  · go_enter Try.func97, Try.ntmps97
    go_wp2_with fail
    go_ret
    exact ⟨rfl, rfl⟩
  · go_enter Try.func97, Try.ntmps97
    go_wp2_with fail
    go_ret
    exact ⟨rfl, rfl⟩
theorem l1Bit_any (b : Bool) (w : World) : Calls Try.prog 99 #[.bool b] w fun e w' => e = .returned (.int .i64 (oneI b)) ∧ w = w' := by
  cases b
  · go_enter Try.func99, Try.ntmps99
    go_wp2_with fail
    go_ret
    exact ⟨rfl, rfl⟩
  · go_enter Try.func99, Try.ntmps99
    go_wp2_with fail
    go_ret
    exact ⟨rfl, rfl⟩
theorem signed_impl (a : Int) (w : World) (ha : inB a 0 255 = true) : Calls Try.prog 38 #[.int .i64 a] w fun e w' => ∃ s : Int, e = .returned (.int .i64 s) ∧ w = w' := by
  go_enter Try.func38, Try.ntmps38
  go_wp2_with (go_at_call 63; refine (isByte_any _ _).mono ?_; rintro e w' ⟨rfl, rfl⟩; rw [ha])
  go_ret
  exact ⟨_, rfl, rfl⟩
theorem signed_spec (a : Int) (w : World) (ha : inB a 0 255 = true) : Calls Try.prog 100 #[.int .i64 a] w fun e w' => ∃ s : Int, e = .returned (.int .i64 s) ∧ w = w' := by
  by_cases h : a ≥ 128
  · go_enter Try.func100, Try.ntmps100
    go_wp2_with (go_at_call 37; refine (l1Byte_any _ _).mono ?_; rintro e w' ⟨rfl, rfl⟩; rw [ha])
    go_ret
    exact ⟨_, rfl, rfl⟩
  · go_enter Try.func100, Try.ntmps100
    go_wp2_with (go_at_call 37; refine (l1Byte_any _ _).mono ?_; rintro e w' ⟨rfl, rfl⟩; rw [ha])
    go_ret
    exact ⟨_, rfl, rfl⟩
theorem res3' {fn : Func} {t u v : Tmp} (h : fn.results = #[.tmp t, .tmp u, .tmp v]) (tmps : Array Value) (P : Program) (w : World) :
    (results fn tmps).run P w = .ok (.tuple #[tmps.getD t undef, tmps.getD u undef, tmps.getD v undef]) w := by
  simp [results, h, go_sem]
theorem or_low {a : Int} (c : Bool) (h0 : 0 ≤ a) (h1 : a ≤ 255) : bits .or .i64 (a * 2 % 256) (oneI c) = (2 * a + oneI c) % 256 := by
  obtain ⟨n, rfl⟩ := Int.eq_ofNat_of_zero_le h0
  have e1 : (n : Int) * 2 % 256 = ((2 * (n % 128) : Nat) : Int) := by omega
  rw [e1]
  cases c
  · rw [show oneI false = ((0 : Nat) : Int) from rfl, i64_or_nat _ 0 (by omega) (by omega), Nat.or_zero]; omega
  · rw [show oneI true = ((1 : Nat) : Int) from rfl, i64_or_nat _ 1 (by omega) (by omega)]
    have := Nat.two_pow_add_eq_or_of_lt (i := 1) (b := 1) (by omega) (n % 128)
    rw [show 2 ^ 1 * (n % 128) = 2 * (n % 128) by omega] at this
    rw [← this]; omega
theorem or_high {a : Int} (c : Bool) (h0 : 0 ≤ a) (h1 : a ≤ 255) : bits .or .i64 (a / 2) (oneI c * 128) = a / 2 + 128 * oneI c := by
  obtain ⟨n, rfl⟩ := Int.eq_ofNat_of_zero_le h0
  have e1 : (n : Int) / 2 = ((n / 2 : Nat) : Int) := by omega
  rw [e1]
  cases c
  · rw [show oneI false * 128 = ((0 : Nat) : Int) from rfl, i64_or_nat _ 0 (by omega) (by omega), Nat.or_zero]; simp [oneI]
  · rw [show oneI true * 128 = ((128 : Nat) : Int) from rfl, i64_or_nat _ 128 (by omega) (by omega)]
    have := Nat.two_pow_add_eq_or_of_lt (i := 7) (b := n / 2) (by omega) 1
    rw [show 2 ^ 7 * 1 = 128 by omega] at this
    rw [Nat.or_comm, ← this]
    simp [oneI]; omega
/-- What AddBytes gives. -/
def AddOut (n : Int) (c : Bool) (w : World) (e : Ending) (w' : World) : Prop := ∃ v : Bool, e = .returned (.tuple #[.int .i64 n, .bool c, .bool v]) ∧ w = w'
set_option maxHeartbeats 1000000 in
theorem addBytes_impl (a b : Int) (c : Bool) (w : World) (ha : inB a 0 255 = true) (hb : inB b 0 255 = true) :
    Calls Try.prog 79 #[.int .i64 a, .int .i64 b, .bool c] w (AddOut ((a + b + oneI c) % 256) (decide (a + b + oneI c > 255)) w) := by
  obtain ⟨a0, a1⟩ := inB_iff.1 ha
  obtain ⟨b0, b1⟩ := inB_iff.1 hb
  obtain ⟨c0, c1⟩ := oneI_in c
  go_enter Try.func79, Try.ntmps79
  go_wp2_with (first | (go_at_call 63; with_reducible refine (isByte_any a _).mono ?_; rintro e w' ⟨rfl, rfl⟩; rw [ha]) | (go_at_call 63; with_reducible refine (isByte_any b _).mono ?_; rintro e w' ⟨rfl, rfl⟩; rw [hb]) | (go_at_call 97; refine (one_any _ _).mono ?_; rintro e w' ⟨rfl, rfl⟩) | (go_at_call 38; with_reducible refine (signed_impl a _ ha).mono ?_; rintro e w' ⟨s1, rfl, rfl⟩) | (go_at_call 38; with_reducible refine (signed_impl b _ hb).mono ?_; rintro e w' ⟨s2, rfl, rfl⟩) | fail)
  all_goals
    refine bodyPost_ret (res3' (by rfl) _ _ _) rfl ?_
    exact ⟨_, rfl, rfl⟩
set_option maxHeartbeats 1000000 in
theorem addBytes_spec (a b : Int) (c : Bool) (w : World) (ha : inB a 0 255 = true) (hb : inB b 0 255 = true) :
    Calls Try.prog 87 #[.int .i64 a, .int .i64 b, .bool c] w (AddOut ((a + b + oneI c) % 256) (decide (a + b + oneI c > 255)) w) := by
  obtain ⟨a0, a1⟩ := inB_iff.1 ha
  obtain ⟨b0, b1⟩ := inB_iff.1 hb
  obtain ⟨c0, c1⟩ := oneI_in c
  go_enter Try.func87, Try.ntmps87
  go_wp2_with (first | (go_at_call 37; with_reducible refine (l1Byte_any a _).mono ?_; rintro e w' ⟨rfl, rfl⟩; rw [ha]) | (go_at_call 37; with_reducible refine (l1Byte_any b _).mono ?_; rintro e w' ⟨rfl, rfl⟩; rw [hb]) | (go_at_call 99; refine (l1Bit_any _ _).mono ?_; rintro e w' ⟨rfl, rfl⟩) | (go_at_call 100; with_reducible refine (signed_spec a _ ha).mono ?_; rintro e w' ⟨s1, rfl, rfl⟩) | (go_at_call 100; with_reducible refine (signed_spec b _ hb).mono ?_; rintro e w' ⟨s2, rfl, rfl⟩) | (go_at_call 33; refine (l1In_any _ _ _ _).mono ?_; rintro e w' ⟨rfl, rfl⟩))
  all_goals
    refine bodyPost_ret (res3' (by rfl) _ _ _) rfl ?_
    exact ⟨_, rfl, rfl⟩
set_option maxHeartbeats 1000000 in
theorem subBytes_impl (a b : Int) (c : Bool) (w : World) (ha : inB a 0 255 = true) (hb : inB b 0 255 = true) :
    Calls Try.prog 80 #[.int .i64 a, .int .i64 b, .bool c] w fun e w' => e = .returned (.tuple #[.int .i64 ((a - b - oneI c) % 256), .bool (decide (a - b - oneI c < 0))]) ∧ w = w' := by
  obtain ⟨a0, a1⟩ := inB_iff.1 ha
  obtain ⟨b0, b1⟩ := inB_iff.1 hb
  obtain ⟨c0, c1⟩ := oneI_in c
  have hm : (a - b - oneI c) % 256 = (a - b - oneI c + 512) % 256 := by omega
  rw [hm]
  clear hm
  go_enter Try.func80, Try.ntmps80
  go_wp2_with (first | (go_at_call 63; with_reducible refine (isByte_any a _).mono ?_; rintro e w' ⟨rfl, rfl⟩; rw [ha]) | (go_at_call 63; with_reducible refine (isByte_any b _).mono ?_; rintro e w' ⟨rfl, rfl⟩; rw [hb]) | (go_at_call 97; refine (one_any _ _).mono ?_; rintro e w' ⟨rfl, rfl⟩))
  refine bodyPost_ret (results_tmp2 (by rfl) _ _ _) rfl ?_
  exact ⟨rfl, rfl⟩
set_option maxHeartbeats 1000000 in
theorem subBytes_spec (a b : Int) (c : Bool) (w : World) (ha : inB a 0 255 = true) (hb : inB b 0 255 = true) :
    Calls Try.prog 88 #[.int .i64 a, .int .i64 b, .bool c] w fun e w' => e = .returned (.tuple #[.int .i64 ((a - b - oneI c) % 256), .bool (decide (a - b - oneI c < 0))]) ∧ w = w' := by
  obtain ⟨a0, a1⟩ := inB_iff.1 ha
  obtain ⟨b0, b1⟩ := inB_iff.1 hb
  obtain ⟨c0, c1⟩ := oneI_in c
  have hm : (a - b - oneI c) % 256 = (a - b - oneI c + 256) % 256 := by omega
  rw [hm]
  clear hm
  go_enter Try.func88, Try.ntmps88
  go_wp2_with (first | (go_at_call 37; with_reducible refine (l1Byte_any a _).mono ?_; rintro e w' ⟨rfl, rfl⟩; rw [ha]) | (go_at_call 37; with_reducible refine (l1Byte_any b _).mono ?_; rintro e w' ⟨rfl, rfl⟩; rw [hb]) | (go_at_call 99; refine (l1Bit_any _ _).mono ?_; rintro e w' ⟨rfl, rfl⟩))
  refine bodyPost_ret (results_tmp2 (by rfl) _ _ _) rfl ?_
  exact ⟨rfl, rfl⟩
set_option maxHeartbeats 1000000 in
theorem rotL_impl (a : Int) (c : Bool) (w : World) (ha : inB a 0 255 = true) :
    Calls Try.prog 81 #[.int .i64 a, .bool c] w fun e w' => e = .returned (.tuple #[.int .i64 ((2 * a + oneI c) % 256), .bool (decide (a ≥ 128))]) ∧ w = w' := by
  obtain ⟨a0, a1⟩ := inB_iff.1 ha
  obtain ⟨c0, c1⟩ := oneI_in c
  rw [← or_low c a0 a1]
  go_enter Try.func81, Try.ntmps81
  go_wp2_with (first | (go_at_call 63; with_reducible refine (isByte_any a _).mono ?_; rintro e w' ⟨rfl, rfl⟩; rw [ha]) | (go_at_call 97; refine (one_any _ _).mono ?_; rintro e w' ⟨rfl, rfl⟩))
  refine bodyPost_ret (results_tmp2 (by rfl) _ _ _) rfl ?_
  exact ⟨rfl, rfl⟩
set_option maxHeartbeats 1000000 in
theorem rotR_impl (a : Int) (c : Bool) (w : World) (ha : inB a 0 255 = true) :
    Calls Try.prog 82 #[.int .i64 a, .bool c] w fun e w' => e = .returned (.tuple #[.int .i64 (a / 2 + 128 * oneI c), .bool (a % 2 == 1)]) ∧ w = w' := by
  obtain ⟨a0, a1⟩ := inB_iff.1 ha
  obtain ⟨c0, c1⟩ := oneI_in c
  rw [← or_high c a0 a1]
  go_enter Try.func82, Try.ntmps82
  go_wp2_with (first | (go_at_call 63; with_reducible refine (isByte_any a _).mono ?_; rintro e w' ⟨rfl, rfl⟩; rw [ha]) | (go_at_call 97; refine (one_any _ _).mono ?_; rintro e w' ⟨rfl, rfl⟩))
  refine bodyPost_ret (results_tmp2 (by rfl) _ _ _) rfl ?_
  exact ⟨rfl, rfl⟩
set_option maxHeartbeats 1000000 in
theorem rotL_spec (a : Int) (c : Bool) (w : World) (ha : inB a 0 255 = true) :
    Calls Try.prog 89 #[.int .i64 a, .bool c] w fun e w' => e = .returned (.tuple #[.int .i64 ((2 * a + oneI c) % 256), .bool (decide (a ≥ 128))]) ∧ w = w' := by
  obtain ⟨a0, a1⟩ := inB_iff.1 ha
  obtain ⟨c0, c1⟩ := oneI_in c
  go_enter Try.func89, Try.ntmps89
  go_wp2_with (first | (go_at_call 37; with_reducible refine (l1Byte_any a _).mono ?_; rintro e w' ⟨rfl, rfl⟩; rw [ha]) | (go_at_call 99; refine (l1Bit_any _ _).mono ?_; rintro e w' ⟨rfl, rfl⟩))
  refine bodyPost_ret (results_tmp2 (by rfl) _ _ _) rfl ?_
  exact ⟨rfl, rfl⟩
set_option maxHeartbeats 1000000 in
theorem rotR_spec (a : Int) (c : Bool) (w : World) (ha : inB a 0 255 = true) :
    Calls Try.prog 90 #[.int .i64 a, .bool c] w fun e w' => e = .returned (.tuple #[.int .i64 (a / 2 + 128 * oneI c), .bool (a % 2 == 1)]) ∧ w = w' := by
  obtain ⟨a0, a1⟩ := inB_iff.1 ha
  obtain ⟨c0, c1⟩ := oneI_in c
  go_enter Try.func90, Try.ntmps90
  go_wp2_with (first | (go_at_call 37; with_reducible refine (l1Byte_any a _).mono ?_; rintro e w' ⟨rfl, rfl⟩; rw [ha]) | (go_at_call 99; refine (l1Bit_any _ _).mono ?_; rintro e w' ⟨rfl, rfl⟩))
  refine bodyPost_ret (results_tmp2 (by rfl) _ _ _) rfl ?_
  exact ⟨rfl, rfl⟩
end Go.Proofs.Ytgedfcccflobmaa
