/-
  Channels: contracts of VoiceValid, SkipVoice in both packages, of toVoice and eqVoice. No condition.
-/
import Derived.Test.YtmenehgbhgehjaaBase
import Derived.RegionTactic
import Derived.ChangeAlike
import Derived.Handy
namespace Go.Proofs.Ytmenehgbhgehjaa
open Go.RowKit
set_option linter.unusedVariables false
structure Vo where
  l : Int
  h : Int
  a : Int
  s : Int
  f : Int
/-- A channel as a value. -/
@[reducible] def Vo.val (v : Vo) : Value := .agg #[.int .i64 v.l, .int .i64 v.h, .int .i64 v.a, .int .i64 v.s, .int .i64 v.f]
theorem bcell {W w1 : World} (hb : Below W.heap.size W w1) : (∀ b o, b < W.heap.size → w1.cell? ⟨b, o, none⟩ = W.cell? ⟨b, o, none⟩) ∧ (∀ b o, b < W.heap.size → w1.frozen? ⟨b, o, none⟩ = W.frozen? ⟨b, o, none⟩) :=
  ⟨fun b o h => hb.cell (p := ⟨b, o, none⟩) h, fun b o h => hb.frozen (p := ⟨b, o, none⟩) h⟩
/-- What VoiceValid returns. -/
def vvB (v : Vo) : Bool := inB v.l 1 100 && (inB v.h 0 8 && (inB v.a 0 15 && (inB v.s 0 7 && inB v.f 1 v.l)))
set_option maxHeartbeats 1000000 in
theorem voiceValid_impl (v : Vo) (w : World) :
    Calls Try.prog 21 #[v.val] w fun e w' => e = .returned (.bool (vvB v)) ∧ Below w.heap.size w w' := by
  cases h1 : inB v.l 1 100
  · rw [show vvB v = false by simp [vvB, h1]]
    go_enter Try.func21, Try.ntmps21
    go_wp2_with (go_at_call 56; refine (within_any _ _ _ _).mono ?_; rintro e w' ⟨rfl, rfl⟩)
    go_ret
    exact ⟨rfl, (Below.refl _ _).alloc (Nat.le_refl _) _⟩
  cases h2 : inB v.h 0 8
  · rw [show vvB v = false by simp [vvB, h2]]
    go_enter Try.func21, Try.ntmps21
    go_wp2_with (go_at_call 56; refine (within_any _ _ _ _).mono ?_; rintro e w' ⟨rfl, rfl⟩)
    go_ret
    exact ⟨rfl, (Below.refl _ _).alloc (Nat.le_refl _) _⟩
  cases h3 : inB v.a 0 15
  · rw [show vvB v = false by simp [vvB, h3]]
    go_enter Try.func21, Try.ntmps21
    go_wp2_with (go_at_call 56; refine (within_any _ _ _ _).mono ?_; rintro e w' ⟨rfl, rfl⟩)
    go_ret
    exact ⟨rfl, (Below.refl _ _).alloc (Nat.le_refl _) _⟩
  cases h4 : inB v.s 0 7
  · rw [show vvB v = false by simp [vvB, h4]]
    go_enter Try.func21, Try.ntmps21
    go_wp2_with (go_at_call 56; refine (within_any _ _ _ _).mono ?_; rintro e w' ⟨rfl, rfl⟩)
    go_ret
    exact ⟨rfl, (Below.refl _ _).alloc (Nat.le_refl _) _⟩
  cases h5 : inB v.f 1 v.l
  · rw [show vvB v = false by simp [vvB, h5]]
    go_enter Try.func21, Try.ntmps21
    go_wp2_with (go_at_call 56; refine (within_any _ _ _ _).mono ?_; rintro e w' ⟨rfl, rfl⟩)
    go_ret
    exact ⟨rfl, (Below.refl _ _).alloc (Nat.le_refl _) _⟩
  rw [show vvB v = true by simp [vvB, h1, h2, h3, h4, h5]]
  go_enter Try.func21, Try.ntmps21
  go_wp2_with (go_at_call 56; refine (within_any _ _ _ _).mono ?_; rintro e w' ⟨rfl, rfl⟩)
  go_ret
  exact ⟨rfl, (Below.refl _ _).alloc (Nat.le_refl _) _⟩
set_option maxHeartbeats 1000000 in
theorem voiceValid_spec (v : Vo) (w : World) :
    Calls Try.prog 18 #[v.val] w fun e w' => e = .returned (.bool (vvB v)) ∧ Below w.heap.size w w' := by
  cases h1 : inB v.l 1 100
  · rw [show vvB v = false by simp [vvB, h1]]
    go_enter Try.func18, Try.ntmps18
    go_wp2_with (go_at_call 58; refine (l1In_any _ _ _ _).mono ?_; rintro e w' ⟨rfl, rfl⟩)
    go_ret
    exact ⟨rfl, (Below.refl _ _).alloc (Nat.le_refl _) _⟩
  cases h2 : inB v.h 0 8
  · rw [show vvB v = false by simp [vvB, h2]]
    go_enter Try.func18, Try.ntmps18
    go_wp2_with (go_at_call 58; refine (l1In_any _ _ _ _).mono ?_; rintro e w' ⟨rfl, rfl⟩)
    go_ret
    exact ⟨rfl, (Below.refl _ _).alloc (Nat.le_refl _) _⟩
  cases h3 : inB v.a 0 15
  · rw [show vvB v = false by simp [vvB, h3]]
    go_enter Try.func18, Try.ntmps18
    go_wp2_with (go_at_call 58; refine (l1In_any _ _ _ _).mono ?_; rintro e w' ⟨rfl, rfl⟩)
    go_ret
    exact ⟨rfl, (Below.refl _ _).alloc (Nat.le_refl _) _⟩
  cases h4 : inB v.s 0 7
  · rw [show vvB v = false by simp [vvB, h4]]
    go_enter Try.func18, Try.ntmps18
    go_wp2_with (go_at_call 58; refine (l1In_any _ _ _ _).mono ?_; rintro e w' ⟨rfl, rfl⟩)
    go_ret
    exact ⟨rfl, (Below.refl _ _).alloc (Nat.le_refl _) _⟩
  cases h5 : inB v.f 1 v.l
  · rw [show vvB v = false by simp [vvB, h5]]
    go_enter Try.func18, Try.ntmps18
    go_wp2_with (go_at_call 58; refine (l1In_any _ _ _ _).mono ?_; rintro e w' ⟨rfl, rfl⟩)
    go_ret
    exact ⟨rfl, (Below.refl _ _).alloc (Nat.le_refl _) _⟩
  rw [show vvB v = true by simp [vvB, h1, h2, h3, h4, h5]]
  go_enter Try.func18, Try.ntmps18
  go_wp2_with (go_at_call 58; refine (l1In_any _ _ _ _).mono ?_; rintro e w' ⟨rfl, rfl⟩)
  go_ret
  exact ⟨rfl, (Below.refl _ _).alloc (Nat.le_refl _) _⟩
set_option maxHeartbeats 1000000 in
theorem toVoice_any (v : Vo) (w : World) :
    Calls Try.prog 23 #[v.val] w fun e w' => e = .returned v.val ∧ Below w.heap.size w w' := by
  go_enter Try.func23, Try.ntmps23
  go_wp2
  refine bodyPost_ret (v := v.val) (by simp [results, Try.results23, go_sem]) rfl ⟨rfl, ?_⟩
  exact (((Below.refl _ _).alloc (Nat.le_refl _) _).alloc (by simp) _).alloc (by simp; omega) _
/-- A valid channel after n samples. -/
def skipV (v : Vo) (n : Int) : Vo := ⟨v.l, v.h, v.a, (v.s + (v.l - v.f + n) / v.l) % 8, v.l - (v.l - v.f + n) % v.l⟩
/-- What SkipVoice returns. -/
def skipR (v : Vo) (n : Int) : Vo := if vvB v && inB n 0 100000 then skipV v n else ⟨0, 0, 0, 0, 0⟩
theorem vvB_bd {v : Vo} (h : vvB v = true) : (1 ≤ v.l ∧ v.l ≤ 100) ∧ (0 ≤ v.h ∧ v.h ≤ 8) ∧ (0 ≤ v.a ∧ v.a ≤ 15) ∧ (0 ≤ v.s ∧ v.s ≤ 7) ∧ 1 ≤ v.f ∧ v.f ≤ v.l := by
  simp only [vvB, Bool.and_eq_true, inB_iff] at h
  exact h
theorem quo_bd {p l : Int} (h0 : 0 ≤ p) (h2 : 1 ≤ l) : (0 ≤ p / l ∧ p / l ≤ p) ∧ 0 ≤ p % l ∧ p % l < l :=
  ⟨⟨Int.ediv_nonneg h0 (by omega), Int.ediv_le_self _ h0⟩, Int.emod_nonneg _ (by omega), Int.emod_lt_of_pos _ (by omega)⟩
theorem skip_lt {v : Vo} {n : Int} (hv : vvB v = true) (h0 : 0 ≤ n) (h : n < v.f) : skipV v n = ⟨v.l, v.h, v.a, v.s, v.f - n⟩ := by
  obtain ⟨⟨l1, l2⟩, -, -, ⟨s1, s2⟩, f1, f2⟩ := vvB_bd hv
  unfold skipV
  rw [Int.ediv_eq_zero_of_lt (a := v.l - v.f + n) (by omega) (by omega), Int.emod_eq_of_lt (a := v.l - v.f + n) (by omega) (by omega)]
  congr 1 <;> omega
theorem skip_ge {v : Vo} {n : Int} (hv : vvB v = true) (h : v.f ≤ n) : skipV v n = ⟨v.l, v.h, v.a, (v.s + 1 + (n - v.f) / v.l) % 8, v.l - (n - v.f) % v.l⟩ := by
  obtain ⟨⟨l1, l2⟩, -, -, ⟨s1, s2⟩, f1, f2⟩ := vvB_bd hv
  unfold skipV
  rw [show v.l - v.f + n = (n - v.f) + v.l by omega, Int.add_ediv_of_dvd_right (Int.dvd_refl _), Int.ediv_self (by omega), Int.add_emod_right]
  congr 1
  omega
set_option maxHeartbeats 1000000 in
theorem skipVoice_low (v : Vo) (n : Int) (w : World) (hv : vvB v = true) (h0 : 0 ≤ n) (h1 : n ≤ 100000) :
    Calls Try.prog 57 #[v.val, .int .i64 n] w fun e w' => e = .returned (skipV v n).val ∧ Below w.heap.size w w' := by
  obtain ⟨⟨l1, l2⟩, -, -, ⟨s1, s2⟩, f1, f2⟩ := vvB_bd hv
  obtain ⟨⟨d1, d2⟩, d3, d4⟩ := quo_bd (p := v.l - v.f + n) (l := v.l) (by omega) l1
  clear hv
  go_enter Try.func57, Try.ntmps57
  go_wp2
  go_region
  all_goals go_wp2
  all_goals go_region
  all_goals go_wp2
  all_goals refine bodyPost_ret (v := (skipV v n).val) (by simp [results, Try.results57, go_sem, skipV]) rfl ⟨rfl, ?_⟩
  all_goals go_grown
end Go.Proofs.Ytmenehgbhgehjaa
