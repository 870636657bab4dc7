/-
  Walk of the law FnFadeVolume: whatever the code, the law returns true. No condition.
-/
import Derived.Test.YtdhhkdkaigplaaaNoiseLaws
import Derived.Test.YtdhhkdkaigplaaaFade
namespace Go.Proofs.Ytdhhkdkaigplaaa
open Go.RowKit
set_option linter.unusedVariables false
set_option linter.unusedSimpArgs false
theorem div_mono {a b s : Int} (h : a ≤ b) (hs : 1 ≤ s) : a / s ≤ b / s := Int.ediv_le_ediv (by omega) h
set_option maxHeartbeats 2000000 in
theorem fnFadeVolume_walk (w : World) (A : Option Addr) (n c : Nat) (zs : List Int) (h : IsRow .u8 w A n c zs) :
    Calls Try.prog 7 #[.slice A n c] w fun e w' => e = .returned (.bool true) ∧ Below w.heap.size w w' := by
  by_cases hlong : 1048576 < n
  · go_enter Try.func7, Try.ntmps7
    go_wp2_with fail
    go_ret
    exact ⟨rfl, Below.refl _ _⟩
  have HI := Lib.hid h
  clear h
  have hl2 : ¬ 1048576 < n := hlong
  go_enter Try.func7, Try.ntmps7
  go_wp2_with fail
  refine (drawFadeVolume_any A n c zs _ HI.out).mono ?_
  rintro e w1 ⟨v, t, s, rfl, v0, v1, t0, t1, s0, s1, hb⟩
  have HB := Lib.hid hb
  clear hb
  cases hv : (inB v 0 15 && inB t 0 1000 && inB s 1 100)
  · have HD := Lib.hid (fade_out hv)
    clear hv
    go_wp2_with (first | (go_at_call 16; refine (fade_impl _ _ _ _).mono ?_; rintro e w' ⟨rfl, rfl⟩; rw [HD.out]) | (go_at_call 15; refine (fade_spec _ _ _ _).mono ?_; rintro e w' ⟨rfl, rfl⟩; rw [HD.out]) | (go_at_call 25; refine (alive_any _).mono ?_; rintro e w' ⟨rfl, rfl⟩))
    go_ret
    exact ⟨rfl, HB.out⟩
  · have HD := Lib.hid (fade_in hv)
    simp only [Bool.and_eq_true] at hv
    obtain ⟨⟨hv, ht⟩, hs⟩ := hv
    obtain ⟨a1, a2⟩ := inB_iff.1 hv
    obtain ⟨b1, b2⟩ := inB_iff.1 ht
    obtain ⟨c1, c2⟩ := inB_iff.1 hs
    obtain ⟨d1, d2⟩ := div_bd b1 b2 c1
    have q1 : (s - 1) / s = 0 := Int.ediv_eq_zero_of_lt (by omega) (by omega)
    have hs1 : inB (s - 1) 0 1000 = true := inB_true (by omega)
    have HD1 := Lib.hid (show fadeV v (s - 1) s = v by rw [fade_in (by simp [hv, hs1, hs]), q1]; omega)
    obtain ⟨m, hm⟩ : ∃ m, max (v - t / s) 0 = m := ⟨_, rfl⟩
    have hm0 : 0 ≤ m ∧ m ≤ v := by omega
    obtain ⟨m0, m1⟩ := hm0
    have hq : 15 * s / s = 15 := Int.mul_ediv_cancel _ (by omega)
    have hmm : t / s = t / s := rfl
    rw [hm] at HD
    by_cases h15 : 1000 < 15 * s
    · by_cases ht0 : t = 0
      · subst ht0
        clear hq q1 hs1 hv ht hs hm hmm d1 d2
        go_wp2_with (first | (go_at_call 16; refine (fade_impl _ _ _ _).mono ?_; rintro e w' ⟨rfl, rfl⟩; first | rw [HD.out] | rw [HD1.out]) | (go_at_call 15; refine (fade_spec _ _ _ _).mono ?_; rintro e w' ⟨rfl, rfl⟩; rw [HD.out]))
        go_ret
        exact ⟨rfl, HB.out⟩
      · have hdm := div_mono (a := t - 1) (b := t) (s := s) (by omega) c1
        have ht1 : inB (t - 1) 0 1000 = true := inB_true (by omega)
        obtain ⟨u, hu⟩ : ∃ u, fadeV v (t - 1) s = u := ⟨_, rfl⟩
        have hu2 : m ≤ u := by rw [← hu, fade_in (by simp [hv, ht1, hs]), ← hm]; omega
        have HU := Lib.hid hu
        have ht2 : (t == 0) = false := by simp [ht0]
        clear hq q1 hs1 hv ht hs hm hmm d1 d2 hu hdm ht1
        go_wp2_with (first | (go_at_call 16; refine (fade_impl _ _ _ _).mono ?_; rintro e w' ⟨rfl, rfl⟩; first | rw [HD.out] | rw [HD1.out] | rw [HU.out]) | (go_at_call 15; refine (fade_spec _ _ _ _).mono ?_; rintro e w' ⟨rfl, rfl⟩; rw [HD.out]))
        go_ret
        exact ⟨rfl, HB.out⟩
    · have hs15 : inB (15 * s) 0 1000 = true := inB_true (by omega)
      have HD2 := Lib.hid (show fadeV v (15 * s) s = 0 by rw [fade_in (by simp [hv, hs15, hs]), hq]; omega)
      by_cases ht0 : t = 0
      · subst ht0
        clear hq q1 hs1 hv ht hs hm hmm d1 d2 hs15
        go_wp2_with (first | (go_at_call 16; refine (fade_impl _ _ _ _).mono ?_; rintro e w' ⟨rfl, rfl⟩; first | rw [HD.out] | rw [HD1.out] | rw [HD2.out]) | (go_at_call 15; refine (fade_spec _ _ _ _).mono ?_; rintro e w' ⟨rfl, rfl⟩; rw [HD.out]))
        go_ret
        exact ⟨rfl, HB.out⟩
      · have hdm := div_mono (a := t - 1) (b := t) (s := s) (by omega) c1
        have ht1 : inB (t - 1) 0 1000 = true := inB_true (by omega)
        obtain ⟨u, hu⟩ : ∃ u, fadeV v (t - 1) s = u := ⟨_, rfl⟩
        have hu2 : m ≤ u := by rw [← hu, fade_in (by simp [hv, ht1, hs]), ← hm]; omega
        have HU := Lib.hid hu
        have ht2 : (t == 0) = false := by simp [ht0]
        clear hq q1 hs1 hv ht hs hm hmm d1 d2 hs15 hu hdm ht1
        go_wp2_with (first | (go_at_call 16; refine (fade_impl _ _ _ _).mono ?_; rintro e w' ⟨rfl, rfl⟩; first | rw [HD.out] | rw [HD1.out] | rw [HD2.out] | rw [HU.out]) | (go_at_call 15; refine (fade_spec _ _ _ _).mono ?_; rintro e w' ⟨rfl, rfl⟩; rw [HD.out]))
        go_ret
        exact ⟨rfl, HB.out⟩
end Go.Proofs.Ytdhhkdkaigplaaa
