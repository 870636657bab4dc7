/-
  ChangesValid: contract of the reference's. No condition but that lengths stay in range.
-/
import Derived.Test.YtkcabllnlbcgdaaChgV
import Derived.Deep.QuietTactic
import Derived.BigQuiet
namespace Go.Proofs.Ytkcabllnlbcgdaa
open Go.RowKit
set_option linter.unusedVariables false
set_option linter.unusedSimpArgs false
theorem l1In_eq {n lo hi : Int} {b : Bool} (h : inB n lo hi = b) (w : World) :
    Calls Try.prog 49 #[.int .i64 n, .int .i64 lo, .int .i64 hi] w fun e w' => e = .returned (.bool b) ∧ w = w' := by
  subst h
  exact l1In_any n lo hi w
theorem chg_no {ts : List Tri} (h : chgFrom 0 ts = false) : chgB ts = false := by simp [chgB, h]
theorem inB_last {x l : Int} (h : 0 ≤ l) : inB x l 31 = (inB x 0 31 && decide (l ≤ x)) := by
  rw [Bool.eq_iff_iff, Bool.and_eq_true, decide_eq_true_eq, inB_iff, inB_iff]
  omega
set_option maxHeartbeats 4000000 in
theorem changesValid_spec (A : Option Addr) (n c : Nat) (ts : List Tri) (w : World) (h : Reads w w.heap.size 3 A n (iv (fl3 ts))) (hn : n ≤ 1000000000) :
    Calls Try.prog 13 #[.slice A n c] w fun e w' => e = .returned (.bool (chgB ts)) ∧ Below w.heap.size w w' := by
  have hl := Tri.len h
  have H := Lib.hid h
  clear h
  go_enter Try.func13, Try.ntmps13
  go_wp2
  go_loopw [3] (fun i wr => ∃ (k : Nat) (l : Int), k ≤ n ∧ i = .int .i64 k ∧ chgFrom 0 ts = chgFrom l (ts.drop k) ∧ 0 ≤ l ∧ (k = 0 → l = 0) ∧ (0 < k → l = (ts.getD (k - 1) (0, 0, 0)).1) ∧ Below w.heap.size w wr) (fun i _ => n - (intOf i).toNat)
  case atStart => exact ⟨0, 0, Nat.zero_le _, rfl, rfl, by omega, by omega, by omega, Below.refl _ _⟩
  case round =>
    obtain ⟨k, l, hk, rfl, hall, hl0, hk0, hk1, hbel⟩ := hrel
    by_cases hlt : k < n
    · obtain ⟨b, off, e1, hb1, h0, h1, h2⟩ := Tri.spot (H.out.below hbel) hlt
      have hpr : 0 < k → w.heap.size = w.heap.size ∧ wr.cell? ⟨b, off + (k - 1) * 3, none⟩ = some (.int .i64 l) := by
        intro hp
        obtain ⟨b', off', e1', _, h0', _, _⟩ := Tri.spot (k := k - 1) (H.out.below hbel) (by omega)
        rw [e1] at e1'
        injection e1' with e1'
        injection e1' with e2 e3
        subst e2 e3
        rw [← hk1 hp] at h0'
        exact ⟨rfl, h0'⟩
      have e1 := Lib.hid e1
      rw [chg_step (by omega)] at hall
      have hnext : ts.getD k (0, 0, 0) = ts.getD k (0, 0, 0) := rfl
      obtain ⟨t, ht⟩ : ∃ t, t = ts.getD k (0, 0, 0) := ⟨_, rfl⟩
      have HT := Lib.hid ht
      rw [← ht] at h0 h1 h2 hall
      clear ht hnext hk1
      obtain ⟨x, y, z⟩ := t
      have q0 : (0 : Int) ≤ (k : Int) := by omega
      have q1 : (k : Int) < (n : Int) := by omega
      have l0 := Lib.hid hl0
      have HBEL := Lib.hid hbel
      have HALL := Lib.hid hall
      clear hbel H hall hl0
      have e3 := e1.out
      subst e3
      cases b0 : inB x 0 31
      · have b1 := trivial
        have b2 := trivial
        by_cases hp : 0 < k
        · clear hpr hk0
          go_wp2_with fail
          go_quiet ((first | ((with_reducible refine (l1In_eq b0 _).mono ?_); rintro e w' ⟨rfl, rfl⟩; exact ⟨rfl, _, rfl⟩) | ((with_reducible refine (l1In_eq b1 _).mono ?_); rintro e w' ⟨rfl, rfl⟩; exact ⟨rfl, _, rfl⟩) | ((with_reducible refine (l1In_eq b2 _).mono ?_); rintro e w' ⟨rfl, rfl⟩; exact ⟨rfl, _, rfl⟩)))
          go_wp2_with fail
          go_ret
          exact ⟨by rw [chg_no (by rw [HALL.out]; simp [b0, inB_last l0.out])]; rfl, below_drewN HBEL.out _⟩
        · clear hpr hk0
          go_wp2_with fail
          go_quiet ((first | ((with_reducible refine (l1In_eq b0 _).mono ?_); rintro e w' ⟨rfl, rfl⟩; exact ⟨rfl, _, rfl⟩) | ((with_reducible refine (l1In_eq b1 _).mono ?_); rintro e w' ⟨rfl, rfl⟩; exact ⟨rfl, _, rfl⟩) | ((with_reducible refine (l1In_eq b2 _).mono ?_); rintro e w' ⟨rfl, rfl⟩; exact ⟨rfl, _, rfl⟩)))
          go_wp2_with fail
          go_ret
          exact ⟨by rw [chg_no (by rw [HALL.out]; simp [b0, inB_last l0.out])]; rfl, below_drewN HBEL.out _⟩
      by_cases hp : 0 < k
      · obtain ⟨_, hc⟩ := hpr hp
        have g1 : decide ((k : Int) > 0) = true := decide_eq_true (by omega)
        have w1 : IntKind.i64.wrap ((k : Int) - 1) = ((k - 1 : Nat) : Int) := by rw [IntWalk.i64_in _ (by omega)]; omega
        have w2 : (k : Int) - 1 = ((k - 1 : Nat) : Int) := by omega
        have w3 : ((k - 1 : Nat) : Int) < (n : Int) := by omega
        clear hpr hk0
        cases c0 : decide (l ≤ x)
        · have c1 : decide (l > x) = true := by simpa using c0
          have b1 := trivial
          have b2 := trivial
          go_wp2_with fail
          go_quiet ((first | ((with_reducible refine (l1In_eq b0 _).mono ?_); rintro e w' ⟨rfl, rfl⟩; exact ⟨rfl, _, rfl⟩) | ((with_reducible refine (l1In_eq b1 _).mono ?_); rintro e w' ⟨rfl, rfl⟩; exact ⟨rfl, _, rfl⟩) | ((with_reducible refine (l1In_eq b2 _).mono ?_); rintro e w' ⟨rfl, rfl⟩; exact ⟨rfl, _, rfl⟩)))
          go_wp2_with fail
          go_ret
          exact ⟨by rw [chg_no (by rw [HALL.out]; simp only [b0, c0, inB_last l0.out]; rfl)]; rfl, below_drewN HBEL.out _⟩
        · have c1 : decide (l > x) = false := by simpa using c0
          cases b1 : inB y 0 255
          · have b2 := trivial
            go_wp2_with fail
            go_quiet ((first | ((with_reducible refine (l1In_eq b0 _).mono ?_); rintro e w' ⟨rfl, rfl⟩; exact ⟨rfl, _, rfl⟩) | ((with_reducible refine (l1In_eq b1 _).mono ?_); rintro e w' ⟨rfl, rfl⟩; exact ⟨rfl, _, rfl⟩) | ((with_reducible refine (l1In_eq b2 _).mono ?_); rintro e w' ⟨rfl, rfl⟩; exact ⟨rfl, _, rfl⟩)))
            go_wp2_with fail
            go_ret
            exact ⟨by rw [chg_no (by rw [HALL.out]; simp only [b0, b1, c0, inB_last l0.out]; rfl)]; rfl, below_drewN HBEL.out _⟩
          · cases b2 : inB z 0 255
            · go_wp2_with fail
              go_quiet ((first | ((with_reducible refine (l1In_eq b0 _).mono ?_); rintro e w' ⟨rfl, rfl⟩; exact ⟨rfl, _, rfl⟩) | ((with_reducible refine (l1In_eq b1 _).mono ?_); rintro e w' ⟨rfl, rfl⟩; exact ⟨rfl, _, rfl⟩) | ((with_reducible refine (l1In_eq b2 _).mono ?_); rintro e w' ⟨rfl, rfl⟩; exact ⟨rfl, _, rfl⟩)))
              go_wp2_with fail
              go_ret
              exact ⟨by rw [chg_no (by rw [HALL.out]; simp only [b0, b1, b2, c0, inB_last l0.out]; rfl)]; rfl, below_drewN HBEL.out _⟩
            · go_wp2_with fail
              go_quiet ((first | ((with_reducible refine (l1In_eq b0 _).mono ?_); rintro e w' ⟨rfl, rfl⟩; exact ⟨rfl, _, rfl⟩) | ((with_reducible refine (l1In_eq b1 _).mono ?_); rintro e w' ⟨rfl, rfl⟩; exact ⟨rfl, _, rfl⟩) | ((with_reducible refine (l1In_eq b2 _).mono ?_); rintro e w' ⟨rfl, rfl⟩; exact ⟨rfl, _, rfl⟩)))
              go_wp2_with fail
              go_roundw
              case rel => exact ⟨k + 1, x, by omega, by go_num, by rw [HALL.out]; simp only [b0, b1, b2, c0, inB_last l0.out]; rfl, (inB_iff.1 b0).1, by omega, by intro _; rw [Nat.add_sub_cancel, ← HT.out], below_drewN HBEL.out _⟩
              case measure => simp [intOf]; omega
      · have g1 : decide ((k : Int) > 0) = false := decide_eq_false (by omega)
        have hl2 := hk0 (by omega)
        have c0 : decide (l ≤ x) = true := decide_eq_true (by have := (inB_iff.1 b0).1; omega)
        clear hpr hk0 hl2
        cases b1 : inB y 0 255
        · have b2 := trivial
          go_wp2_with fail
          go_quiet ((first | ((with_reducible refine (l1In_eq b0 _).mono ?_); rintro e w' ⟨rfl, rfl⟩; exact ⟨rfl, _, rfl⟩) | ((with_reducible refine (l1In_eq b1 _).mono ?_); rintro e w' ⟨rfl, rfl⟩; exact ⟨rfl, _, rfl⟩) | ((with_reducible refine (l1In_eq b2 _).mono ?_); rintro e w' ⟨rfl, rfl⟩; exact ⟨rfl, _, rfl⟩)))
          go_wp2_with fail
          go_ret
          exact ⟨by rw [chg_no (by rw [HALL.out]; simp only [b0, b1, c0, inB_last l0.out]; rfl)]; rfl, below_drewN HBEL.out _⟩
        · cases b2 : inB z 0 255
          · go_wp2_with fail
            go_quiet ((first | ((with_reducible refine (l1In_eq b0 _).mono ?_); rintro e w' ⟨rfl, rfl⟩; exact ⟨rfl, _, rfl⟩) | ((with_reducible refine (l1In_eq b1 _).mono ?_); rintro e w' ⟨rfl, rfl⟩; exact ⟨rfl, _, rfl⟩) | ((with_reducible refine (l1In_eq b2 _).mono ?_); rintro e w' ⟨rfl, rfl⟩; exact ⟨rfl, _, rfl⟩)))
            go_wp2_with fail
            go_ret
            exact ⟨by rw [chg_no (by rw [HALL.out]; simp only [b0, b1, b2, c0, inB_last l0.out]; rfl)]; rfl, below_drewN HBEL.out _⟩
          · go_wp2_with fail
            go_quiet ((first | ((with_reducible refine (l1In_eq b0 _).mono ?_); rintro e w' ⟨rfl, rfl⟩; exact ⟨rfl, _, rfl⟩) | ((with_reducible refine (l1In_eq b1 _).mono ?_); rintro e w' ⟨rfl, rfl⟩; exact ⟨rfl, _, rfl⟩) | ((with_reducible refine (l1In_eq b2 _).mono ?_); rintro e w' ⟨rfl, rfl⟩; exact ⟨rfl, _, rfl⟩)))
            go_wp2_with fail
            go_roundw
            case rel => exact ⟨k + 1, x, by omega, by go_num, by rw [HALL.out]; simp only [b0, b1, b2, c0, inB_last l0.out]; rfl, (inB_iff.1 b0).1, by omega, by intro _; rw [Nat.add_sub_cancel, ← HT.out], below_drewN HBEL.out _⟩
            case measure => simp [intOf]; omega
    · obtain rfl : k = n := by omega
      rw [List.drop_eq_nil_of_le (by omega)] at hall
      by_cases h8 : k ≤ 8
      · have q : (k : Int) ≤ 8 := by omega
        have hs : chgB ts = true := by simp only [chgB, hall, hl, h8]; rfl
        have HS := Lib.hid hs
        clear hs hall hk0 hk1
        go_wp2
        go_ret
        exact ⟨by rw [HS.out]; simp [q], hbel⟩
      · have q : ¬ (k : Int) ≤ 8 := by omega
        have hs : chgB ts = false := by simp only [chgB, hl, h8]; rfl
        have HS := Lib.hid hs
        clear hs hall hk0 hk1
        go_wp2
        go_ret
        exact ⟨by rw [HS.out]; simp [q], hbel⟩
end Go.Proofs.Ytkcabllnlbcgdaa
